/- errors.Is at readexpr's two kinds of error: the walk. -/
import Derived.Test.YtblbbjhbigpgnaaGreatDoorAsA
import Derived.Test.YtblbbjhbigpgnaaGreatDoorK2
import Derived.Test.YtblbbjhbigpgnaaGreatDoorShelf
import Derived.Test.YtblbbjhbigpgnaaGreatDoorOpsJ
namespace Go.Eng
open Go Go.RowKit
section
variable {P : Program} {E : Env} {n : Nat} {L : Slots} {g : Ghost} {own : List Res}
variable {d : Nat} {ty : TypeId} {pos : String} {after : Array Edge}
theorem val_eql_ifs {x y : Operand} {T T' t t' : TypeId} {u u' : Value} {r : Bool} (hx : ev L x = some (.iface t u)) (hy : ev L y = some (.iface t' u')) (h : ∀ w, (Op.equal T (.iface t u) (.iface t' u')).run P w = .ok r w) :
    Val P E n L g own ty (.binOp .eql T x y T') (.bool r) := fun a w dst pos after hF _ => by
  simp [execOp, hF.eval hx, hF.eval hy, eqGuard, binOp, h]
theorem val_eql_nilif {x y : Operand} {T T' t' : TypeId} {u' : Value} {r : Bool} (hx : ev L x = some .nilIface) (hy : ev L y = some (.iface t' u')) (h : ∀ w, (Op.equal T .nilIface (.iface t' u')).run P w = .ok r w) :
    Val P E n L g own ty (.binOp .eql T x y T') (.bool r) := fun a w dst pos after hF _ => by
  simp [execOp, hF.eval hx, hF.eval hy, eqGuard, binOp, h]
end
end Go.Eng
namespace Go.Proofs.YtblbbjhbigpgnaaGreatDoor
open Go Go.Eng Go.Th Go.Proofs Go.Extern Go.RowKit
set_option maxRecDepth 10000
set_option maxHeartbeats 4000000
attribute [local irreducible] wpList Code.wp Run bodyPost Go.Eng.Ends Exit.then Exit.inBlock Again Wq Kq
instance : Ext Tryz.prog 170 (ReflectliteType.method fun t => do Rtype.noPackHeld "Comparable" t; pure (.bool (← typeInfo t).comparable)) := ⟨_, Tryz.func170, by kernel_rfl, by kernel_rfl, by kernel_rfl, by kernel_rfl⟩
theorem is_to (v : Value) (w : World) : (ReflectliteType.typeOf #[.iface 108 v]).run Tryz.prog w = .ok (rty 108) w := by kernel_rfl
theorem is_mCmp (h : Value) (w : World) : (Go.method (Tryz.prog.types.size + Made.depth) 149 (.agg #[h]) "Comparable").run Tryz.prog w = .ok (170, .agg #[h]) w := by kernel_rfl
theorem is_cmp (w : World) : (ReflectliteType.method (fun t => do Rtype.noPackHeld "Comparable" t; pure (.bool (← typeInfo t).comparable)) #[.agg #[hnd 108]]).run Tryz.prog w = .ok (.bool true) w := by kernel_rfl
theorem is_eq1 (s : Value) (w : World) : (Op.equal 81 (.iface 139 (.agg #[s])) (.iface 108 (.agg #[]))).run Tryz.prog w = .ok false w := by kernel_rfl
theorem is_eq2 (w : World) : (Op.equal 81 (.iface 108 (.agg #[])) (.iface 108 (.agg #[]))).run Tryz.prog w = .ok true w := by kernel_rfl
theorem is_eq3 (w : World) : (Op.equal 81 .nilIface (.iface 108 (.agg #[]))).run Tryz.prog w = .ok false w := by kernel_rfl
theorem is_mUnw (s : Value) (w : World) : (Go.method (Tryz.prog.types.size + Made.depth) 139 (.agg #[s]) "Unwrap").run Tryz.prog w = .ok (167, .agg #[s]) w := by kernel_rfl
theorem is_ta1 (v : Value) (w : World) : (Instr.typeAssert (.iface 139 v) 81 151 true).run Tryz.prog w = .ok (.tuple #[.nilIface, .bool false]) w :=
  run_typeAssert_lacksB Tryz.underlying151 (by kernel_rfl) (by kernel_rfl) v _ w
theorem is_ta2 (v : Value) (w : World) : (Instr.typeAssert (.iface 139 v) 81 154 true).run Tryz.prog w = .ok (.tuple #[.iface 139 v, .bool true]) w :=
  run_typeAssert_hasB Tryz.underlying154 (by kernel_rfl) v _ w
theorem munwrap_spec (g : Ghost) (w : Bytes) : Pure Tryz.prog 167 [.agg #[str w]] g unexpV := by
  refine spec_of_run Tryz.func167 rfl Tryz.ntmps167 rfl fun E hE => ?_
  refine r_sr ?_
  refine r_box rfl rfl rfl (fun b1 => ?_)
  refine r_ev rfl rfl ?_; refine r_nn ?_; refine r_sr ?_; refine r_build rfl rfl (by rfl) ?_; refine r_mkIface rfl rfl ?_; refine r_ev rfl rfl ?_; refine r_nn ?_; refine r_retc ?_
  exact r_ret1 [] rfl rfl (by simp) ⟨rfl, rfl, rfl⟩
theorem eis_unexp (g : Ghost) : Pure Tryz.prog 89 [unexpV, unexpV, .bool true] g (.bool true) := by
  refine spec_of_run Tryz.func89 rfl Tryz.ntmps89 rfl fun E hE => ?_
  refine r_sr ?_; refine r_ev rfl rfl ?_; refine r_nn ?_; refine r_block ?_
  refine r_loop (ι := Unit) (fun _ => [(0, unexpV), (1, unexpV), (2, .bool true)]) (fun _ => g) (fun _ => []) (fun _ => True) (fun _ => 0) () trivial ⟨rfl, rfl, rfl, trivial⟩ rfl rfl ?_
  rintro _ -
  refine r_block ?_; refine r_seq ?_; refine r_sr ?_; refine r_ev rfl rfl ?_; refine r_ev rfl rfl ?_; refine r_tev rfl rfl rfl ?_; refine r_tev rfl rfl rfl ?_; refine r_take rfl ?_
  refine r_v rfl (val_eql_ifs rfl rfl is_eq2) ?_
  refine r_ev rfl rfl ?_; refine r_nn ?_; refine r_cond_true rfl ?_; refine r_sr ?_; refine r_ev rfl rfl ?_; refine r_nn ?_; refine r_retc ?_; refine r_then_ret ?_; refine r_in_ret ?_; refine r_then_ret ?_; refine r_in_ret ?_
  exact r_ret1 [] rfl rfl (by simp) ⟨rfl, rfl, rfl⟩
theorem eis_miss (g : Ghost) (s : Bytes) : Pure Tryz.prog 89 [missV s, unexpV, .bool true] g (.bool true) := by
  refine spec_of_run Tryz.func89 rfl Tryz.ntmps89 rfl fun E hE => ?_
  refine r_sr ?_; refine r_ev rfl rfl ?_; refine r_nn ?_; refine r_block ?_
  refine r_loop (ι := Bool) (fun c => [(0, if c then unexpV else missV s), (1, unexpV), (2, .bool true)]) (fun _ => g) (fun _ => []) (fun _ => True) (fun c => if c then 0 else 1) false trivial ⟨rfl, rfl, rfl, trivial⟩ rfl rfl ?_
  rintro c -
  cases c with
  | false =>
    show Run E _ [(0, missV s), (1, unexpV), (2, .bool true)] g [] _
    refine r_block ?_; refine r_seq ?_; refine r_sr ?_; refine r_ev rfl rfl ?_; refine r_ev rfl rfl ?_; refine r_tev rfl rfl rfl ?_; refine r_tev rfl rfl rfl ?_; refine r_take rfl ?_
    refine r_v rfl (val_eql_ifs rfl rfl (is_eq1 _)) ?_
    refine r_ev rfl rfl ?_; refine r_nn ?_; refine r_cond_false rfl ?_; refine r_skip ?_; refine r_then_normal ?_; refine r_seq ?_; refine r_sr ?_; refine r_ev rfl rfl ?_
    refine r_v rfl (val_tassert rfl (is_ta1 _)) ?_
    refine r_ev rfl rfl ?_; refine r_ev rfl rfl ?_; refine r_ev rfl rfl ?_; refine r_ev rfl rfl ?_; refine r_ev rfl rfl ?_; refine r_nn ?_; refine r_sr ?_; refine r_ev rfl rfl ?_; refine r_ev rfl rfl ?_; refine r_pass rfl rfl rfl ?_; refine r_pass rfl rfl rfl ?_; refine r_pass rfl rfl rfl ?_; refine r_ev rfl rfl ?_; refine r_nn ?_; refine r_cond_false rfl ?_; refine r_skip ?_; refine r_then_normal ?_; refine r_sr ?_; refine r_ev rfl rfl ?_; refine r_nn ?_; refine r_block ?_; refine r_sr ?_
    refine r_v rfl (val_tassert rfl (is_ta2 _)) ?_
    refine r_ev rfl rfl ?_; refine r_ev rfl rfl ?_; refine r_nn ?_; refine r_cond_true rfl ?_; refine r_sr ?_; refine r_ev rfl rfl ?_; refine r_nn ?_; refine r_sr ?_; refine r_ev rfl rfl ?_
    refine r_invokeP rfl rfl rfl (is_mUnw _) (munwrap_spec g s) ?_
    refine r_ev rfl rfl ?_; refine r_nn ?_; refine r_sr ?_; refine r_ev rfl rfl ?_; refine r_eql_nil_held rfl rfl ?_; refine r_nn ?_; refine r_cond_false rfl ?_; refine r_skip ?_; refine r_in_normal ?_; refine r_in_normal ?_; refine r_then_normal ?_
    exact r_again true trivial (by decide) ⟨rfl, rfl, rfl, trivial⟩ rfl rfl
  | true =>
    show Run E _ [(0, unexpV), (1, unexpV), (2, .bool true)] g [] _
    refine r_block ?_; refine r_seq ?_; refine r_sr ?_; refine r_ev rfl rfl ?_; refine r_ev rfl rfl ?_; refine r_tev rfl rfl rfl ?_; refine r_tev rfl rfl rfl ?_; refine r_take rfl ?_
    refine r_v rfl (val_eql_ifs rfl rfl is_eq2) ?_
    refine r_ev rfl rfl ?_; refine r_nn ?_; refine r_cond_true rfl ?_; refine r_sr ?_; refine r_ev rfl rfl ?_; refine r_nn ?_; refine r_retc ?_; refine r_then_ret ?_; refine r_in_ret ?_; refine r_then_ret ?_; refine r_in_ret ?_
    exact r_ret1 [] rfl rfl (by simp) ⟨rfl, rfl, rfl⟩
theorem eIs_nil (g : Ghost) : Pure Tryz.prog 56 [.nilIface, unexpV] g (.bool false) := by
  refine spec_of_run Tryz.func56 rfl Tryz.ntmps56 rfl fun E hE => ?_
  refine r_sr ?_; refine r_ev rfl rfl ?_; refine r_nn ?_; refine r_seq ?_; refine r_sr ?_; refine r_ev rfl rfl ?_; refine r_eql_nil_nil rfl rfl ?_; refine r_ev rfl rfl ?_; refine r_pass rfl rfl rfl ?_; refine r_pass rfl rfl rfl ?_; refine r_ev rfl rfl ?_; refine r_nn ?_; refine r_cond_true rfl ?_; refine r_sr ?_; refine r_ev rfl rfl ?_; refine r_ev rfl rfl ?_
  refine r_v rfl (val_eql_nilif rfl rfl is_eq3) ?_
  refine r_ev rfl rfl ?_; refine r_nn ?_; refine r_retc ?_; refine r_then_ret ?_
  exact r_ret1 [] rfl rfl (by simp) ⟨rfl, rfl, rfl⟩
theorem eIs_err (g : Ghost) (v : Value) (hv : ErrV v) : Pure Tryz.prog 56 [v, unexpV] g (.bool true) := by
  obtain ⟨t, u, rfl, ⟨rfl, s, rfl⟩ | ⟨rfl, rfl⟩⟩ := hv
  · refine spec_of_run Tryz.func56 rfl Tryz.ntmps56 rfl fun E hE => ?_
    refine r_sr ?_; refine r_ev rfl rfl ?_; refine r_nn ?_; refine r_seq ?_; refine r_sr ?_; refine r_ev rfl rfl ?_; refine r_eql_nil_held rfl rfl ?_; refine r_ev rfl rfl ?_; refine r_tev rfl rfl rfl ?_; refine r_take rfl ?_; refine r_eql_nil_held rfl rfl ?_; refine r_ev rfl rfl ?_; refine r_nn ?_; refine r_cond_false rfl ?_; refine r_skip ?_; refine r_then_normal ?_; refine r_sr ?_; refine r_ev rfl rfl ?_
    refine r_v rfl (val_ext rfl (is_to _)) ?_
    skip
    refine r_v rfl (val_invoke rfl rfl (is_mCmp _) is_cmp) ?_
    refine r_ev rfl rfl ?_; refine r_nn ?_; refine r_sr ?_; refine r_ev rfl rfl ?_; refine r_ev rfl rfl ?_; refine r_ev rfl rfl ?_
    refine r_callP rfl rfl (eis_miss g s) ?_
    refine r_ev rfl rfl ?_; refine r_nn ?_; refine r_retc ?_
    exact r_ret1 [] rfl rfl (by simp) ⟨rfl, rfl, rfl⟩
  · refine spec_of_run Tryz.func56 rfl Tryz.ntmps56 rfl fun E hE => ?_
    refine r_sr ?_; refine r_ev rfl rfl ?_; refine r_nn ?_; refine r_seq ?_; refine r_sr ?_; refine r_ev rfl rfl ?_; refine r_eql_nil_held rfl rfl ?_; refine r_ev rfl rfl ?_; refine r_tev rfl rfl rfl ?_; refine r_take rfl ?_; refine r_eql_nil_held rfl rfl ?_; refine r_ev rfl rfl ?_; refine r_nn ?_; refine r_cond_false rfl ?_; refine r_skip ?_; refine r_then_normal ?_; refine r_sr ?_; refine r_ev rfl rfl ?_
    refine r_v rfl (val_ext rfl (is_to _)) ?_
    skip
    refine r_v rfl (val_invoke rfl rfl (is_mCmp _) is_cmp) ?_
    refine r_ev rfl rfl ?_; refine r_nn ?_; refine r_sr ?_; refine r_ev rfl rfl ?_; refine r_ev rfl rfl ?_; refine r_ev rfl rfl ?_
    refine r_callP rfl rfl (eis_unexp g) ?_
    refine r_ev rfl rfl ?_; refine r_nn ?_; refine r_retc ?_
    exact r_ret1 [] rfl rfl (by simp) ⟨rfl, rfl, rfl⟩
end Go.Proofs.YtblbbjhbigpgnaaGreatDoor
-- sum 2887c2d1e4320282
/- The walks of package readexpr: strconv.Atoi at digits; atom. -/
namespace Go.Th
def TQ.moves : TQ → Bool
  | .args _ _ => false
  | _ => true
theorem tread_bnd (l : List Tok) : ∀ (N : Nat) (q : TQ) (i : Nat) (x : Ty × Nat), tmu l q i < N → i ≤ l.length → tread l q i = .ok x → x.2 ≤ l.length ∧ (q.moves = true → i < x.2)
  | 0, _, _, _, h, _, _ => by omega
  | N + 1, q, i, x, hN, hi, h => by
    have ih := tread_bnd l N
    cases q with
    | atom =>
      rw [tread_atom] at h
      split at h
      · cases h
      · rename_i t ht
        have hi := (List.getElem?_eq_some_iff.1 ht).1
        split at h
        · cases h; exact ⟨hi, fun _ => Nat.lt_succ_self _⟩
        · split at h
          · cases h; exact ⟨hi, fun _ => Nat.lt_succ_self _⟩
          · split at h
            · split at h
              · cases h
              · rename_i y j h1
                have i1 := ih .whole (i + 1) (y, j) (by simp only [tmu, TQ.rank] at *; omega) hi h1
                have i2 := i1.2 rfl
                simp only at i2
                split at h
                · rename_i hm
                  have := tokAt_lt hm
                  cases h; exact ⟨this, fun _ => by simp only; omega⟩
                · cases h
            · cases h
    | args n acc =>
      rw [tread_args] at h
      split at h
      · rename_i hs
        have hi := startsAt_lt hs
        split at h
        · cases h
        · rename_i y j h1
          have i0 := ih .atom i (y, j) (by simp only [tmu, TQ.rank] at *; omega) (by omega) h1
          split at h
          · rename_i hij
            have i1 := ih _ j x (by simp only [tmu, TQ.rank] at *; omega) i0.1 h
            exact ⟨i1.1, fun h => by cases h⟩
          · cases h
      · cases h; exact ⟨hi, fun h => by cases h⟩
    | applied =>
      rw [tread_applied] at h
      split at h
      · rename_i t ht
        have hi := (List.getElem?_eq_some_iff.1 ht).1
        split at h
        · have i1 := ih _ (i + 1) x (by simp only [tmu, TQ.rank] at *; omega) hi h
          have i2 := tread_prog l _ _ _ _ (Nat.lt_succ_self _) h
          exact ⟨i1.1, fun _ => by omega⟩
        · have i1 := ih .atom i x (by simp only [tmu, TQ.rank] at *; omega) (by omega) h
          exact ⟨i1.1, fun _ => i1.2 rfl⟩
      · have i1 := ih .atom i x (by simp only [tmu, TQ.rank] at *; omega) (by omega) h
        exact ⟨i1.1, fun _ => i1.2 rfl⟩
    | whole =>
      rw [tread_whole] at h
      split at h
      · cases h
      · rename_i a j h1
        have i1 := ih .applied i (a, j) (by simp only [tmu, TQ.rank] at *; omega) hi h1
        have i1' := i1.2 rfl
        simp only at i1'
        split at h
        · rename_i hm
          have hj := tokAt_lt hm
          split at h
          · split at h
            · cases h
            · rename_i b k h2
              have i2 := ih .whole (j + 1) (b, k) (by simp only [tmu, TQ.rank] at *; omega) hj h2
              have i2' := i2.2 rfl
              simp only at i2'
              cases h
              exact ⟨i2.1, fun _ => by simp only; omega⟩
          · cases h
        · cases h; exact ⟨i1.1, fun _ => i1'⟩
end Go.Th
namespace Go.Proofs.YtblbbjhbigpgnaaGreatDoor
open Go Go.Eng Go.Th Go.Proofs
set_option maxRecDepth 10000
set_option maxHeartbeats 4000000
attribute [local irreducible] wpList Code.wp Run bodyPost Go.Eng.Ends Exit.then Exit.inBlock Again Wq Kq
theorem decFrom_num : ∀ (s : Bytes) (acc : Nat), (∀ c ∈ s, digit c = true) → ∃ n : Nat, Lib.decFrom acc s = some n ∧ (n : Int) = s.foldl (fun n c => 10 * n + (c.toNat - 48 : Int)) (acc : Int)
  | [], acc, _ => ⟨acc, rfl, rfl⟩
  | c :: r, acc, h => by
    have hc := h c (List.mem_cons_self ..)
    simp only [digit, Bool.and_eq_true, decide_eq_true_eq] at hc
    have hd : Lib.digitVal c = some (c.toNat - 48) := by
      unfold Lib.digitVal
      rw [if_pos hc]
    obtain ⟨n, h1, h2⟩ := decFrom_num r (acc * 10 + (c.toNat - 48)) (fun x hx => h x (List.mem_cons_of_mem _ hx))
    refine ⟨n, by unfold Lib.decFrom; rw [hd]; exact h1, ?_⟩
    rw [h2, List.foldl_cons]
    congr 1
    omega
theorem atoi_num {s : Bytes} (h : kindOf s = 3) : Lib.atoi s = some (numOf s) ∧ s.length ≤ 9 := by
  have h3 := kind3 h
  refine ⟨?_, h3.1⟩
  cases s with
  | nil => exact absurd h (by decide)
  | cons c r =>
    obtain ⟨n, h1, h2⟩ := decFrom_num (c :: r) 0 h3.2
    have hc := h3.2 c (List.mem_cons_self ..)
    simp only [digit, Bool.and_eq_true, decide_eq_true_eq] at hc
    unfold Lib.atoi
    have e1 : (c == 45) = false := by
      rw [beq_eq_false_iff_ne]
      rintro rfl
      exact absurd hc.1 (by decide)
    have e2 : (c == 43) = false := by
      rw [beq_eq_false_iff_ne]
      rintro rfl
      exact absurd hc.1 (by decide)
    simp only [e1, e2, Bool.false_eq_true, if_false]
    unfold Lib.decNat
    simp only [List.isEmpty_cons, Bool.false_eq_true, if_false, h1, Option.map_some]
    rw [h2]
    rfl
theorem Atoi_num (g : Ghost) {s : Bytes} (h : kindOf s = 3) : Pure Tryz.prog 75 [str s] g (.tuple #[.int .i64 (numOf s), .nilIface]) := by
  obtain ⟨h1, h2⟩ := atoi_num h
  refine pure_of_below fun w hH => (Tryz.strconv_Atoi ⟨⟨s⟩⟩ (numOf s) (by show s.length ≤ _; omega) h1 w).mono fun e w' hh => ?_
  obtain ⟨he, t, rfl⟩ := hh
  exact ⟨he, Lib.bytesWorld_below _ _ _⟩
theorem idx_nat {n k : Nat} (h : k ≤ n) : idxOf n (k : Int) = k := by
  unfold idxOf
  rw [if_neg (by omega)]
  omega
theorem ansP_ok {t : Ty} {j : Nat} {v : Value} {g' : Ghost} (h : ansPost (.ok (t, j)) v g') : ∃ tv, v = .tuple #[tv, .int .i64 j, .agg #[.int .i64 0, .int .i64 0]] ∧ TyV g' tv t := h
theorem ansP_err {p : Int} {v : Value} {g' : Ghost} (h : ansPost (.error p) v g') : ∃ tv, v = .tuple #[tv, .int .i64 0, .agg #[.int .i64 3, .int .i64 p]] ∧ TyV g' tv noT := h
theorem errV_unexp : ErrV unexpV := ⟨_, _, rfl, .inr ⟨rfl, rfl⟩⟩
section
variable {l : List Tok} (hb : TB l) (hkw : KW l) (m : Nat) (lv : Value) (b : Nat)
  (hX : ∀ g i, ErrT g → ToksAt g lv l → i ≤ l.length → l.length - i < m → SpecL Tryz.prog 37 [ptr b 0] g (rdE b lv i 0) (postE l i b lv (eread l .expr i)))
include hb hkw hX
theorem eatom_step (g : Ghost) (i : Nat) (hg : ErrT g) (hs : ToksAt g lv l) (hi : i ≤ l.length) (hm : l.length - i < m + 1) :
    SpecL Tryz.prog 46 [ptr b 0] g (rdE b lv i 0) (postE l i b lv (eread l .atom i)) := by
  have hb1 := hb.1
  have hr := eread_step l .atom i
  simp only [estep] at hr
  obtain ⟨la, lc, rfl⟩ := slForm2 hs
  refine spec_of_run Tryz.func46 rfl Tryz.ntmps46 rfl fun E hE => ?_
  refine r_sr ?_
  refine r_alloc rfl (fun b2 => ?_)
  refine r_ev rfl rfl ?_; refine r_nn ?_; refine r_seq ?_; refine r_seq ?_
  refine h_beginE [] mixed (fun hG => ?_)
  refine h_takeX 0 rfl (by kernel_rfl) rfl hG (by first | exact Ghost.le_refl _ | assumption) (by repeat' (first | exact List.nil_sublist _ | refine List.Sublist.cons_cons _ ?_ | refine List.Sublist.cons _ ?_)) ?_; refine ⟨_, (val_ev rfl), ?_⟩; refine h_takeX 1 rfl (by kernel_rfl) rfl hG (by first | exact Ghost.le_refl _ | assumption) (by repeat' (first | exact List.nil_sublist _ | refine List.Sublist.cons_cons _ ?_ | refine List.Sublist.cons _ ?_)) ?_; refine ⟨_, (val_ev rfl), ?_⟩; refine h_takeX 2 rfl (by kernel_rfl) rfl hG (by first | exact Ghost.le_refl _ | assumption) (by repeat' (first | exact List.nil_sublist _ | refine List.Sublist.cons_cons _ ?_ | refine List.Sublist.cons _ ?_)) ?_; refine ⟨_, (val_fieldAddr rfl), ?_⟩; refine h_takeX 3 rfl (by kernel_rfl) rfl hG (by first | exact Ghost.le_refl _ | assumption) (by repeat' (first | exact List.nil_sublist _ | refine List.Sublist.cons_cons _ ?_ | refine List.Sublist.cons _ ?_)) ?_; refine ⟨_, (val_loadB1 1 rfl rfl rfl), ?_⟩; refine h_takeX 4 rfl (by kernel_rfl) rfl hG (by first | exact Ghost.le_refl _ | assumption) (by repeat' (first | exact List.nil_sublist _ | refine List.Sublist.cons_cons _ ?_ | refine List.Sublist.cons _ ?_)) ?_; refine ⟨_, (val_ev rfl), ?_⟩; refine h_takeX 5 rfl (by kernel_rfl) rfl hG (by first | exact Ghost.le_refl _ | assumption) (by repeat' (first | exact List.nil_sublist _ | refine List.Sublist.cons_cons _ ?_ | refine List.Sublist.cons _ ?_)) ?_; refine ⟨_, (val_ev rfl), ?_⟩; refine h_takeX 6 rfl (by kernel_rfl) rfl hG (by first | exact Ghost.le_refl _ | assumption) (by repeat' (first | exact List.nil_sublist _ | refine List.Sublist.cons_cons _ ?_ | refine List.Sublist.cons _ ?_)) ?_; refine ⟨_, (val_fieldAddr rfl), ?_⟩; refine h_takeX 7 rfl (by kernel_rfl) rfl hG (by first | exact Ghost.le_refl _ | assumption) (by repeat' (first | exact List.nil_sublist _ | refine List.Sublist.cons_cons _ ?_ | refine List.Sublist.cons _ ?_)) ?_; refine ⟨_, (val_loadB1 1 rfl rfl rfl), ?_⟩; refine h_takeX 8 rfl (by kernel_rfl) rfl hG (by first | exact Ghost.le_refl _ | assumption) (by repeat' (first | exact List.nil_sublist _ | refine List.Sublist.cons_cons _ ?_ | refine List.Sublist.cons _ ?_)) ?_; refine ⟨_, (val_len_sl rfl), ?_⟩; refine h_takeX 9 rfl (by kernel_rfl) rfl hG (by first | exact Ghost.le_refl _ | assumption) (by repeat' (first | exact List.nil_sublist _ | refine List.Sublist.cons_cons _ ?_ | refine List.Sublist.cons _ ?_)) ?_; refine ⟨_, (val_ev rfl), ?_⟩; refine h_takeX 10 rfl (by kernel_rfl) rfl hG (by first | exact Ghost.le_refl _ | assumption) (by repeat' (first | exact List.nil_sublist _ | refine List.Sublist.cons_cons _ ?_ | refine List.Sublist.cons _ ?_)) ?_; refine ⟨_, (val_ev rfl), ?_⟩
  refine r_dec 21 rfl (fun hlt => ?_) (fun hlt => ?_)
  · rw [List.getElem?_eq_none (by omega)] at hr
    refine h_pass 11 rfl rfl rfl (by kernel_rfl) rfl hG (by first | exact Ghost.le_refl _ | assumption) (by repeat' (first | exact List.nil_sublist _ | refine List.Sublist.cons_cons _ ?_ | refine List.Sublist.cons _ ?_)) ?_; refine h_pass 12 rfl rfl rfl (by kernel_rfl) rfl hG (by first | exact Ghost.le_refl _ | assumption) (by repeat' (first | exact List.nil_sublist _ | refine List.Sublist.cons_cons _ ?_ | refine List.Sublist.cons _ ?_)) ?_; refine h_pass 13 rfl rfl rfl (by kernel_rfl) rfl hG (by first | exact Ghost.le_refl _ | assumption) (by repeat' (first | exact List.nil_sublist _ | refine List.Sublist.cons_cons _ ?_ | refine List.Sublist.cons _ ?_)) ?_; refine h_pass 14 rfl rfl rfl (by kernel_rfl) rfl hG (by first | exact Ghost.le_refl _ | assumption) (by repeat' (first | exact List.nil_sublist _ | refine List.Sublist.cons_cons _ ?_ | refine List.Sublist.cons _ ?_)) ?_; refine h_pass 15 rfl rfl rfl (by kernel_rfl) rfl hG (by first | exact Ghost.le_refl _ | assumption) (by repeat' (first | exact List.nil_sublist _ | refine List.Sublist.cons_cons _ ?_ | refine List.Sublist.cons _ ?_)) ?_; refine h_pass 16 rfl rfl rfl (by kernel_rfl) rfl hG (by first | exact Ghost.le_refl _ | assumption) (by repeat' (first | exact List.nil_sublist _ | refine List.Sublist.cons_cons _ ?_ | refine List.Sublist.cons _ ?_)) ?_; refine h_pass 17 rfl rfl rfl (by kernel_rfl) rfl hG (by first | exact Ghost.le_refl _ | assumption) (by repeat' (first | exact List.nil_sublist _ | refine List.Sublist.cons_cons _ ?_ | refine List.Sublist.cons _ ?_)) ?_; refine h_pass 18 rfl rfl rfl (by kernel_rfl) rfl hG (by first | exact Ghost.le_refl _ | assumption) (by repeat' (first | exact List.nil_sublist _ | refine List.Sublist.cons_cons _ ?_ | refine List.Sublist.cons _ ?_)) ?_; refine h_pass 19 rfl rfl rfl (by kernel_rfl) rfl hG (by first | exact Ghost.le_refl _ | assumption) (by repeat' (first | exact List.nil_sublist _ | refine List.Sublist.cons_cons _ ?_ | refine List.Sublist.cons _ ?_)) ?_; refine h_pass 20 rfl rfl rfl (by kernel_rfl) rfl hG (by first | exact Ghost.le_refl _ | assumption) (by repeat' (first | exact List.nil_sublist _ | refine List.Sublist.cons_cons _ ?_ | refine List.Sublist.cons _ ?_)) ?_; refine h_pass 21 rfl rfl rfl (by kernel_rfl) rfl hG (by first | exact Ghost.le_refl _ | assumption) (by repeat' (first | exact List.nil_sublist _ | refine List.Sublist.cons_cons _ ?_ | refine List.Sublist.cons _ ?_)) ?_; refine h_pass 22 rfl rfl rfl (by kernel_rfl) rfl hG (by first | exact Ghost.le_refl _ | assumption) (by repeat' (first | exact List.nil_sublist _ | refine List.Sublist.cons_cons _ ?_ | refine List.Sublist.cons _ ?_)) ?_; refine h_takeX 23 rfl (by kernel_rfl) rfl hG (by first | exact Ghost.le_refl _ | assumption) (by repeat' (first | exact List.nil_sublist _ | refine List.Sublist.cons_cons _ ?_ | refine List.Sublist.cons _ ?_)) ?_; refine ⟨_, (val_ev rfl), ?_⟩
    refine h_done (by kernel_rfl) ?_
    refine r_then_normal ?_; refine r_cond_true rfl ?_; refine r_sr ?_; refine r_build rfl rfl (by rfl) ?_; refine r_ev rfl rfl ?_
    refine r_callL 1 rfl rfl rfl (efail_spec g l hb _ hs b i _) ?_
    rintro v g1 r' ⟨rfl, rfl, rfl⟩ _
    refine r_storeA 0 rfl rfl rfl rfl (by rfl) (by repeat' (first | exact rfl | assumption | refine all_cons ?_ ?_)) rfl ?_; refine r_ev rfl rfl ?_; refine r_nn ?_; refine r_retc ?_; refine r_then_ret ?_
    refine r_ret2 [_] rfl (res_blk 0 rfl rfl (by rfl)) (.tmp rfl) (.cons _ (List.Sublist.refl _)) ⟨_, rfl, ?_⟩
    rw [hr]
    exact ⟨_, _, _, rfl, noE_V g1, errV_miss _, i, hi, rfl⟩
  have hlt' : i < l.length := by omega
  obtain ⟨b0, off, cap, hsl, hxx⟩ := hs.held hlt'
  cases hsl
  rw [toks_some hlt'] at hr
  simp only at hr
  refine h_takeGX 11 rfl rfl (by kernel_rfl) rfl hG (by first | exact Ghost.le_refl _ | assumption) (by repeat' (first | exact List.nil_sublist _ | refine List.Sublist.cons_cons _ ?_ | refine List.Sublist.cons _ ?_)) ?_; refine ⟨_, (val_ev rfl), ?_⟩; refine h_takeGX 12 rfl rfl (by kernel_rfl) rfl hG (by first | exact Ghost.le_refl _ | assumption) (by repeat' (first | exact List.nil_sublist _ | refine List.Sublist.cons_cons _ ?_ | refine List.Sublist.cons _ ?_)) ?_; refine ⟨_, (val_ev rfl), ?_⟩; refine h_takeGX 13 rfl rfl (by kernel_rfl) rfl hG (by first | exact Ghost.le_refl _ | assumption) (by repeat' (first | exact List.nil_sublist _ | refine List.Sublist.cons_cons _ ?_ | refine List.Sublist.cons _ ?_)) ?_; refine ⟨_, (val_fieldAddr rfl), ?_⟩; refine h_takeGX 14 rfl rfl (by kernel_rfl) rfl hG (by first | exact Ghost.le_refl _ | assumption) (by repeat' (first | exact List.nil_sublist _ | refine List.Sublist.cons_cons _ ?_ | refine List.Sublist.cons _ ?_)) ?_; refine ⟨_, (val_loadB1 1 rfl rfl rfl), ?_⟩; refine h_takeGX 15 rfl rfl (by kernel_rfl) rfl hG (by first | exact Ghost.le_refl _ | assumption) (by repeat' (first | exact List.nil_sublist _ | refine List.Sublist.cons_cons _ ?_ | refine List.Sublist.cons _ ?_)) ?_; refine ⟨_, (val_ev rfl), ?_⟩; refine h_takeGX 16 rfl rfl (by kernel_rfl) rfl hG (by first | exact Ghost.le_refl _ | assumption) (by repeat' (first | exact List.nil_sublist _ | refine List.Sublist.cons_cons _ ?_ | refine List.Sublist.cons _ ?_)) ?_; refine ⟨_, (val_ev rfl), ?_⟩; refine h_takeGX 17 rfl rfl (by kernel_rfl) rfl hG (by first | exact Ghost.le_refl _ | assumption) (by repeat' (first | exact List.nil_sublist _ | refine List.Sublist.cons_cons _ ?_ | refine List.Sublist.cons _ ?_)) ?_; refine ⟨_, (val_fieldAddr rfl), ?_⟩; refine h_takeGX 18 rfl rfl (by kernel_rfl) rfl hG (by first | exact Ghost.le_refl _ | assumption) (by repeat' (first | exact List.nil_sublist _ | refine List.Sublist.cons_cons _ ?_ | refine List.Sublist.cons _ ?_)) ?_; refine ⟨_, (val_loadB1 1 rfl rfl rfl), ?_⟩
  refine h_takeGX 19 rfl rfl (by kernel_rfl) rfl hG (by first | exact Ghost.le_refl _ | assumption) (by repeat' (first | exact List.nil_sublist _ | refine List.Sublist.cons_cons _ ?_ | refine List.Sublist.cons _ ?_)) ⟨_, (val_indexAddr (j := i) rfl rfl rfl hlt'), ?_⟩
  refine h_takeGX 20 rfl rfl (by kernel_rfl) rfl hG (by first | exact Ghost.le_refl _ | assumption) (by repeat' (first | exact List.nil_sublist _ | refine List.Sublist.cons_cons _ ?_ | refine List.Sublist.cons _ ?_)) ⟨_, (val_load rfl (toks_rd hxx hlt') rfl), ?_⟩
  refine h_one 21 (by kernel_rfl) rfl ?_
  refine r_take rfl ?_
  refine r_callP rfl rfl (estarts_spec g l[i]) ?_
  refine r_nn ?_
  refine h_kept hG (by first | exact Ghost.le_refl _ | assumption) (by repeat' (first | exact List.nil_sublist _ | refine List.Sublist.cons_cons _ ?_ | refine List.Sublist.cons _ ?_)) ?_
  refine h_takeGX 22 rfl rfl (by kernel_rfl) rfl hG (by first | exact Ghost.le_refl _ | assumption) (by repeat' (first | exact List.nil_sublist _ | refine List.Sublist.cons_cons _ ?_ | refine List.Sublist.cons _ ?_)) ?_; refine ⟨_, (val_ev rfl), ?_⟩; refine h_takeX 23 rfl (by kernel_rfl) rfl hG (by first | exact Ghost.le_refl _ | assumption) (by repeat' (first | exact List.nil_sublist _ | refine List.Sublist.cons_cons _ ?_ | refine List.Sublist.cons _ ?_)) ?_; refine ⟨_, (val_ev rfl), ?_⟩
  refine h_done (by kernel_rfl) ?_
  cases hst : startsE l[i] with
  | false =>
    have hr' : eread l .atom i = .error (failPos l i) := by
      rw [hr]
      simp only [startsE, Bool.or_eq_false_iff, Bool.and_eq_false_iff, decide_eq_false_iff_not] at hst
      obtain ⟨⟨⟨k1, k2⟩, k3⟩, k4⟩ := hst
      rw [if_neg k1, if_neg k2, if_neg k3, if_neg (fun h => k4.elim (fun k => k h.1) (fun k => k.1.1 h.2)), if_neg (fun h => k4.elim (fun k => k h.1) (fun k => k.2 h.2)), if_neg (fun h => k4.elim (fun k => k h.1) (fun k => k.1.2 h.2))]
    refine r_then_normal ?_; refine r_cond_true rfl ?_; refine r_sr ?_; refine r_build rfl rfl (by rfl) ?_; refine r_ev rfl rfl ?_
    refine r_callL 1 rfl rfl rfl (efail_spec g l hb _ hs b i _) ?_
    rintro v g1 r' ⟨rfl, rfl, rfl⟩ _
    refine r_storeA 0 rfl rfl rfl rfl (by rfl) (by repeat' (first | exact rfl | assumption | refine all_cons ?_ ?_)) rfl ?_; refine r_ev rfl rfl ?_; refine r_nn ?_; refine r_retc ?_; refine r_then_ret ?_
    refine r_ret2 [_] rfl (res_blk 0 rfl rfl (by rfl)) (.tmp rfl) (.cons _ (List.Sublist.refl _)) ⟨_, rfl, ?_⟩
    rw [hr']
    exact ⟨_, _, _, rfl, noE_V g1, errV_miss _, i, hi, rfl⟩
  | true =>
  refine r_then_normal ?_; refine r_cond_false rfl ?_; refine r_skip ?_; refine r_then_normal ?_; refine r_seq ?_
  refine h_beginE [] mixed (fun hG => ?_)
  refine h_takeX 0 rfl (by kernel_rfl) rfl hG (by first | exact Ghost.le_refl _ | assumption) (by repeat' (first | exact List.nil_sublist _ | refine List.Sublist.cons_cons _ ?_ | refine List.Sublist.cons _ ?_)) ?_; refine ⟨_, (val_ev rfl), ?_⟩; refine h_takeX 1 rfl (by kernel_rfl) rfl hG (by first | exact Ghost.le_refl _ | assumption) (by repeat' (first | exact List.nil_sublist _ | refine List.Sublist.cons_cons _ ?_ | refine List.Sublist.cons _ ?_)) ?_; refine ⟨_, (val_ev rfl), ?_⟩; refine h_takeX 2 rfl (by kernel_rfl) rfl hG (by first | exact Ghost.le_refl _ | assumption) (by repeat' (first | exact List.nil_sublist _ | refine List.Sublist.cons_cons _ ?_ | refine List.Sublist.cons _ ?_)) ?_; refine ⟨_, (val_fieldAddr rfl), ?_⟩; refine h_takeX 3 rfl (by kernel_rfl) rfl hG (by first | exact Ghost.le_refl _ | assumption) (by repeat' (first | exact List.nil_sublist _ | refine List.Sublist.cons_cons _ ?_ | refine List.Sublist.cons _ ?_)) ?_; refine ⟨_, (val_loadB1 1 rfl rfl rfl), ?_⟩; refine h_takeX 4 rfl (by kernel_rfl) rfl hG (by first | exact Ghost.le_refl _ | assumption) (by repeat' (first | exact List.nil_sublist _ | refine List.Sublist.cons_cons _ ?_ | refine List.Sublist.cons _ ?_)) ?_; refine ⟨_, (val_ev rfl), ?_⟩; refine h_takeX 5 rfl (by kernel_rfl) rfl hG (by first | exact Ghost.le_refl _ | assumption) (by repeat' (first | exact List.nil_sublist _ | refine List.Sublist.cons_cons _ ?_ | refine List.Sublist.cons _ ?_)) ?_; refine ⟨_, (val_ev rfl), ?_⟩; refine h_takeX 6 rfl (by kernel_rfl) rfl hG (by first | exact Ghost.le_refl _ | assumption) (by repeat' (first | exact List.nil_sublist _ | refine List.Sublist.cons_cons _ ?_ | refine List.Sublist.cons _ ?_)) ?_; refine ⟨_, (val_fieldAddr rfl), ?_⟩; refine h_takeX 7 rfl (by kernel_rfl) rfl hG (by first | exact Ghost.le_refl _ | assumption) (by repeat' (first | exact List.nil_sublist _ | refine List.Sublist.cons_cons _ ?_ | refine List.Sublist.cons _ ?_)) ?_; refine ⟨_, (val_loadB1 1 rfl rfl rfl), ?_⟩
  refine h_takeX 8 rfl (by kernel_rfl) rfl hG (by first | exact Ghost.le_refl _ | assumption) (by repeat' (first | exact List.nil_sublist _ | refine List.Sublist.cons_cons _ ?_ | refine List.Sublist.cons _ ?_)) ⟨_, (val_indexAddr (j := i) rfl rfl rfl hlt'), ?_⟩
  refine h_takeX 9 rfl (by kernel_rfl) rfl hG (by first | exact Ghost.le_refl _ | assumption) (by repeat' (first | exact List.nil_sublist _ | refine List.Sublist.cons_cons _ ?_ | refine List.Sublist.cons _ ?_)) ⟨_, (val_load rfl (toks_rd hxx hlt') rfl), ?_⟩
  refine h_one 10 (by kernel_rfl) rfl ?_
  refine r_alloc rfl (fun b4 => ?_)
  refine r_nn ?_
  refine h_kept hG (by first | exact Ghost.le_refl _ | assumption) (by repeat' (first | exact List.nil_sublist _ | refine List.Sublist.cons_cons _ ?_ | refine List.Sublist.cons _ ?_)) ?_
  refine h_one 11 (by kernel_rfl) rfl ?_
  refine r_storeA 0 rfl rfl rfl rfl (by rfl) (by repeat' (first | exact rfl | assumption | refine all_cons ?_ ?_)) rfl ?_; refine r_nn ?_
  refine h_kept hG (by first | exact Ghost.le_refl _ | assumption) (by repeat' (first | exact List.nil_sublist _ | refine List.Sublist.cons_cons _ ?_ | refine List.Sublist.cons _ ?_)) ?_
  refine h_done (by kernel_rfl) ?_
  refine r_then_normal ?_; refine r_sr ?_; refine r_ev rfl rfl ?_; refine r_ev rfl rfl ?_; refine r_fieldAddr rfl rfl ?_; refine r_loadB1 2 rfl rfl rfl rfl ?_; refine r_add rfl rfl rfl (by omega) ?_; refine r_ev rfl rfl ?_; refine r_fieldAddr rfl rfl ?_; refine r_store1 2 rfl rfl rfl rfl rfl rfl ?_; refine r_nn ?_; refine r_sr ?_; refine r_fieldAddr rfl rfl ?_; refine r_loadB1 0 rfl rfl rfl rfl ?_; refine r_build rfl rfl (by rfl) ?_
  refine r_alloc rfl (fun b5 => ?_)
  refine r_storeA 0 rfl rfl rfl rfl (by rfl) (by repeat' (first | exact rfl | assumption | refine all_cons ?_ ?_)) rfl ?_; refine r_nn ?_; refine r_seq ?_; refine r_block ?_; refine r_sr ?_; refine r_fieldAddr rfl rfl ?_; refine r_loadB1 1 rfl rfl rfl rfl ?_; refine r_ev rfl rfl ?_; refine r_ev rfl rfl ?_; refine r_nn ?_
  -- STOPA
  have hpos : l[i].pos = posOf l i := by unfold posOf; rw [toks_some hlt']
  refine r_cond rfl (fun h1 => ?_) (fun h1 => ?_)
  · rw [if_pos h1] at hr
    refine r_seq ?_
    refine h_beginE [0] mixed (fun hG => ?_)
    refine h_takeX 0 rfl (by kernel_rfl) rfl hG (by first | exact Ghost.le_refl _ | assumption) (by repeat' (first | exact List.nil_sublist _ | refine List.Sublist.cons_cons _ ?_ | refine List.Sublist.cons _ ?_)) ?_; refine ⟨_, (val_fieldAddr rfl), ?_⟩; refine h_takeX 1 rfl (by kernel_rfl) rfl hG (by first | exact Ghost.le_refl _ | assumption) (by repeat' (first | exact List.nil_sublist _ | refine List.Sublist.cons_cons _ ?_ | refine List.Sublist.cons _ ?_)) ?_; refine ⟨_, (val_loadB1 0 rfl rfl rfl), ?_⟩; refine h_takeX 2 rfl (by kernel_rfl) rfl hG (by first | exact Ghost.le_refl _ | assumption) (by repeat' (first | exact List.nil_sublist _ | refine List.Sublist.cons_cons _ ?_ | refine List.Sublist.cons _ ?_)) ?_; refine ⟨_, (val_fieldAddr rfl), ?_⟩
    refine h_one 3 (by kernel_rfl) rfl ?_
    refine r_store1 0 rfl rfl rfl rfl rfl rfl ?_; refine r_nn ?_
    refine h_kept hG (by first | exact Ghost.le_refl _ | assumption) (by repeat' (first | exact List.nil_sublist _ | refine List.Sublist.cons_cons _ ?_ | refine List.Sublist.cons _ ?_)) ?_
    refine h_takeX 4 rfl (by kernel_rfl) rfl hG (by first | exact Ghost.le_refl _ | assumption) (by repeat' (first | exact List.nil_sublist _ | refine List.Sublist.cons_cons _ ?_ | refine List.Sublist.cons _ ?_)) ?_; refine ⟨_, (val_fieldAddr rfl), ?_⟩
    refine h_one 5 (by kernel_rfl) rfl ?_
    refine r_store1 0 rfl rfl rfl rfl rfl rfl ?_; refine r_nn ?_
    refine h_kept hG (by first | exact Ghost.le_refl _ | assumption) (by repeat' (first | exact List.nil_sublist _ | refine List.Sublist.cons_cons _ ?_ | refine List.Sublist.cons _ ?_)) ?_
    refine h_done (by kernel_rfl) ?_
    refine r_then_normal ?_; refine r_sr ?_; refine r_loadB 0 rfl rfl rfl (by rfl) ?_; refine r_storeA 2 rfl rfl rfl rfl (by rfl) (by repeat' (first | exact rfl | assumption | refine all_cons ?_ ?_)) rfl ?_; refine r_ev rfl rfl ?_; refine r_nn ?_; refine r_retc ?_; refine r_in_ret ?_; refine r_then_ret ?_
    refine r_ret2 [_] rfl (res_blk 2 rfl rfl (by rfl)) (.tmp rfl) (.cons _ (.cons _ (.cons _ (List.Sublist.refl _)))) ⟨_, rfl, ?_⟩
    rw [hr]
    exact ⟨_, rfl, leafE_V g 1 _ _ 0, rfl, by omega, by omega⟩
  rw [if_neg h1] at hr
  refine r_sr ?_; refine r_fieldAddr rfl rfl ?_; refine r_loadB1 1 rfl rfl rfl rfl ?_; refine r_ev rfl rfl ?_; refine r_ev rfl rfl ?_; refine r_nn ?_
  refine r_cond rfl (fun h2 => ?_) (fun h2 => ?_)
  · rw [if_pos h2] at hr
    refine r_seq ?_
    refine h_beginE [0] mixed (fun hG => ?_)
    refine h_takeX 0 rfl (by kernel_rfl) rfl hG (by first | exact Ghost.le_refl _ | assumption) (by repeat' (first | exact List.nil_sublist _ | refine List.Sublist.cons_cons _ ?_ | refine List.Sublist.cons _ ?_)) ?_; refine ⟨_, (val_fieldAddr rfl), ?_⟩; refine h_takeX 1 rfl (by kernel_rfl) rfl hG (by first | exact Ghost.le_refl _ | assumption) (by repeat' (first | exact List.nil_sublist _ | refine List.Sublist.cons_cons _ ?_ | refine List.Sublist.cons _ ?_)) ?_; refine ⟨_, (val_loadB1 0 rfl rfl rfl), ?_⟩; refine h_takeX 2 rfl (by kernel_rfl) rfl hG (by first | exact Ghost.le_refl _ | assumption) (by repeat' (first | exact List.nil_sublist _ | refine List.Sublist.cons_cons _ ?_ | refine List.Sublist.cons _ ?_)) ?_; refine ⟨_, (val_fieldAddr rfl), ?_⟩
    refine h_one 3 (by kernel_rfl) rfl ?_
    refine r_store1 0 rfl rfl rfl rfl rfl rfl ?_; refine r_nn ?_
    refine h_kept hG (by first | exact Ghost.le_refl _ | assumption) (by repeat' (first | exact List.nil_sublist _ | refine List.Sublist.cons_cons _ ?_ | refine List.Sublist.cons _ ?_)) ?_
    refine h_takeX 4 rfl (by kernel_rfl) rfl hG (by first | exact Ghost.le_refl _ | assumption) (by repeat' (first | exact List.nil_sublist _ | refine List.Sublist.cons_cons _ ?_ | refine List.Sublist.cons _ ?_)) ?_; refine ⟨_, (val_fieldAddr rfl), ?_⟩
    refine h_one 5 (by kernel_rfl) rfl ?_
    refine r_store1 0 rfl rfl rfl rfl rfl rfl ?_; refine r_nn ?_
    refine h_kept hG (by first | exact Ghost.le_refl _ | assumption) (by repeat' (first | exact List.nil_sublist _ | refine List.Sublist.cons_cons _ ?_ | refine List.Sublist.cons _ ?_)) ?_
    refine h_done (by kernel_rfl) ?_
    refine r_then_normal ?_; refine r_sr ?_; refine r_loadB 0 rfl rfl rfl (by rfl) ?_; refine r_storeA 2 rfl rfl rfl rfl (by rfl) (by repeat' (first | exact rfl | assumption | refine all_cons ?_ ?_)) rfl ?_; refine r_ev rfl rfl ?_; refine r_nn ?_; refine r_retc ?_; refine r_in_ret ?_; refine r_then_ret ?_
    refine r_ret2 [_] rfl (res_blk 2 rfl rfl (by rfl)) (.tmp rfl) (.cons _ (.cons _ (.cons _ (List.Sublist.refl _)))) ⟨_, rfl, ?_⟩
    rw [hr]
    exact ⟨_, rfl, leafE_V g 2 _ _ 0, rfl, by omega, by omega⟩
  rw [if_neg h2] at hr
  refine r_sr ?_; refine r_fieldAddr rfl rfl ?_; refine r_loadB1 1 rfl rfl rfl rfl ?_; refine r_ev rfl rfl ?_; refine r_ev rfl rfl ?_; refine r_nn ?_
  refine r_cond rfl (fun h3 => ?_) (fun h3 => ?_)
  · rw [if_pos h3] at hr
    have hk3 : kindOf l[i].text = 3 := (hkw _ (List.getElem_mem hlt')).symm.trans h3
    refine r_sr ?_; refine r_fieldAddr rfl rfl ?_; refine r_store1 0 rfl rfl rfl rfl rfl rfl ?_; refine r_nn ?_; refine r_sr ?_; refine r_fieldAddr rfl rfl ?_; refine r_loadB1 1 rfl rfl rfl rfl ?_
    refine r_callP rfl rfl (Atoi_num g hk3) ?_
    refine r_ev rfl rfl ?_; refine r_ev rfl rfl ?_; refine r_ev rfl rfl ?_; refine r_fieldAddr rfl rfl ?_; refine r_store1 0 rfl rfl rfl rfl rfl rfl ?_; refine r_nn ?_; refine r_sr ?_; refine r_loadB 0 rfl rfl rfl (by rfl) ?_; refine r_storeA 2 rfl rfl rfl rfl (by rfl) (by repeat' (first | exact rfl | assumption | refine all_cons ?_ ?_)) rfl ?_; refine r_ev rfl rfl ?_; refine r_nn ?_; refine r_retc ?_; refine r_in_ret ?_; refine r_then_ret ?_
    refine r_ret2 [_] rfl (res_blk 2 rfl rfl (by rfl)) (.tmp rfl) (.cons _ (.cons _ (.cons _ (List.Sublist.refl _)))) ⟨_, rfl, ?_⟩
    rw [hr]
    exact ⟨_, rfl, leafE_V g 3 _ [] _, rfl, by omega, by omega⟩
  rw [if_neg h3] at hr
  have h5 : l[i].kind = 5 ∧ (l[i].text = [63] ∨ l[i].text = [40] ∨ l[i].text = [123]) := by
    simp only [startsE, h1, h2, h3, decide_false, Bool.false_or, Bool.and_eq_true, Bool.or_eq_true, decide_eq_true_eq] at hst
    exact ⟨hst.1, hst.2.elim (fun h => h.elim .inl (fun h => .inr (.inl h))) (fun h => .inr (.inr h))⟩
  obtain ⟨h5, h6⟩ := h5
  refine r_sr ?_; refine r_fieldAddr rfl rfl ?_; refine r_loadB1 1 rfl rfl rfl rfl ?_; refine r_ev rfl rfl ?_; refine r_ev rfl rfl ?_; refine r_nn ?_
  refine r_cond rfl (fun h7 => ?_) (fun h7 => ?_)
  · have h7' : l[i].text = [63] := h7
    rw [if_pos ⟨h5, h7'⟩] at hr
    refine r_sr ?_; refine r_fieldAddr rfl rfl ?_; refine r_store1 0 rfl rfl rfl rfl rfl rfl ?_; refine r_nn ?_; refine r_sr ?_; refine r_loadB 0 rfl rfl rfl (by rfl) ?_; refine r_storeA 2 rfl rfl rfl rfl (by rfl) (by repeat' (first | exact rfl | assumption | refine all_cons ?_ ?_)) rfl ?_; refine r_ev rfl rfl ?_; refine r_nn ?_; refine r_retc ?_; refine r_in_ret ?_; refine r_then_ret ?_
    refine r_ret2 [_] rfl (res_blk 2 rfl rfl (by rfl)) (.tmp rfl) (.cons _ (.cons _ (.cons _ (List.Sublist.refl _)))) ⟨_, rfl, ?_⟩
    rw [hr]
    exact ⟨_, rfl, leafE_V g 10 _ [] 0, rfl, by omega, by omega⟩
  have h7' : ¬ l[i].text = [63] := h7
  rw [if_neg (fun h => h7' h.2)] at hr
  refine r_skip ?_; refine r_in_normal ?_; refine r_then_normal ?_; refine r_sr ?_; refine r_ev rfl rfl ?_
  refine r_callL 3 rfl rfl rfl (hX g (i + 1) hg hs (by omega) (by omega)) ?_
  rintro v g1 r' hw hle
  have hg1 := hg.mono hle
  have hs1 := hs.mono hle
  have hrE : ∀ p, eread l .expr (i + 1) = .error p → eread l .atom i = .error p := by
    intro p hp
    rw [hr, hp]
    rcases h6 with h6 | h6 | h6
    · exact absurd h6 h7'
    · rw [if_neg (fun h => by rw [h6] at h; exact absurd h.2 (by decide)), if_pos ⟨h5, h6⟩]
    · rw [if_pos ⟨h5, h6⟩]
  cases hq : eread l .expr (i + 1) with
  | error p =>
    rw [hq] at hw
    obtain ⟨ev, e, er, rfl, he, ⟨t, u, rfl, her⟩, j, hj, rfl⟩ := hw
    obtain ⟨a1, m1, c1, a2, m2, c2, a3, m3, c3, rfl, he'⟩ := he.form
    refine r_ev rfl rfl ?_; refine r_ev rfl rfl ?_; refine r_ev rfl rfl ?_
    refine r_alloc rfl (fun b6 => ?_)
    refine r_storeA 0 rfl rfl rfl rfl (by rfl) (by repeat' (first | exact rfl | assumption | refine all_cons ?_ ?_)) rfl ?_; refine r_ev rfl rfl ?_; refine r_nn ?_; refine r_seq ?_; refine r_block ?_; refine r_sr ?_; refine r_ev rfl rfl ?_; refine r_neq_nil_held rfl rfl ?_; refine r_ev rfl rfl ?_; refine r_nn ?_; refine r_cond_true rfl ?_; refine r_sr ?_; refine r_loadB 0 rfl rfl rfl (by rfl) ?_; refine r_ev rfl rfl ?_; refine r_storeA 3 rfl rfl rfl rfl (by rfl) (by repeat' (first | exact rfl | assumption | refine all_cons ?_ ?_)) rfl ?_; refine r_ev rfl rfl ?_; refine r_nn ?_; refine r_retc ?_; refine r_in_ret ?_; refine r_then_ret ?_
    refine r_ret2 [_] rfl (res_blk 3 rfl rfl (by rfl)) (.tmp rfl) (.cons _ (.cons _ (.cons _ (.cons _ (List.Sublist.refl _))))) ⟨_, rfl, ?_⟩
    rw [hrE p hq]
    exact ⟨_, e, _, rfl, ⟨_, rfl, he'⟩, ⟨t, u, rfl, her⟩, j, hj, rfl⟩
  | ok q =>
  clear hrE
  obtain ⟨x, j⟩ := q
  rw [hq] at hw
  obtain ⟨ev, rfl, he, rfl, hj1, hj2⟩ := hw
  obtain ⟨a1, m1, c1, a2, m2, c2, a3, m3, c3, rfl, he'⟩ := he.form
  refine r_ev rfl rfl ?_; refine r_ev rfl rfl ?_; refine r_ev rfl rfl ?_
  refine r_alloc rfl (fun b6 => ?_)
  refine r_storeA 0 rfl rfl rfl rfl (by rfl) (by repeat' (first | exact rfl | assumption | refine all_cons ?_ ?_)) rfl ?_; refine r_ev rfl rfl ?_; refine r_nn ?_; refine r_seq ?_; refine r_block ?_; refine r_sr ?_; refine r_ev rfl rfl ?_; refine r_neq_nil_nil rfl rfl ?_; refine r_ev rfl rfl ?_; refine r_nn ?_; refine r_cond_false rfl ?_; refine r_sr ?_; refine r_fieldAddr rfl rfl ?_; refine r_loadB1 2 rfl rfl rfl rfl ?_; refine r_ev rfl rfl ?_; refine r_ev rfl rfl ?_; refine r_nn ?_
  -- STOPB
  rw [hq] at hr
  simp only at hr
  refine r_cond rfl (fun h8 => ?_) (fun h8 => ?_)
  · have h8' : l[i].text = [123] := h8
    rw [if_pos ⟨h5, h8'⟩] at hr
    refine r_cutG (ι := Ghost × Nat) (fun p => [(0, ptr b 0), (2, ptr b2 0), (5, ptr b5 0)]) (fun p => p.1)
      (fun p => [.blk b6 34 (exCells x (.slice a1 m1 c1) (.slice a2 m2 c2) (.slice a3 m3 c3)), .blk b5 34 [.int .i64 11, .int .i64 l[i].pos, str [], .int .i64 0, .slice (some ⟨p.2, 0, none⟩) 1 1, .slice none 0 0, .int .i64 0, str [], .int .i64 0, .int .i64 0, .slice none 0 0], .blk b4 51 (tokCells l[i]), .blk b2 34 noEc, rdE b (.slice (some ⟨b0, off, none⟩) l.length lc) j 0])
      (fun p => Ghost.le g1 p.1 ∧ SlAt p.1 11 (.slice (some ⟨p.2, 0, none⟩) 1 1) 1 (exCells x (.slice a1 m1 c1) (.slice a2 m2 c2) (.slice a3 m3 c3))) ?_ ?_
    · rintro ⟨g2, b7⟩ ⟨hg2, hs7⟩
      simp only at hg2 hs7
      show Run E _ [(0, ptr b 0), (2, ptr b2 0), (5, ptr b5 0)] g2 [.blk b6 34 (exCells x (.slice a1 m1 c1) (.slice a2 m2 c2) (.slice a3 m3 c3)), .blk b5 34 [.int .i64 11, .int .i64 l[i].pos, str [], .int .i64 0, .slice (some ⟨b7, 0, none⟩) 1 1, .slice none 0 0, .int .i64 0, str [], .int .i64 0, .int .i64 0, .slice none 0 0], .blk b4 51 (tokCells l[i]), .blk b2 34 noEc, rdE b (.slice (some ⟨b0, off, none⟩) l.length lc) j 0] _
      have hs2 := hs1.mono hg2
      have hV := kidsE_V (ks := [x]) g2 11 l[i].pos [] hs7 (exs1 (he'.mono hg2))
      refine r_seq ?_
      refine h_beginE [4, 3] mixed (fun hG => ?_)
      refine h_takeX 0 rfl (by kernel_rfl) rfl hG (by first | exact Ghost.le_refl _ | assumption) (by repeat' (first | exact List.nil_sublist _ | refine List.Sublist.cons_cons _ ?_ | refine List.Sublist.cons _ ?_)) ?_; refine ⟨_, (val_loadB 1 rfl rfl (by rfl)), ?_⟩; refine h_takeX 1 rfl (by kernel_rfl) rfl hG (by first | exact Ghost.le_refl _ | assumption) (by repeat' (first | exact List.nil_sublist _ | refine List.Sublist.cons_cons _ ?_ | refine List.Sublist.cons _ ?_)) ?_; refine ⟨_, (val_ev rfl), ?_⟩
      refine h_one 2 (by kernel_rfl) rfl ?_
      refine r_callL 4 rfl rfl rfl (ewant_spec g2 l hb _ hs2 b j 5 [125]) ?_
      rintro v gw r' ⟨rfl, hv⟩ _
      rcases hv with ⟨hk, rfl, rfl⟩ | ⟨hk, rfl, rfl⟩
      · refine r_nn ?_
        refine h_kept hG (by first | exact Ghost.le_refl _ | assumption) (by repeat' (first | exact List.nil_sublist _ | refine List.Sublist.cons_cons _ ?_ | refine List.Sublist.cons _ ?_)) ?_
        refine h_one 3 (by kernel_rfl) rfl ?_
        refine r_storeA 3 rfl rfl rfl rfl (by rfl) (by repeat' (first | exact rfl | assumption | refine all_cons ?_ ?_)) rfl ?_; refine r_nn ?_
        refine h_kept hG (by first | exact Ghost.le_refl _ | assumption) (by repeat' (first | exact List.nil_sublist _ | refine List.Sublist.cons_cons _ ?_ | refine List.Sublist.cons _ ?_)) ?_
        refine h_one 4 (by kernel_rfl) rfl ?_
        refine r_ev rfl rfl ?_; refine r_nn ?_
        refine h_kept hG (by first | exact Ghost.le_refl _ | assumption) (by repeat' (first | exact List.nil_sublist _ | refine List.Sublist.cons_cons _ ?_ | refine List.Sublist.cons _ ?_)) ?_
        refine h_done (by kernel_rfl) ?_
        refine r_then_normal ?_; refine r_retc ?_; refine r_in_ret ?_; refine r_then_ret ?_
        refine r_ret2 [_] rfl (res_blk 3 rfl rfl (by rfl)) (.tmp rfl) (.cons _ (.cons _ (.cons _ (.cons _ (List.Sublist.refl _))))) ⟨_, rfl, ?_⟩
        rw [show markAt l j [125] = true from hk] at hr
        rw [hr]
        have := tokAt_lt hk
        exact ⟨_, rfl, hV, rfl, by omega, by omega⟩
      · refine r_nn ?_
        refine h_kept hG (by first | exact Ghost.le_refl _ | assumption) (by repeat' (first | exact List.nil_sublist _ | refine List.Sublist.cons_cons _ ?_ | refine List.Sublist.cons _ ?_)) ?_
        refine h_one 3 (by kernel_rfl) rfl ?_
        refine r_storeA 3 rfl rfl rfl rfl (by rfl) (by repeat' (first | exact rfl | assumption | refine all_cons ?_ ?_)) rfl ?_; refine r_nn ?_
        refine h_kept hG (by first | exact Ghost.le_refl _ | assumption) (by repeat' (first | exact List.nil_sublist _ | refine List.Sublist.cons_cons _ ?_ | refine List.Sublist.cons _ ?_)) ?_
        refine h_one 4 (by kernel_rfl) rfl ?_
        refine r_ev rfl rfl ?_; refine r_nn ?_
        refine h_kept hG (by first | exact Ghost.le_refl _ | assumption) (by repeat' (first | exact List.nil_sublist _ | refine List.Sublist.cons_cons _ ?_ | refine List.Sublist.cons _ ?_)) ?_
        refine h_done (by kernel_rfl) ?_
        refine r_then_normal ?_; refine r_retc ?_; refine r_in_ret ?_; refine r_then_ret ?_
        refine r_ret2 [_] rfl (res_blk 3 rfl rfl (by rfl)) (.tmp rfl) (.cons _ (.cons _ (.cons _ (.cons _ (List.Sublist.refl _))))) ⟨_, rfl, ?_⟩
        rw [show markAt l j [125] = false from hk] at hr
        rw [hr]
        exact ⟨_, _, _, rfl, hV, errV_miss _, j, hj2, rfl⟩
    · intro K hK
      skip
      refine h_beginE [1] mixed (fun hG => ?_)
      refine h_takeX 0 rfl (by kernel_rfl) rfl hG (by first | exact Ghost.le_refl _ | assumption) (by repeat' (first | exact List.nil_sublist _ | refine List.Sublist.cons_cons _ ?_ | refine List.Sublist.cons _ ?_)) ?_; refine ⟨_, (val_loadB 0 rfl rfl (by rfl)), ?_⟩
      refine h_takeX 2 rfl (by kernel_rfl) rfl hG (by first | exact Ghost.le_refl _ | assumption) (by repeat' (first | exact List.nil_sublist _ | refine List.Sublist.cons_cons _ ?_ | refine List.Sublist.cons _ ?_)) ?_; refine ⟨_, (val_fieldAddr rfl), ?_⟩
      refine h_two 1 3 (by kernel_rfl) rfl rfl ?_ ?_
      · refine r_buildSlice rfl rfl (by rfl) (by rfl) (by rfl) (by rfl) (by rfl) (fun b7 => ?_)
        refine r_publishRow (fun g2 hg2 hs7 => ?_)
        refine r_nn ?_
        refine h_kept hG (by first | exact Ghost.le_refl _ | assumption) (by repeat' (first | exact List.nil_sublist _ | refine List.Sublist.cons_cons _ ?_ | refine List.Sublist.cons _ ?_)) ?_
        refine h_one 3 (by kernel_rfl) rfl ?_
        refine r_store1 1 rfl rfl rfl rfl rfl rfl ?_; refine r_nn ?_
        refine h_kept hG (by first | exact Ghost.le_refl _ | assumption) (by repeat' (first | exact List.nil_sublist _ | refine List.Sublist.cons_cons _ ?_ | refine List.Sublist.cons _ ?_)) ?_
        refine h_takeX 4 rfl (by kernel_rfl) rfl hG (by first | exact Ghost.le_refl _ | assumption) (by repeat' (first | exact List.nil_sublist _ | refine List.Sublist.cons_cons _ ?_ | refine List.Sublist.cons _ ?_)) ?_; refine ⟨_, (val_fieldAddr rfl), ?_⟩
        refine h_one 5 (by kernel_rfl) rfl ?_
        refine r_store1 1 rfl rfl rfl rfl rfl rfl ?_; refine r_nn ?_
        refine h_kept hG (by first | exact Ghost.le_refl _ | assumption) (by repeat' (first | exact List.nil_sublist _ | refine List.Sublist.cons_cons _ ?_ | refine List.Sublist.cons _ ?_)) ?_
        refine h_done (by kernel_rfl) ?_
        refine r_then_normal ?_
        exact hK (g2, b7) _ ⟨hg2, hs7⟩ ⟨rfl, rfl, rfl, trivial⟩
      · refine r_store1 1 rfl rfl rfl rfl rfl rfl ?_; refine r_nn ?_
        refine h_kept hG (by first | exact Ghost.le_refl _ | assumption) (by repeat' (first | exact List.nil_sublist _ | refine List.Sublist.cons_cons _ ?_ | refine List.Sublist.cons _ ?_)) ?_
        refine h_one 1 (by kernel_rfl) rfl ?_
        refine r_buildSlice rfl rfl (by rfl) (by rfl) (by rfl) (by rfl) (by rfl) (fun b7 => ?_)
        refine r_publishRow (fun g2 hg2 hs7 => ?_)
        refine r_nn ?_
        refine h_kept hG (by first | exact Ghost.le_refl _ | assumption) (by repeat' (first | exact List.nil_sublist _ | refine List.Sublist.cons_cons _ ?_ | refine List.Sublist.cons _ ?_)) ?_
        refine h_takeX 4 rfl (by kernel_rfl) rfl hG (by first | exact Ghost.le_refl _ | assumption) (by repeat' (first | exact List.nil_sublist _ | refine List.Sublist.cons_cons _ ?_ | refine List.Sublist.cons _ ?_)) ?_; refine ⟨_, (val_fieldAddr rfl), ?_⟩
        refine h_one 5 (by kernel_rfl) rfl ?_
        refine r_store1 1 rfl rfl rfl rfl rfl rfl ?_; refine r_nn ?_
        refine h_kept hG (by first | exact Ghost.le_refl _ | assumption) (by repeat' (first | exact List.nil_sublist _ | refine List.Sublist.cons_cons _ ?_ | refine List.Sublist.cons _ ?_)) ?_
        refine h_done (by kernel_rfl) ?_
        refine r_then_normal ?_
        exact hK (g2, b7) _ ⟨hg2, hs7⟩ ⟨rfl, rfl, rfl, trivial⟩
  have h8' : l[i].text = [40] := by
    rcases h6 with h6 | h6 | h6
    · exact absurd h6 h7'
    · exact h6
    · exact absurd h6 h8
  rw [if_neg (fun h => h8 h.2), if_pos ⟨h5, h8'⟩] at hr
  refine r_sr ?_; refine r_ev rfl rfl ?_
  refine r_callL 4 rfl rfl rfl (eread_spec g1 l hb _ hs1 b j 0 5 [58]) ?_
  rintro v g1' r' ⟨rfl, rfl, rfl⟩ _
  rw [show tokAt l j 5 [58] = markAt l j [58] from rfl]
  cases hk0 : markAt l j [58] with
  | false =>
    rw [hk0] at hr
    simp only [Bool.false_eq_true, if_false] at hr ⊢
    refine r_ev rfl rfl ?_; refine r_ev rfl rfl ?_; refine r_nn ?_; refine r_cond_true rfl ?_; refine r_seq ?_
    refine h_beginE [4, 3] mixed (fun hG => ?_)
    refine h_takeX 0 rfl (by kernel_rfl) rfl hG (by first | exact Ghost.le_refl _ | assumption) (by repeat' (first | exact List.nil_sublist _ | refine List.Sublist.cons_cons _ ?_ | refine List.Sublist.cons _ ?_)) ?_; refine ⟨_, (val_loadB 0 rfl rfl (by rfl)), ?_⟩; refine h_takeX 1 rfl (by kernel_rfl) rfl hG (by first | exact Ghost.le_refl _ | assumption) (by repeat' (first | exact List.nil_sublist _ | refine List.Sublist.cons_cons _ ?_ | refine List.Sublist.cons _ ?_)) ?_; refine ⟨_, (val_ev rfl), ?_⟩
    refine h_one 2 (by kernel_rfl) rfl ?_
    refine r_callL 4 rfl rfl rfl (ewant_spec g1' l hb _ hs1 b j 5 [41]) ?_
    rintro v gw r' ⟨rfl, hv⟩ _
    rcases hv with ⟨hk, rfl, rfl⟩ | ⟨hk, rfl, rfl⟩
    · refine r_nn ?_
      refine h_kept hG (by first | exact Ghost.le_refl _ | assumption) (by repeat' (first | exact List.nil_sublist _ | refine List.Sublist.cons_cons _ ?_ | refine List.Sublist.cons _ ?_)) ?_
      refine h_one 3 (by kernel_rfl) rfl ?_
      refine r_storeA 3 rfl rfl rfl rfl (by rfl) (by repeat' (first | exact rfl | assumption | refine all_cons ?_ ?_)) rfl ?_; refine r_nn ?_
      refine h_kept hG (by first | exact Ghost.le_refl _ | assumption) (by repeat' (first | exact List.nil_sublist _ | refine List.Sublist.cons_cons _ ?_ | refine List.Sublist.cons _ ?_)) ?_
      refine h_one 4 (by kernel_rfl) rfl ?_
      refine r_ev rfl rfl ?_; refine r_nn ?_
      refine h_kept hG (by first | exact Ghost.le_refl _ | assumption) (by repeat' (first | exact List.nil_sublist _ | refine List.Sublist.cons_cons _ ?_ | refine List.Sublist.cons _ ?_)) ?_
      refine h_done (by kernel_rfl) ?_
      refine r_then_normal ?_; refine r_retc ?_; refine r_in_ret ?_; refine r_then_ret ?_
      refine r_ret2 [_] rfl (res_blk 3 rfl rfl (by rfl)) (.tmp rfl) (.cons _ (.cons _ (.cons _ (.cons _ (List.Sublist.refl _))))) ⟨_, rfl, ?_⟩
      rw [show markAt l j [41] = true from hk] at hr
      rw [hr]
      have := tokAt_lt hk
      exact ⟨_, rfl, ⟨_, rfl, he'⟩, rfl, by omega, by omega⟩
    · refine r_nn ?_
      refine h_kept hG (by first | exact Ghost.le_refl _ | assumption) (by repeat' (first | exact List.nil_sublist _ | refine List.Sublist.cons_cons _ ?_ | refine List.Sublist.cons _ ?_)) ?_
      refine h_one 3 (by kernel_rfl) rfl ?_
      refine r_storeA 3 rfl rfl rfl rfl (by rfl) (by repeat' (first | exact rfl | assumption | refine all_cons ?_ ?_)) rfl ?_; refine r_nn ?_
      refine h_kept hG (by first | exact Ghost.le_refl _ | assumption) (by repeat' (first | exact List.nil_sublist _ | refine List.Sublist.cons_cons _ ?_ | refine List.Sublist.cons _ ?_)) ?_
      refine h_one 4 (by kernel_rfl) rfl ?_
      refine r_ev rfl rfl ?_; refine r_nn ?_
      refine h_kept hG (by first | exact Ghost.le_refl _ | assumption) (by repeat' (first | exact List.nil_sublist _ | refine List.Sublist.cons_cons _ ?_ | refine List.Sublist.cons _ ?_)) ?_
      refine h_done (by kernel_rfl) ?_
      refine r_then_normal ?_; refine r_retc ?_; refine r_in_ret ?_; refine r_then_ret ?_
      refine r_ret2 [_] rfl (res_blk 3 rfl rfl (by rfl)) (.tmp rfl) (.cons _ (.cons _ (.cons _ (.cons _ (List.Sublist.refl _))))) ⟨_, rfl, ?_⟩
      rw [show markAt l j [41] = false from hk] at hr
      rw [hr]
      exact ⟨_, _, _, rfl, ⟨_, rfl, he'⟩, errV_miss _, j, hj2, rfl⟩
  | true =>
  have hlt2 := tokAt_lt hk0
  rw [hk0] at hr
  simp only [if_true] at hr ⊢
  refine r_ev rfl rfl ?_; refine r_ev rfl rfl ?_; refine r_nn ?_; refine r_cond_false rfl ?_; refine r_skip ?_; refine r_in_normal ?_; refine r_then_normal ?_
  -- STOPD
  refine r_cutG (ι := Ghost × Value × Nat × Nat) (fun p => [(0, ptr b 0), (2, ptr b2 0), (5, ptr b5 0), (6, ptr b6 0), (8, ptr p.2.2.1 0), (9, .int .i64 (ansI (tread l .whole (j + 1)))), (10, ptr p.2.2.2 0)]) (fun p => p.1)
    (fun p => [.blk p.2.2.1 32 (tyCells (ansT (tread l .whole (j + 1))) p.2.1), .blk p.2.2.2 43 [.int .i64 (ansE (tread l .whole (j + 1))), .int .i64 (ansP (tread l .whole (j + 1)))], .blk b6 34 (exCells x (.slice a1 m1 c1) (.slice a2 m2 c2) (.slice a3 m3 c3)), .blk b5 34 [.int .i64 0, .int .i64 l[i].pos, str [], .int .i64 0, .slice none 0 0, .slice none 0 0, .int .i64 0, str [], .int .i64 0, .int .i64 0, .slice none 0 0], .blk b4 51 (tokCells l[i]), .blk b2 34 noEc, rdE b (.slice (some ⟨b0, off, none⟩) l.length lc) (j + 1) 0])
    (fun p => Ghost.le g1' p.1 ∧ TyAt p.1 (ansT (tread l .whole (j + 1))) (tyCells (ansT (tread l .whole (j + 1))) p.2.1)) ?_ ?_
  · rintro ⟨g2, sl, b8, b10⟩ ⟨hle2, hty⟩
    simp only at hle2 hty
    show Run E _ [(0, ptr b 0), (2, ptr b2 0), (5, ptr b5 0), (6, ptr b6 0), (8, ptr b8 0), (9, .int .i64 (ansI (tread l .whole (j + 1)))), (10, ptr b10 0)] g2 [.blk b8 32 (tyCells (ansT (tread l .whole (j + 1))) sl), .blk b10 43 [.int .i64 (ansE (tread l .whole (j + 1))), .int .i64 (ansP (tread l .whole (j + 1)))], .blk b6 34 (exCells x (.slice a1 m1 c1) (.slice a2 m2 c2) (.slice a3 m3 c3)), .blk b5 34 [.int .i64 0, .int .i64 l[i].pos, str [], .int .i64 0, .slice none 0 0, .slice none 0 0, .int .i64 0, str [], .int .i64 0, .int .i64 0, .slice none 0 0], .blk b4 51 (tokCells l[i]), .blk b2 34 noEc, rdE b (.slice (some ⟨b0, off, none⟩) l.length lc) (j + 1) 0] _
    have hs2 := hs1.mono hle2
    have he2 := he'.mono hle2
    obtain ⟨_, hsl, _⟩ := hty.args
    obtain ⟨ta, tm, tc, rfl⟩ := SlAt.form hsl
    cases hq3 : tread l .whole (j + 1) with
    | error p =>
      rw [hq3] at hr
      simp only at hr
      unfold ansE ansP ansI
      simp only
      refine r_seq ?_; refine r_sr ?_; refine r_fieldAddr rfl rfl ?_; refine r_loadB1 1 rfl rfl rfl rfl ?_; refine r_ev rfl rfl ?_; refine r_nn ?_; refine r_cond_true rfl ?_; refine r_sr ?_; refine r_ev rfl rfl ?_; refine r_fieldAddr rfl rfl ?_; refine r_loadB1 1 rfl rfl rfl rfl ?_; refine r_ev rfl rfl ?_; refine r_fieldAddr rfl rfl ?_
      refine r_store1 6 rfl rfl rfl (by rfl) (by rfl) rfl ?_
      refine r_drop (own' := [_, _, _, _, _]) (.cons _ (.cons _ (List.Sublist.refl _))) ?_
      refine r_nn ?_; refine r_sr ?_; refine r_loadB 0 rfl rfl rfl (by rfl) ?_; refine r_build rfl rfl (by rfl) ?_; refine r_mkIface rfl rfl ?_; refine r_storeA 3 rfl rfl rfl rfl (by rfl) (by repeat' (first | exact rfl | assumption | refine all_cons ?_ ?_)) rfl ?_; refine r_ev rfl rfl ?_; refine r_nn ?_; refine r_retc ?_; refine r_then_ret ?_
      refine r_ret2 [_] rfl (res_blk 3 rfl rfl (by rfl)) (.tmp rfl) (.cons _ (.cons _ (.cons _ (.cons _ (List.Sublist.refl _))))) ⟨_, rfl, ?_⟩
      rw [hr]
      exact ⟨_, x, _, rfl, ⟨_, rfl, he2⟩, errV_unexp, j + 1, by omega, rfl⟩
    | ok q =>
      obtain ⟨t, k⟩ := q
      have hpk := tread_bnd l _ .whole (j + 1) (t, k) (Nat.lt_succ_self _) (by omega) hq3
      have hpk1 : j + 1 < k := hpk.2 rfl
      have hpk2 : k ≤ l.length := hpk.1
      rw [hq3] at hr hty
      simp only at hr
      unfold ansE ansP ansI ansT
      simp only
      have hty' : TyAt g2 t (tyCells t (.slice ta tm tc)) := hty
      refine r_seq ?_; refine r_sr ?_; refine r_fieldAddr rfl rfl ?_; refine r_loadB1 1 rfl rfl rfl rfl ?_; refine r_ev rfl rfl ?_; refine r_nn ?_; refine r_cond_false rfl ?_; refine r_skip ?_; refine r_then_normal ?_; refine r_sr ?_; refine r_ev rfl rfl ?_; refine r_ev rfl rfl ?_; refine r_ev rfl rfl ?_; refine r_fieldAddr rfl rfl ?_
      refine r_store1 6 rfl rfl rfl (by rfl) (by rfl) rfl ?_
      refine r_nn ?_
      -- STOPE
      refine r_cutG (ι := Ghost × Nat) (fun p => [(0, ptr b 0), (2, ptr b2 0), (5, ptr b5 0)]) (fun p => p.1)
        (fun p => [.blk b6 34 (exCells x (.slice a1 m1 c1) (.slice a2 m2 c2) (.slice a3 m3 c3)), .blk b5 34 ([.int .i64 9, .int .i64 l[i].pos, str [], .int .i64 0, .slice (some ⟨p.2, 0, none⟩) 1 1, .slice none 0 0] ++ tyCells t (.slice ta tm tc)), .blk b4 51 (tokCells l[i]), .blk b2 34 noEc, rdE b (.slice (some ⟨b0, off, none⟩) l.length lc) k 0])
        (fun p => Ghost.le g2 p.1 ∧ SlAt p.1 11 (.slice (some ⟨p.2, 0, none⟩) 1 1) 1 (exCells x (.slice a1 m1 c1) (.slice a2 m2 c2) (.slice a3 m3 c3))) ?_ ?_
      · rintro ⟨g3, b7⟩ ⟨hg3, hs7⟩
        simp only at hg3 hs7
        show Run E _ [(0, ptr b 0), (2, ptr b2 0), (5, ptr b5 0)] g3 [.blk b6 34 (exCells x (.slice a1 m1 c1) (.slice a2 m2 c2) (.slice a3 m3 c3)), .blk b5 34 ([.int .i64 9, .int .i64 l[i].pos, str [], .int .i64 0, .slice (some ⟨b7, 0, none⟩) 1 1, .slice none 0 0] ++ tyCells t (.slice ta tm tc)), .blk b4 51 (tokCells l[i]), .blk b2 34 noEc, rdE b (.slice (some ⟨b0, off, none⟩) l.length lc) k 0] _
        have hs3 := hs2.mono hg3
        have hV := annE_V g3 l[i].pos t hs7 (he2.mono hg3) (hty'.mono hg3)
        refine r_seq ?_
        refine h_beginE [4, 3] mixed (fun hG => ?_)
        refine h_takeX 0 rfl (by kernel_rfl) rfl hG (by first | exact Ghost.le_refl _ | assumption) (by repeat' (first | exact List.nil_sublist _ | refine List.Sublist.cons_cons _ ?_ | refine List.Sublist.cons _ ?_)) ?_; refine ⟨_, (val_loadB 1 rfl rfl (by rfl)), ?_⟩; refine h_takeX 1 rfl (by kernel_rfl) rfl hG (by first | exact Ghost.le_refl _ | assumption) (by repeat' (first | exact List.nil_sublist _ | refine List.Sublist.cons_cons _ ?_ | refine List.Sublist.cons _ ?_)) ?_; refine ⟨_, (val_ev rfl), ?_⟩
        refine h_one 2 (by kernel_rfl) rfl ?_
        refine r_callL 4 rfl rfl rfl (ewant_spec g3 l hb _ hs3 b k 5 [41]) ?_
        rintro v gw r' ⟨rfl, hv⟩ _
        rcases hv with ⟨hk, rfl, rfl⟩ | ⟨hk, rfl, rfl⟩
        · refine r_nn ?_
          refine h_kept hG (by first | exact Ghost.le_refl _ | assumption) (by repeat' (first | exact List.nil_sublist _ | refine List.Sublist.cons_cons _ ?_ | refine List.Sublist.cons _ ?_)) ?_
          refine h_one 3 (by kernel_rfl) rfl ?_
          refine r_storeA 3 rfl rfl rfl rfl (by rfl) (by repeat' (first | exact rfl | assumption | refine all_cons ?_ ?_)) rfl ?_; refine r_nn ?_
          refine h_kept hG (by first | exact Ghost.le_refl _ | assumption) (by repeat' (first | exact List.nil_sublist _ | refine List.Sublist.cons_cons _ ?_ | refine List.Sublist.cons _ ?_)) ?_
          refine h_one 4 (by kernel_rfl) rfl ?_
          refine r_ev rfl rfl ?_; refine r_nn ?_
          refine h_kept hG (by first | exact Ghost.le_refl _ | assumption) (by repeat' (first | exact List.nil_sublist _ | refine List.Sublist.cons_cons _ ?_ | refine List.Sublist.cons _ ?_)) ?_
          refine h_done (by kernel_rfl) ?_
          refine r_then_normal ?_; refine r_retc ?_
          refine r_ret2 [_] rfl (res_blk 3 rfl rfl (by rfl)) (.tmp rfl) (.cons _ (.cons _ (.cons _ (.cons _ (List.Sublist.refl _))))) ⟨_, rfl, ?_⟩
          rw [show markAt l k [41] = true from hk] at hr
          rw [hr]
          have := tokAt_lt hk
          exact ⟨_, rfl, hV, rfl, by omega, by omega⟩
        · refine r_nn ?_
          refine h_kept hG (by first | exact Ghost.le_refl _ | assumption) (by repeat' (first | exact List.nil_sublist _ | refine List.Sublist.cons_cons _ ?_ | refine List.Sublist.cons _ ?_)) ?_
          refine h_one 3 (by kernel_rfl) rfl ?_
          refine r_storeA 3 rfl rfl rfl rfl (by rfl) (by repeat' (first | exact rfl | assumption | refine all_cons ?_ ?_)) rfl ?_; refine r_nn ?_
          refine h_kept hG (by first | exact Ghost.le_refl _ | assumption) (by repeat' (first | exact List.nil_sublist _ | refine List.Sublist.cons_cons _ ?_ | refine List.Sublist.cons _ ?_)) ?_
          refine h_one 4 (by kernel_rfl) rfl ?_
          refine r_ev rfl rfl ?_; refine r_nn ?_
          refine h_kept hG (by first | exact Ghost.le_refl _ | assumption) (by repeat' (first | exact List.nil_sublist _ | refine List.Sublist.cons_cons _ ?_ | refine List.Sublist.cons _ ?_)) ?_
          refine h_done (by kernel_rfl) ?_
          refine r_then_normal ?_; refine r_retc ?_
          refine r_ret2 [_] rfl (res_blk 3 rfl rfl (by rfl)) (.tmp rfl) (.cons _ (.cons _ (.cons _ (.cons _ (List.Sublist.refl _))))) ⟨_, rfl, ?_⟩
          rw [show markAt l k [41] = false from hk] at hr
          rw [hr]
          exact ⟨_, _, _, rfl, hV, errV_miss _, k, hpk2, rfl⟩
      · intro K hK
        skip
        refine h_beginE [3] mixed (fun hG => ?_)
        refine h_takeX 0 rfl (by kernel_rfl) rfl hG (by first | exact Ghost.le_refl _ | assumption) (by repeat' (first | exact List.nil_sublist _ | refine List.Sublist.cons_cons _ ?_ | refine List.Sublist.cons _ ?_)) ?_; refine ⟨_, (val_loadB 2 rfl rfl (by rfl)), ?_⟩
        refine h_takeX 2 rfl (by kernel_rfl) rfl hG (by first | exact Ghost.le_refl _ | assumption) (by repeat' (first | exact List.nil_sublist _ | refine List.Sublist.cons_cons _ ?_ | refine List.Sublist.cons _ ?_)) ?_; refine ⟨_, (val_loadB 0 rfl rfl (by rfl)), ?_⟩; refine h_takeX 3 rfl (by kernel_rfl) rfl hG (by first | exact Ghost.le_refl _ | assumption) (by repeat' (first | exact List.nil_sublist _ | refine List.Sublist.cons_cons _ ?_ | refine List.Sublist.cons _ ?_)) ?_; refine ⟨_, (val_fieldAddr rfl), ?_⟩
        refine h_two 1 4 (by kernel_rfl) rfl rfl ?_ ?_
        · refine r_buildSlice rfl rfl (by rfl) (by rfl) (by rfl) (by rfl) (by rfl) (fun b7 => ?_)
          refine r_publishRow (fun g3 hg3 hs7 => ?_)
          refine r_nn ?_
          refine h_kept hG (by first | exact Ghost.le_refl _ | assumption) (by repeat' (first | exact List.nil_sublist _ | refine List.Sublist.cons_cons _ ?_ | refine List.Sublist.cons _ ?_)) ?_
          refine h_one 4 (by kernel_rfl) rfl ?_
          refine r_store1 3 rfl rfl rfl rfl rfl rfl ?_; refine r_nn ?_
          refine h_kept hG (by first | exact Ghost.le_refl _ | assumption) (by repeat' (first | exact List.nil_sublist _ | refine List.Sublist.cons_cons _ ?_ | refine List.Sublist.cons _ ?_)) ?_
          refine h_takeX 5 rfl (by kernel_rfl) rfl hG (by first | exact Ghost.le_refl _ | assumption) (by repeat' (first | exact List.nil_sublist _ | refine List.Sublist.cons_cons _ ?_ | refine List.Sublist.cons _ ?_)) ?_; refine ⟨_, (val_fieldAddr rfl), ?_⟩
          refine h_one 6 (by kernel_rfl) rfl ?_
          refine r_store1 3 rfl rfl rfl rfl rfl rfl ?_; refine r_nn ?_
          refine h_kept hG (by first | exact Ghost.le_refl _ | assumption) (by repeat' (first | exact List.nil_sublist _ | refine List.Sublist.cons_cons _ ?_ | refine List.Sublist.cons _ ?_)) ?_
          refine h_takeX 7 rfl (by kernel_rfl) rfl hG (by first | exact Ghost.le_refl _ | assumption) (by repeat' (first | exact List.nil_sublist _ | refine List.Sublist.cons_cons _ ?_ | refine List.Sublist.cons _ ?_)) ?_; refine ⟨_, (val_fieldAddr rfl), ?_⟩
          refine h_one 8 (by kernel_rfl) rfl ?_
          refine r_storeA 3 rfl rfl rfl rfl (by rfl) (by repeat' (first | exact rfl | assumption | refine all_cons ?_ ?_)) rfl ?_; refine r_nn ?_
          refine h_kept hG (by first | exact Ghost.le_refl _ | assumption) (by repeat' (first | exact List.nil_sublist _ | refine List.Sublist.cons_cons _ ?_ | refine List.Sublist.cons _ ?_)) ?_
          refine h_done (by kernel_rfl) ?_
          refine r_drop (own' := [_, _, _, _, _]) (.cons _ (.cons _ (List.Sublist.refl _))) ?_
          refine r_then_normal ?_
          exact hK (g3, b7) _ ⟨hg3, hs7⟩ ⟨rfl, rfl, rfl, trivial⟩
        · refine r_store1 3 rfl rfl rfl rfl rfl rfl ?_; refine r_nn ?_
          refine h_kept hG (by first | exact Ghost.le_refl _ | assumption) (by repeat' (first | exact List.nil_sublist _ | refine List.Sublist.cons_cons _ ?_ | refine List.Sublist.cons _ ?_)) ?_
          refine h_one 1 (by kernel_rfl) rfl ?_
          refine r_buildSlice rfl rfl (by rfl) (by rfl) (by rfl) (by rfl) (by rfl) (fun b7 => ?_)
          refine r_publishRow (fun g3 hg3 hs7 => ?_)
          refine r_nn ?_
          refine h_kept hG (by first | exact Ghost.le_refl _ | assumption) (by repeat' (first | exact List.nil_sublist _ | refine List.Sublist.cons_cons _ ?_ | refine List.Sublist.cons _ ?_)) ?_
          refine h_takeX 5 rfl (by kernel_rfl) rfl hG (by first | exact Ghost.le_refl _ | assumption) (by repeat' (first | exact List.nil_sublist _ | refine List.Sublist.cons_cons _ ?_ | refine List.Sublist.cons _ ?_)) ?_; refine ⟨_, (val_fieldAddr rfl), ?_⟩
          refine h_one 6 (by kernel_rfl) rfl ?_
          refine r_store1 3 rfl rfl rfl rfl rfl rfl ?_; refine r_nn ?_
          refine h_kept hG (by first | exact Ghost.le_refl _ | assumption) (by repeat' (first | exact List.nil_sublist _ | refine List.Sublist.cons_cons _ ?_ | refine List.Sublist.cons _ ?_)) ?_
          refine h_takeX 7 rfl (by kernel_rfl) rfl hG (by first | exact Ghost.le_refl _ | assumption) (by repeat' (first | exact List.nil_sublist _ | refine List.Sublist.cons_cons _ ?_ | refine List.Sublist.cons _ ?_)) ?_; refine ⟨_, (val_fieldAddr rfl), ?_⟩
          refine h_one 8 (by kernel_rfl) rfl ?_
          refine r_storeA 3 rfl rfl rfl rfl (by rfl) (by repeat' (first | exact rfl | assumption | refine all_cons ?_ ?_)) rfl ?_; refine r_nn ?_
          refine h_kept hG (by first | exact Ghost.le_refl _ | assumption) (by repeat' (first | exact List.nil_sublist _ | refine List.Sublist.cons_cons _ ?_ | refine List.Sublist.cons _ ?_)) ?_
          refine h_done (by kernel_rfl) ?_
          refine r_drop (own' := [_, _, _, _, _]) (.cons _ (.cons _ (List.Sublist.refl _))) ?_
          refine r_then_normal ?_
          exact hK (g3, b7) _ ⟨hg3, hs7⟩ ⟨rfl, rfl, rfl, trivial⟩
  · intro K hK
    skip
    refine h_beginE [] mixed (fun hG => ?_)
    refine h_takeX 0 rfl (by kernel_rfl) rfl hG (by first | exact Ghost.le_refl _ | assumption) (by repeat' (first | exact List.nil_sublist _ | refine List.Sublist.cons_cons _ ?_ | refine List.Sublist.cons _ ?_)) ?_; refine ⟨_, (val_ev rfl), ?_⟩; refine h_takeX 1 rfl (by kernel_rfl) rfl hG (by first | exact Ghost.le_refl _ | assumption) (by repeat' (first | exact List.nil_sublist _ | refine List.Sublist.cons_cons _ ?_ | refine List.Sublist.cons _ ?_)) ?_; refine ⟨_, (val_ev rfl), ?_⟩; refine h_takeX 2 rfl (by kernel_rfl) rfl hG (by first | exact Ghost.le_refl _ | assumption) (by repeat' (first | exact List.nil_sublist _ | refine List.Sublist.cons_cons _ ?_ | refine List.Sublist.cons _ ?_)) ?_; refine ⟨_, (val_fieldAddr rfl), ?_⟩; refine h_takeX 3 rfl (by kernel_rfl) rfl hG (by first | exact Ghost.le_refl _ | assumption) (by repeat' (first | exact List.nil_sublist _ | refine List.Sublist.cons_cons _ ?_ | refine List.Sublist.cons _ ?_)) ?_; refine ⟨_, (val_loadB1 4 rfl rfl rfl), ?_⟩; refine h_takeX 4 rfl (by kernel_rfl) rfl hG (by first | exact Ghost.le_refl _ | assumption) (by repeat' (first | exact List.nil_sublist _ | refine List.Sublist.cons_cons _ ?_ | refine List.Sublist.cons _ ?_)) ?_; refine ⟨_, (val_ev rfl), ?_⟩; refine h_takeX 5 rfl (by kernel_rfl) rfl hG (by first | exact Ghost.le_refl _ | assumption) (by repeat' (first | exact List.nil_sublist _ | refine List.Sublist.cons_cons _ ?_ | refine List.Sublist.cons _ ?_)) ?_; refine ⟨_, (val_ev rfl), ?_⟩; refine h_takeX 6 rfl (by kernel_rfl) rfl hG (by first | exact Ghost.le_refl _ | assumption) (by repeat' (first | exact List.nil_sublist _ | refine List.Sublist.cons_cons _ ?_ | refine List.Sublist.cons _ ?_)) ?_; refine ⟨_, (val_fieldAddr rfl), ?_⟩; refine h_takeX 7 rfl (by kernel_rfl) rfl hG (by first | exact Ghost.le_refl _ | assumption) (by repeat' (first | exact List.nil_sublist _ | refine List.Sublist.cons_cons _ ?_ | refine List.Sublist.cons _ ?_)) ?_; refine ⟨_, (val_loadB1 4 rfl rfl rfl), ?_⟩
    refine h_three 8 13 14 (by kernel_rfl) rfl rfl rfl ?_ ?_ ?_
    · refine r_callN rfl rfl (rType_spec hb g1' hg1 _ ((j + 1 : Nat) : Int) hs1) ?_
      rintro w g2 hans hle2
      rw [idx_nat (show j + 1 ≤ l.length by omega)] at hans
      obtain ⟨tv, rfl, hty⟩ := hans
      obtain ⟨ta, tm, tc, rfl, ht⟩ := hty.cells5
      refine r_nn ?_
      refine h_kept hG (by first | exact Ghost.le_refl _ | assumption) (by repeat' (first | exact List.nil_sublist _ | refine List.Sublist.cons_cons _ ?_ | refine List.Sublist.cons _ ?_)) ?_
      refine h_takeX 9 rfl (by kernel_rfl) rfl hG (by first | exact Ghost.le_refl _ | assumption) (by repeat' (first | exact List.nil_sublist _ | refine List.Sublist.cons_cons _ ?_ | refine List.Sublist.cons _ ?_)) ?_; refine ⟨_, (val_ev rfl), ?_⟩; refine h_takeX 10 rfl (by kernel_rfl) rfl hG (by first | exact Ghost.le_refl _ | assumption) (by repeat' (first | exact List.nil_sublist _ | refine List.Sublist.cons_cons _ ?_ | refine List.Sublist.cons _ ?_)) ?_; refine ⟨_, (val_ev rfl), ?_⟩; refine h_takeX 11 rfl (by kernel_rfl) rfl hG (by first | exact Ghost.le_refl _ | assumption) (by repeat' (first | exact List.nil_sublist _ | refine List.Sublist.cons_cons _ ?_ | refine List.Sublist.cons _ ?_)) ?_; refine ⟨_, (val_ev rfl), ?_⟩; refine h_takeX 12 rfl (by kernel_rfl) rfl hG (by first | exact Ghost.le_refl _ | assumption) (by repeat' (first | exact List.nil_sublist _ | refine List.Sublist.cons_cons _ ?_ | refine List.Sublist.cons _ ?_)) ?_; refine ⟨_, (val_ev rfl), ?_⟩
      refine h_two 13 14 (by kernel_rfl) rfl rfl ?_ ?_
      · refine r_alloc rfl (fun b8 => ?_)
        refine r_nn ?_
        refine h_kept hG (by first | exact Ghost.le_refl _ | assumption) (by repeat' (first | exact List.nil_sublist _ | refine List.Sublist.cons_cons _ ?_ | refine List.Sublist.cons _ ?_)) ?_
        refine h_one 14 (by kernel_rfl) rfl ?_
        refine r_alloc rfl (fun b10 => ?_)
        refine r_nn ?_
        refine h_kept hG (by first | exact Ghost.le_refl _ | assumption) (by repeat' (first | exact List.nil_sublist _ | refine List.Sublist.cons_cons _ ?_ | refine List.Sublist.cons _ ?_)) ?_
        refine h_one 15 (by kernel_rfl) rfl ?_
        refine r_storeA 1 rfl rfl rfl rfl (by rfl) (by repeat' (first | exact rfl | assumption | refine all_cons ?_ ?_)) rfl ?_; refine r_nn ?_
        refine h_kept hG (by first | exact Ghost.le_refl _ | assumption) (by repeat' (first | exact List.nil_sublist _ | refine List.Sublist.cons_cons _ ?_ | refine List.Sublist.cons _ ?_)) ?_
        refine h_takeX 16 rfl (by kernel_rfl) rfl hG (by first | exact Ghost.le_refl _ | assumption) (by repeat' (first | exact List.nil_sublist _ | refine List.Sublist.cons_cons _ ?_ | refine List.Sublist.cons _ ?_)) ?_; refine ⟨_, (val_ev rfl), ?_⟩
        refine h_one 17 (by kernel_rfl) rfl ?_
        refine r_storeA 0 rfl rfl rfl rfl (by rfl) (by repeat' (first | exact rfl | assumption | refine all_cons ?_ ?_)) rfl ?_; refine r_nn ?_
        refine h_kept hG (by first | exact Ghost.le_refl _ | assumption) (by repeat' (first | exact List.nil_sublist _ | refine List.Sublist.cons_cons _ ?_ | refine List.Sublist.cons _ ?_)) ?_
        refine h_done (by kernel_rfl) ?_
        refine r_perm (List.Perm.swap _ _ _) ?_
        refine r_then_normal ?_
        exact hK (g2, .slice ta tm tc, b8, b10) _ ⟨hle2, ht⟩ ⟨rfl, rfl, rfl, rfl, rfl, rfl, rfl, trivial⟩
      · refine r_alloc rfl (fun b10 => ?_)
        refine r_nn ?_
        refine h_kept hG (by first | exact Ghost.le_refl _ | assumption) (by repeat' (first | exact List.nil_sublist _ | refine List.Sublist.cons_cons _ ?_ | refine List.Sublist.cons _ ?_)) ?_
        refine h_one 13 (by kernel_rfl) rfl ?_
        refine r_alloc rfl (fun b8 => ?_)
        refine r_nn ?_
        refine h_kept hG (by first | exact Ghost.le_refl _ | assumption) (by repeat' (first | exact List.nil_sublist _ | refine List.Sublist.cons_cons _ ?_ | refine List.Sublist.cons _ ?_)) ?_
        refine h_one 15 (by kernel_rfl) rfl ?_
        refine r_storeA 0 rfl rfl rfl rfl (by rfl) (by repeat' (first | exact rfl | assumption | refine all_cons ?_ ?_)) rfl ?_; refine r_nn ?_
        refine h_kept hG (by first | exact Ghost.le_refl _ | assumption) (by repeat' (first | exact List.nil_sublist _ | refine List.Sublist.cons_cons _ ?_ | refine List.Sublist.cons _ ?_)) ?_
        refine h_takeX 16 rfl (by kernel_rfl) rfl hG (by first | exact Ghost.le_refl _ | assumption) (by repeat' (first | exact List.nil_sublist _ | refine List.Sublist.cons_cons _ ?_ | refine List.Sublist.cons _ ?_)) ?_; refine ⟨_, (val_ev rfl), ?_⟩
        refine h_one 17 (by kernel_rfl) rfl ?_
        refine r_storeA 1 rfl rfl rfl rfl (by rfl) (by repeat' (first | exact rfl | assumption | refine all_cons ?_ ?_)) rfl ?_; refine r_nn ?_
        refine h_kept hG (by first | exact Ghost.le_refl _ | assumption) (by repeat' (first | exact List.nil_sublist _ | refine List.Sublist.cons_cons _ ?_ | refine List.Sublist.cons _ ?_)) ?_
        refine h_done (by kernel_rfl) ?_
        refine r_then_normal ?_
        exact hK (g2, .slice ta tm tc, b8, b10) _ ⟨hle2, ht⟩ ⟨rfl, rfl, rfl, rfl, rfl, rfl, rfl, trivial⟩
    · refine r_alloc rfl (fun b8 => ?_)
      refine r_nn ?_
      refine h_kept hG (by first | exact Ghost.le_refl _ | assumption) (by repeat' (first | exact List.nil_sublist _ | refine List.Sublist.cons_cons _ ?_ | refine List.Sublist.cons _ ?_)) ?_
      refine h_two 8 14 (by kernel_rfl) rfl rfl ?_ ?_
      · refine r_callN rfl rfl (rType_spec hb g1' hg1 _ ((j + 1 : Nat) : Int) hs1) ?_
        rintro w g2 hans hle2
        rw [idx_nat (show j + 1 ≤ l.length by omega)] at hans
        obtain ⟨tv, rfl, hty⟩ := hans
        obtain ⟨ta, tm, tc, rfl, ht⟩ := hty.cells5
        refine r_nn ?_
        refine h_kept hG (by first | exact Ghost.le_refl _ | assumption) (by repeat' (first | exact List.nil_sublist _ | refine List.Sublist.cons_cons _ ?_ | refine List.Sublist.cons _ ?_)) ?_
        refine h_takeX 9 rfl (by kernel_rfl) rfl hG (by first | exact Ghost.le_refl _ | assumption) (by repeat' (first | exact List.nil_sublist _ | refine List.Sublist.cons_cons _ ?_ | refine List.Sublist.cons _ ?_)) ?_; refine ⟨_, (val_ev rfl), ?_⟩; refine h_takeX 10 rfl (by kernel_rfl) rfl hG (by first | exact Ghost.le_refl _ | assumption) (by repeat' (first | exact List.nil_sublist _ | refine List.Sublist.cons_cons _ ?_ | refine List.Sublist.cons _ ?_)) ?_; refine ⟨_, (val_ev rfl), ?_⟩; refine h_takeX 11 rfl (by kernel_rfl) rfl hG (by first | exact Ghost.le_refl _ | assumption) (by repeat' (first | exact List.nil_sublist _ | refine List.Sublist.cons_cons _ ?_ | refine List.Sublist.cons _ ?_)) ?_; refine ⟨_, (val_ev rfl), ?_⟩; refine h_takeX 12 rfl (by kernel_rfl) rfl hG (by first | exact Ghost.le_refl _ | assumption) (by repeat' (first | exact List.nil_sublist _ | refine List.Sublist.cons_cons _ ?_ | refine List.Sublist.cons _ ?_)) ?_; refine ⟨_, (val_ev rfl), ?_⟩
        refine h_one 14 (by kernel_rfl) rfl ?_
        refine r_alloc rfl (fun b10 => ?_)
        refine r_nn ?_
        refine h_kept hG (by first | exact Ghost.le_refl _ | assumption) (by repeat' (first | exact List.nil_sublist _ | refine List.Sublist.cons_cons _ ?_ | refine List.Sublist.cons _ ?_)) ?_
        refine h_one 15 (by kernel_rfl) rfl ?_
        refine r_storeA 1 rfl rfl rfl rfl (by rfl) (by repeat' (first | exact rfl | assumption | refine all_cons ?_ ?_)) rfl ?_; refine r_nn ?_
        refine h_kept hG (by first | exact Ghost.le_refl _ | assumption) (by repeat' (first | exact List.nil_sublist _ | refine List.Sublist.cons_cons _ ?_ | refine List.Sublist.cons _ ?_)) ?_
        refine h_takeX 16 rfl (by kernel_rfl) rfl hG (by first | exact Ghost.le_refl _ | assumption) (by repeat' (first | exact List.nil_sublist _ | refine List.Sublist.cons_cons _ ?_ | refine List.Sublist.cons _ ?_)) ?_; refine ⟨_, (val_ev rfl), ?_⟩
        refine h_one 17 (by kernel_rfl) rfl ?_
        refine r_storeA 0 rfl rfl rfl rfl (by rfl) (by repeat' (first | exact rfl | assumption | refine all_cons ?_ ?_)) rfl ?_; refine r_nn ?_
        refine h_kept hG (by first | exact Ghost.le_refl _ | assumption) (by repeat' (first | exact List.nil_sublist _ | refine List.Sublist.cons_cons _ ?_ | refine List.Sublist.cons _ ?_)) ?_
        refine h_done (by kernel_rfl) ?_
        refine r_perm (List.Perm.swap _ _ _) ?_
        refine r_then_normal ?_
        exact hK (g2, .slice ta tm tc, b8, b10) _ ⟨hle2, ht⟩ ⟨rfl, rfl, rfl, rfl, rfl, rfl, rfl, trivial⟩
      · refine r_alloc rfl (fun b10 => ?_)
        refine r_nn ?_
        refine h_kept hG (by first | exact Ghost.le_refl _ | assumption) (by repeat' (first | exact List.nil_sublist _ | refine List.Sublist.cons_cons _ ?_ | refine List.Sublist.cons _ ?_)) ?_
        refine h_one 8 (by kernel_rfl) rfl ?_
        refine r_callN rfl rfl (rType_spec hb g1' hg1 _ ((j + 1 : Nat) : Int) hs1) ?_
        rintro w g2 hans hle2
        rw [idx_nat (show j + 1 ≤ l.length by omega)] at hans
        obtain ⟨tv, rfl, hty⟩ := hans
        obtain ⟨ta, tm, tc, rfl, ht⟩ := hty.cells5
        refine r_nn ?_
        refine h_kept hG (by first | exact Ghost.le_refl _ | assumption) (by repeat' (first | exact List.nil_sublist _ | refine List.Sublist.cons_cons _ ?_ | refine List.Sublist.cons _ ?_)) ?_
        refine h_takeX 9 rfl (by kernel_rfl) rfl hG (by first | exact Ghost.le_refl _ | assumption) (by repeat' (first | exact List.nil_sublist _ | refine List.Sublist.cons_cons _ ?_ | refine List.Sublist.cons _ ?_)) ?_; refine ⟨_, (val_ev rfl), ?_⟩; refine h_takeX 10 rfl (by kernel_rfl) rfl hG (by first | exact Ghost.le_refl _ | assumption) (by repeat' (first | exact List.nil_sublist _ | refine List.Sublist.cons_cons _ ?_ | refine List.Sublist.cons _ ?_)) ?_; refine ⟨_, (val_ev rfl), ?_⟩; refine h_takeX 11 rfl (by kernel_rfl) rfl hG (by first | exact Ghost.le_refl _ | assumption) (by repeat' (first | exact List.nil_sublist _ | refine List.Sublist.cons_cons _ ?_ | refine List.Sublist.cons _ ?_)) ?_; refine ⟨_, (val_ev rfl), ?_⟩; refine h_takeX 12 rfl (by kernel_rfl) rfl hG (by first | exact Ghost.le_refl _ | assumption) (by repeat' (first | exact List.nil_sublist _ | refine List.Sublist.cons_cons _ ?_ | refine List.Sublist.cons _ ?_)) ?_; refine ⟨_, (val_ev rfl), ?_⟩
        refine h_one 15 (by kernel_rfl) rfl ?_
        refine r_storeA 1 rfl rfl rfl rfl (by rfl) (by repeat' (first | exact rfl | assumption | refine all_cons ?_ ?_)) rfl ?_; refine r_nn ?_
        refine h_kept hG (by first | exact Ghost.le_refl _ | assumption) (by repeat' (first | exact List.nil_sublist _ | refine List.Sublist.cons_cons _ ?_ | refine List.Sublist.cons _ ?_)) ?_
        refine h_takeX 16 rfl (by kernel_rfl) rfl hG (by first | exact Ghost.le_refl _ | assumption) (by repeat' (first | exact List.nil_sublist _ | refine List.Sublist.cons_cons _ ?_ | refine List.Sublist.cons _ ?_)) ?_; refine ⟨_, (val_ev rfl), ?_⟩
        refine h_one 17 (by kernel_rfl) rfl ?_
        refine r_storeA 0 rfl rfl rfl rfl (by rfl) (by repeat' (first | exact rfl | assumption | refine all_cons ?_ ?_)) rfl ?_; refine r_nn ?_
        refine h_kept hG (by first | exact Ghost.le_refl _ | assumption) (by repeat' (first | exact List.nil_sublist _ | refine List.Sublist.cons_cons _ ?_ | refine List.Sublist.cons _ ?_)) ?_
        refine h_done (by kernel_rfl) ?_
        refine r_perm (List.Perm.swap _ _ _) ?_
        refine r_then_normal ?_
        exact hK (g2, .slice ta tm tc, b8, b10) _ ⟨hle2, ht⟩ ⟨rfl, rfl, rfl, rfl, rfl, rfl, rfl, trivial⟩
    · refine r_alloc rfl (fun b10 => ?_)
      refine r_nn ?_
      refine h_kept hG (by first | exact Ghost.le_refl _ | assumption) (by repeat' (first | exact List.nil_sublist _ | refine List.Sublist.cons_cons _ ?_ | refine List.Sublist.cons _ ?_)) ?_
      refine h_two 8 13 (by kernel_rfl) rfl rfl ?_ ?_
      · refine r_callN rfl rfl (rType_spec hb g1' hg1 _ ((j + 1 : Nat) : Int) hs1) ?_
        rintro w g2 hans hle2
        rw [idx_nat (show j + 1 ≤ l.length by omega)] at hans
        obtain ⟨tv, rfl, hty⟩ := hans
        obtain ⟨ta, tm, tc, rfl, ht⟩ := hty.cells5
        refine r_nn ?_
        refine h_kept hG (by first | exact Ghost.le_refl _ | assumption) (by repeat' (first | exact List.nil_sublist _ | refine List.Sublist.cons_cons _ ?_ | refine List.Sublist.cons _ ?_)) ?_
        refine h_takeX 9 rfl (by kernel_rfl) rfl hG (by first | exact Ghost.le_refl _ | assumption) (by repeat' (first | exact List.nil_sublist _ | refine List.Sublist.cons_cons _ ?_ | refine List.Sublist.cons _ ?_)) ?_; refine ⟨_, (val_ev rfl), ?_⟩; refine h_takeX 10 rfl (by kernel_rfl) rfl hG (by first | exact Ghost.le_refl _ | assumption) (by repeat' (first | exact List.nil_sublist _ | refine List.Sublist.cons_cons _ ?_ | refine List.Sublist.cons _ ?_)) ?_; refine ⟨_, (val_ev rfl), ?_⟩; refine h_takeX 11 rfl (by kernel_rfl) rfl hG (by first | exact Ghost.le_refl _ | assumption) (by repeat' (first | exact List.nil_sublist _ | refine List.Sublist.cons_cons _ ?_ | refine List.Sublist.cons _ ?_)) ?_; refine ⟨_, (val_ev rfl), ?_⟩; refine h_takeX 12 rfl (by kernel_rfl) rfl hG (by first | exact Ghost.le_refl _ | assumption) (by repeat' (first | exact List.nil_sublist _ | refine List.Sublist.cons_cons _ ?_ | refine List.Sublist.cons _ ?_)) ?_; refine ⟨_, (val_ev rfl), ?_⟩
        refine h_one 13 (by kernel_rfl) rfl ?_
        refine r_alloc rfl (fun b8 => ?_)
        refine r_nn ?_
        refine h_kept hG (by first | exact Ghost.le_refl _ | assumption) (by repeat' (first | exact List.nil_sublist _ | refine List.Sublist.cons_cons _ ?_ | refine List.Sublist.cons _ ?_)) ?_
        refine h_one 15 (by kernel_rfl) rfl ?_
        refine r_storeA 0 rfl rfl rfl rfl (by rfl) (by repeat' (first | exact rfl | assumption | refine all_cons ?_ ?_)) rfl ?_; refine r_nn ?_
        refine h_kept hG (by first | exact Ghost.le_refl _ | assumption) (by repeat' (first | exact List.nil_sublist _ | refine List.Sublist.cons_cons _ ?_ | refine List.Sublist.cons _ ?_)) ?_
        refine h_takeX 16 rfl (by kernel_rfl) rfl hG (by first | exact Ghost.le_refl _ | assumption) (by repeat' (first | exact List.nil_sublist _ | refine List.Sublist.cons_cons _ ?_ | refine List.Sublist.cons _ ?_)) ?_; refine ⟨_, (val_ev rfl), ?_⟩
        refine h_one 17 (by kernel_rfl) rfl ?_
        refine r_storeA 1 rfl rfl rfl rfl (by rfl) (by repeat' (first | exact rfl | assumption | refine all_cons ?_ ?_)) rfl ?_; refine r_nn ?_
        refine h_kept hG (by first | exact Ghost.le_refl _ | assumption) (by repeat' (first | exact List.nil_sublist _ | refine List.Sublist.cons_cons _ ?_ | refine List.Sublist.cons _ ?_)) ?_
        refine h_done (by kernel_rfl) ?_
        refine r_then_normal ?_
        exact hK (g2, .slice ta tm tc, b8, b10) _ ⟨hle2, ht⟩ ⟨rfl, rfl, rfl, rfl, rfl, rfl, rfl, trivial⟩
      · refine r_alloc rfl (fun b8 => ?_)
        refine r_nn ?_
        refine h_kept hG (by first | exact Ghost.le_refl _ | assumption) (by repeat' (first | exact List.nil_sublist _ | refine List.Sublist.cons_cons _ ?_ | refine List.Sublist.cons _ ?_)) ?_
        refine h_one 8 (by kernel_rfl) rfl ?_
        refine r_callN rfl rfl (rType_spec hb g1' hg1 _ ((j + 1 : Nat) : Int) hs1) ?_
        rintro w g2 hans hle2
        rw [idx_nat (show j + 1 ≤ l.length by omega)] at hans
        obtain ⟨tv, rfl, hty⟩ := hans
        obtain ⟨ta, tm, tc, rfl, ht⟩ := hty.cells5
        refine r_nn ?_
        refine h_kept hG (by first | exact Ghost.le_refl _ | assumption) (by repeat' (first | exact List.nil_sublist _ | refine List.Sublist.cons_cons _ ?_ | refine List.Sublist.cons _ ?_)) ?_
        refine h_takeX 9 rfl (by kernel_rfl) rfl hG (by first | exact Ghost.le_refl _ | assumption) (by repeat' (first | exact List.nil_sublist _ | refine List.Sublist.cons_cons _ ?_ | refine List.Sublist.cons _ ?_)) ?_; refine ⟨_, (val_ev rfl), ?_⟩; refine h_takeX 10 rfl (by kernel_rfl) rfl hG (by first | exact Ghost.le_refl _ | assumption) (by repeat' (first | exact List.nil_sublist _ | refine List.Sublist.cons_cons _ ?_ | refine List.Sublist.cons _ ?_)) ?_; refine ⟨_, (val_ev rfl), ?_⟩; refine h_takeX 11 rfl (by kernel_rfl) rfl hG (by first | exact Ghost.le_refl _ | assumption) (by repeat' (first | exact List.nil_sublist _ | refine List.Sublist.cons_cons _ ?_ | refine List.Sublist.cons _ ?_)) ?_; refine ⟨_, (val_ev rfl), ?_⟩; refine h_takeX 12 rfl (by kernel_rfl) rfl hG (by first | exact Ghost.le_refl _ | assumption) (by repeat' (first | exact List.nil_sublist _ | refine List.Sublist.cons_cons _ ?_ | refine List.Sublist.cons _ ?_)) ?_; refine ⟨_, (val_ev rfl), ?_⟩
        refine h_one 15 (by kernel_rfl) rfl ?_
        refine r_storeA 0 rfl rfl rfl rfl (by rfl) (by repeat' (first | exact rfl | assumption | refine all_cons ?_ ?_)) rfl ?_; refine r_nn ?_
        refine h_kept hG (by first | exact Ghost.le_refl _ | assumption) (by repeat' (first | exact List.nil_sublist _ | refine List.Sublist.cons_cons _ ?_ | refine List.Sublist.cons _ ?_)) ?_
        refine h_takeX 16 rfl (by kernel_rfl) rfl hG (by first | exact Ghost.le_refl _ | assumption) (by repeat' (first | exact List.nil_sublist _ | refine List.Sublist.cons_cons _ ?_ | refine List.Sublist.cons _ ?_)) ?_; refine ⟨_, (val_ev rfl), ?_⟩
        refine h_one 17 (by kernel_rfl) rfl ?_
        refine r_storeA 1 rfl rfl rfl rfl (by rfl) (by repeat' (first | exact rfl | assumption | refine all_cons ?_ ?_)) rfl ?_; refine r_nn ?_
        refine h_kept hG (by first | exact Ghost.le_refl _ | assumption) (by repeat' (first | exact List.nil_sublist _ | refine List.Sublist.cons_cons _ ?_ | refine List.Sublist.cons _ ?_)) ?_
        refine h_done (by kernel_rfl) ?_
        refine r_then_normal ?_
        exact hK (g2, .slice ta tm tc, b8, b10) _ ⟨hle2, ht⟩ ⟨rfl, rfl, rfl, rfl, rfl, rfl, rfl, trivial⟩
end
end Go.Proofs.YtblbbjhbigpgnaaGreatDoor
-- sum a693a404f51b42f6
/- The walks of package readexpr: expr, the joint induction, result, Expr, Atom. -/
namespace Go.Proofs.YtblbbjhbigpgnaaGreatDoor
open Go Go.Eng Go.Th Go.Proofs
set_option maxRecDepth 10000
set_option maxHeartbeats 4000000
attribute [local irreducible] wpList Code.wp Run bodyPost Go.Eng.Ends Exit.then Exit.inBlock Again Wq Kq
section
variable {l : List Tok} (hb : TB l) (hkw : KW l) (m : Nat) (lv : Value) (b : Nat)
  (hX : ∀ g i, ErrT g → ToksAt g lv l → i ≤ l.length → l.length - i < m → SpecL Tryz.prog 37 [ptr b 0] g (rdE b lv i 0) (postE l i b lv (eread l .expr i)))
include hb hkw hX
theorem eexpr_step (g : Ghost) (i : Nat) (hg : ErrT g) (hs : ToksAt g lv l) (hi : i ≤ l.length) (hm : l.length - i < m + 1) :
    SpecL Tryz.prog 37 [ptr b 0] g (rdE b lv i 0) (postE l i b lv (eread l .expr i)) := by
  have hb1 := hb.1
  have hr := eread_step l .expr i
  simp only [estep] at hr
  refine spec_of_run Tryz.func37 rfl Tryz.ntmps37 rfl fun E hE => ?_
  refine r_sr ?_
  refine r_alloc rfl (fun b2 => ?_)
  refine r_ev rfl rfl ?_; refine r_nn ?_; refine r_sr ?_; refine r_ev rfl rfl ?_
  refine r_callO 1 rfl rfl rfl (eplace_spec g l lv hs b i 0) ?_
  refine r_build rfl rfl (by rfl) ?_
  refine r_alloc rfl (fun b4 => ?_)
  refine r_storeA 0 rfl rfl rfl rfl (by rfl) (by repeat' (first | exact rfl | assumption | refine all_cons ?_ ?_)) rfl ?_; refine r_nn ?_; refine r_seq ?_; refine r_block ?_; refine r_sr ?_; refine r_ev rfl rfl ?_
  refine r_callL 2 rfl rfl rfl (eread_spec g l hb lv hs b i 0 5 [92]) ?_
  rintro v g1 r' ⟨rfl, rfl, rfl⟩ _
  rw [show tokAt l i 5 [92] = markAt l i [92] from rfl]
  cases h1 : markAt l i [92] with
  | true =>
    have hlt := tokAt_lt h1
    rw [h1] at hr
    simp only [if_true] at hr ⊢
    have hr' : eread l .expr i = funRes l (posOf l i) (i + 1) := hr
    refine r_ev rfl rfl ?_; refine r_nn ?_; refine r_cond_true rfl ?_; refine r_sr ?_; refine r_fieldAddr rfl rfl ?_; refine r_store1 0 rfl rfl rfl rfl rfl rfl ?_; refine r_nn ?_; refine r_sr ?_; refine r_ev rfl rfl ?_; refine r_loadB 0 rfl rfl rfl (by rfl) ?_
    refine r_callL 2 rfl rfl rfl (efunction_step hb m lv b hX g1 (i + 1) hg hs hlt (by omega) (posOf l i)) ?_
    rintro v g2 r' hw hle
    rw [← hr'] at hw
    cases hq : eread l .expr i with
    | error p =>
      rw [hq] at hw
      obtain ⟨ev, e, er, rfl, he, her, j, hj, rfl⟩ := hw
      obtain ⟨a1, m1, c1, a2, m2, c2, a3, m3, c3, rfl, he'⟩ := he.form
      refine r_ev rfl rfl ?_; refine r_ev rfl rfl ?_; refine r_storeA 1 rfl rfl rfl rfl (by rfl) (by repeat' (first | exact rfl | assumption | refine all_cons ?_ ?_)) rfl ?_; refine r_ev rfl rfl ?_; refine r_nn ?_; refine r_retc ?_; refine r_in_ret ?_; refine r_then_ret ?_
      refine r_ret2 [_] rfl (res_blk 1 rfl rfl (by rfl)) (.tmp rfl) (.cons _ (.cons _ (List.Sublist.refl _))) ⟨_, rfl, ?_⟩
      exact ⟨_, e, _, rfl, ⟨_, rfl, he'⟩, her, j, hj, rfl⟩
    | ok q =>
      obtain ⟨e, j⟩ := q
      rw [hq] at hw
      obtain ⟨ev, rfl, he, rfl, hj1, hj2⟩ := hw
      obtain ⟨a1, m1, c1, a2, m2, c2, a3, m3, c3, rfl, he'⟩ := he.form
      refine r_ev rfl rfl ?_; refine r_ev rfl rfl ?_; refine r_storeA 1 rfl rfl rfl rfl (by rfl) (by repeat' (first | exact rfl | assumption | refine all_cons ?_ ?_)) rfl ?_; refine r_ev rfl rfl ?_; refine r_nn ?_; refine r_retc ?_; refine r_in_ret ?_; refine r_then_ret ?_
      refine r_ret2 [_] rfl (res_blk 1 rfl rfl (by rfl)) (.tmp rfl) (.cons _ (.cons _ (List.Sublist.refl _))) ⟨_, rfl, ?_⟩
      exact ⟨_, rfl, ⟨_, rfl, he'⟩, rfl, by omega, hj2⟩
  | false =>
  rw [h1] at hr
  simp only [Bool.false_eq_true, if_false] at hr ⊢
  refine r_ev rfl rfl ?_; refine r_nn ?_; refine r_cond_false rfl ?_; refine r_sr ?_; refine r_ev rfl rfl ?_
  refine r_callL 2 rfl rfl rfl (eread_spec g1 l hb lv hs b i 0 4 letB) ?_
  rintro v g1 r' ⟨rfl, rfl, rfl⟩ _
  rw [show tokAt l i 4 letB = wordAt l i letB from rfl]
  cases h2 : wordAt l i letB with
  | true =>
    have hlt := tokAt_lt h2
    rw [h2] at hr
    simp only [if_true] at hr ⊢
    refine r_ev rfl rfl ?_; refine r_nn ?_; refine r_cond_true rfl ?_; refine r_sr ?_; refine r_fieldAddr rfl rfl ?_; refine r_store1 0 rfl rfl rfl rfl rfl rfl ?_; refine r_nn ?_; refine r_seq ?_; refine r_sr ?_; refine r_ev rfl rfl ?_
    refine r_callL 2 rfl rfl rfl (eread_spec g1 l hb lv hs b (i + 1) 0 4 recB) ?_
    rintro v g1 r' ⟨rfl, rfl, rfl⟩ _
    rw [show tokAt l (i + 1) 4 recB = wordAt l (i + 1) recB from rfl]
    cases h3 : wordAt l (i + 1) recB with
    | true =>
      have hlt2 := tokAt_lt h3
      rw [h3] at hr
      simp only [if_true] at hr ⊢
      refine r_nn ?_; refine r_cond_true rfl ?_; refine r_region ?_; refine r_fieldAddr rfl rfl ?_; refine r_store1 0 rfl rfl rfl rfl rfl rfl ?_; refine r_nn ?_; refine r_sr ?_; refine r_ev rfl rfl ?_; refine r_loadB 0 rfl rfl rfl (by rfl) ?_
      refine r_callL 2 rfl rfl rfl (elet_step hb m lv b hX g1 (i + 2) hg hs hlt2 (by omega) 7 (posOf l i)) ?_
      rintro v g2 r' hw hle
      rw [← hr] at hw
      cases hq : eread l .expr i with
      | error p =>
        rw [hq] at hw
        obtain ⟨ev, e, er, rfl, he, her, j, hj, rfl⟩ := hw
        obtain ⟨a1, m1, c1, a2, m2, c2, a3, m3, c3, rfl, he'⟩ := he.form
        refine r_ev rfl rfl ?_; refine r_ev rfl rfl ?_; refine r_storeA 1 rfl rfl rfl rfl (by rfl) (by repeat' (first | exact rfl | assumption | refine all_cons ?_ ?_)) rfl ?_; refine r_ev rfl rfl ?_; refine r_nn ?_; refine r_retc ?_; refine r_in_ret ?_; refine r_then_ret ?_
        refine r_ret2 [_] rfl (res_blk 1 rfl rfl (by rfl)) (.tmp rfl) (.cons _ (.cons _ (List.Sublist.refl _))) ⟨_, rfl, ?_⟩
        exact ⟨_, e, _, rfl, ⟨_, rfl, he'⟩, her, j, hj, rfl⟩
      | ok q =>
        obtain ⟨e, j⟩ := q
        rw [hq] at hw
        obtain ⟨ev, rfl, he, rfl, hj1, hj2⟩ := hw
        obtain ⟨a1, m1, c1, a2, m2, c2, a3, m3, c3, rfl, he'⟩ := he.form
        refine r_ev rfl rfl ?_; refine r_ev rfl rfl ?_; refine r_storeA 1 rfl rfl rfl rfl (by rfl) (by repeat' (first | exact rfl | assumption | refine all_cons ?_ ?_)) rfl ?_; refine r_ev rfl rfl ?_; refine r_nn ?_; refine r_retc ?_; refine r_in_ret ?_; refine r_then_ret ?_
        refine r_ret2 [_] rfl (res_blk 1 rfl rfl (by rfl)) (.tmp rfl) (.cons _ (.cons _ (List.Sublist.refl _))) ⟨_, rfl, ?_⟩
        exact ⟨_, rfl, ⟨_, rfl, he'⟩, rfl, by omega, hj2⟩
    | false =>
      rw [h3] at hr
      simp only [Bool.false_eq_true, if_false] at hr ⊢
      refine r_nn ?_; refine r_cond_false rfl ?_; refine r_skip ?_; refine r_then_normal ?_; refine r_sr ?_; refine r_ev rfl rfl ?_; refine r_loadB 0 rfl rfl rfl (by rfl) ?_
      refine r_callL 2 rfl rfl rfl (elet_step hb m lv b hX g1 (i + 1) hg hs hlt (by omega) 6 (posOf l i)) ?_
      rintro v g2 r' hw hle
      rw [← hr] at hw
      cases hq : eread l .expr i with
      | error p =>
        rw [hq] at hw
        obtain ⟨ev, e, er, rfl, he, her, j, hj, rfl⟩ := hw
        obtain ⟨a1, m1, c1, a2, m2, c2, a3, m3, c3, rfl, he'⟩ := he.form
        refine r_ev rfl rfl ?_; refine r_ev rfl rfl ?_; refine r_storeA 1 rfl rfl rfl rfl (by rfl) (by repeat' (first | exact rfl | assumption | refine all_cons ?_ ?_)) rfl ?_; refine r_ev rfl rfl ?_; refine r_nn ?_; refine r_retc ?_; refine r_in_ret ?_; refine r_then_ret ?_
        refine r_ret2 [_] rfl (res_blk 1 rfl rfl (by rfl)) (.tmp rfl) (.cons _ (.cons _ (List.Sublist.refl _))) ⟨_, rfl, ?_⟩
        exact ⟨_, e, _, rfl, ⟨_, rfl, he'⟩, her, j, hj, rfl⟩
      | ok q =>
        obtain ⟨e, j⟩ := q
        rw [hq] at hw
        obtain ⟨ev, rfl, he, rfl, hj1, hj2⟩ := hw
        obtain ⟨a1, m1, c1, a2, m2, c2, a3, m3, c3, rfl, he'⟩ := he.form
        refine r_ev rfl rfl ?_; refine r_ev rfl rfl ?_; refine r_storeA 1 rfl rfl rfl rfl (by rfl) (by repeat' (first | exact rfl | assumption | refine all_cons ?_ ?_)) rfl ?_; refine r_ev rfl rfl ?_; refine r_nn ?_; refine r_retc ?_; refine r_in_ret ?_; refine r_then_ret ?_
        refine r_ret2 [_] rfl (res_blk 1 rfl rfl (by rfl)) (.tmp rfl) (.cons _ (.cons _ (List.Sublist.refl _))) ⟨_, rfl, ?_⟩
        exact ⟨_, rfl, ⟨_, rfl, he'⟩, rfl, by omega, hj2⟩
  | false =>
  rw [h2] at hr
  simp only [Bool.false_eq_true, if_false] at hr ⊢
  refine r_ev rfl rfl ?_; refine r_nn ?_; refine r_cond_false rfl ?_; refine r_sr ?_; refine r_ev rfl rfl ?_
  refine r_callL 2 rfl rfl rfl (eread_spec g1 l hb lv hs b i 0 4 caseB) ?_
  rintro v g1 r' ⟨rfl, rfl, rfl⟩ _
  rw [show tokAt l i 4 caseB = wordAt l i caseB from rfl]
  cases h3 : wordAt l i caseB with
  | true =>
    have hlt := tokAt_lt h3
    rw [h3] at hr
    simp only [if_true] at hr ⊢
    have hr' : eread l .expr i = caseRes l (posOf l i) (i + 1) := hr
    refine r_ev rfl rfl ?_; refine r_nn ?_; refine r_cond_true rfl ?_; refine r_sr ?_; refine r_fieldAddr rfl rfl ?_; refine r_store1 0 rfl rfl rfl rfl rfl rfl ?_; refine r_nn ?_; refine r_sr ?_; refine r_ev rfl rfl ?_; refine r_loadB 0 rfl rfl rfl (by rfl) ?_
    refine r_callL 2 rfl rfl rfl (eanalysis_step hb m lv b hX g1 (i + 1) hg hs hlt (by omega) (posOf l i)) ?_
    rintro v g2 r' hw hle
    rw [← hr'] at hw
    cases hq : eread l .expr i with
    | error p =>
      rw [hq] at hw
      obtain ⟨ev, e, er, rfl, he, her, j, hj, rfl⟩ := hw
      obtain ⟨a1, m1, c1, a2, m2, c2, a3, m3, c3, rfl, he'⟩ := he.form
      refine r_ev rfl rfl ?_; refine r_ev rfl rfl ?_; refine r_storeA 1 rfl rfl rfl rfl (by rfl) (by repeat' (first | exact rfl | assumption | refine all_cons ?_ ?_)) rfl ?_; refine r_ev rfl rfl ?_; refine r_nn ?_; refine r_retc ?_; refine r_in_ret ?_; refine r_then_ret ?_
      refine r_ret2 [_] rfl (res_blk 1 rfl rfl (by rfl)) (.tmp rfl) (.cons _ (.cons _ (List.Sublist.refl _))) ⟨_, rfl, ?_⟩
      exact ⟨_, e, _, rfl, ⟨_, rfl, he'⟩, her, j, hj, rfl⟩
    | ok q =>
      obtain ⟨e, j⟩ := q
      rw [hq] at hw
      obtain ⟨ev, rfl, he, rfl, hj1, hj2⟩ := hw
      obtain ⟨a1, m1, c1, a2, m2, c2, a3, m3, c3, rfl, he'⟩ := he.form
      refine r_ev rfl rfl ?_; refine r_ev rfl rfl ?_; refine r_storeA 1 rfl rfl rfl rfl (by rfl) (by repeat' (first | exact rfl | assumption | refine all_cons ?_ ?_)) rfl ?_; refine r_ev rfl rfl ?_; refine r_nn ?_; refine r_retc ?_; refine r_in_ret ?_; refine r_then_ret ?_
      refine r_ret2 [_] rfl (res_blk 1 rfl rfl (by rfl)) (.tmp rfl) (.cons _ (.cons _ (List.Sublist.refl _))) ⟨_, rfl, ?_⟩
      exact ⟨_, rfl, ⟨_, rfl, he'⟩, rfl, by omega, hj2⟩
  | false =>
  rw [h3] at hr
  simp only [Bool.false_eq_true, if_false] at hr ⊢
  have hr' : eread l .expr i = appRes l i := hr
  refine r_ev rfl rfl ?_; refine r_nn ?_; refine r_cond_false rfl ?_; refine r_skip ?_; refine r_in_normal ?_; refine r_then_normal ?_; refine r_sr ?_; refine r_ev rfl rfl ?_
  refine r_callL 2 rfl rfl rfl (eapplied_step hb m lv b (fun g i => eatom_step hb hkw m lv b hX g i) g1 i hg hs hi hm) ?_
  rintro v g2 r' hw hle
  rw [← hr'] at hw
  cases hq : eread l .expr i with
  | error p =>
    rw [hq] at hw
    obtain ⟨ev, e, er, rfl, he, her, j, hj, rfl⟩ := hw
    obtain ⟨a1, m1, c1, a2, m2, c2, a3, m3, c3, rfl, he'⟩ := he.form
    refine r_ev rfl rfl ?_; refine r_ev rfl rfl ?_; refine r_storeA 1 rfl rfl rfl rfl (by rfl) (by repeat' (first | exact rfl | assumption | refine all_cons ?_ ?_)) rfl ?_; refine r_ev rfl rfl ?_; refine r_nn ?_; refine r_retc ?_
    refine r_ret2 [_] rfl (res_blk 1 rfl rfl (by rfl)) (.tmp rfl) (.cons _ (.cons _ (List.Sublist.refl _))) ⟨_, rfl, ?_⟩
    exact ⟨_, e, _, rfl, ⟨_, rfl, he'⟩, her, j, hj, rfl⟩
  | ok q =>
    obtain ⟨e, j⟩ := q
    rw [hq] at hw
    obtain ⟨ev, rfl, he, rfl, hj1, hj2⟩ := hw
    obtain ⟨a1, m1, c1, a2, m2, c2, a3, m3, c3, rfl, he'⟩ := he.form
    refine r_ev rfl rfl ?_; refine r_ev rfl rfl ?_; refine r_storeA 1 rfl rfl rfl rfl (by rfl) (by repeat' (first | exact rfl | assumption | refine all_cons ?_ ?_)) rfl ?_; refine r_ev rfl rfl ?_; refine r_nn ?_; refine r_retc ?_
    refine r_ret2 [_] rfl (res_blk 1 rfl rfl (by rfl)) (.tmp rfl) (.cons _ (.cons _ (List.Sublist.refl _))) ⟨_, rfl, ?_⟩
    exact ⟨_, rfl, ⟨_, rfl, he'⟩, rfl, by omega, hj2⟩
end
theorem eexpr_all {l : List Tok} (hb : TB l) (hkw : KW l) (lv : Value) (b : Nat) : ∀ m : Nat, ∀ g i, ErrT g → ToksAt g lv l → i ≤ l.length → l.length - i < m → SpecL Tryz.prog 37 [ptr b 0] g (rdE b lv i 0) (postE l i b lv (eread l .expr i))
  | 0 => fun _ _ _ _ _ h => by omega
  | m + 1 => fun g i => eexpr_step hb hkw m lv b (eexpr_all hb hkw lv b m) g i
theorem eexpr_spec {l : List Tok} (hb : TB l) (hkw : KW l) (lv : Value) (b : Nat) (g : Ghost) (i : Nat) (hg : ErrT g) (hs : ToksAt g lv l) (hi : i ≤ l.length) : SpecL Tryz.prog 37 [ptr b 0] g (rdE b lv i 0) (postE l i b lv (eread l .expr i)) := eexpr_all hb hkw lv b _ g i hg hs hi (Nat.lt_succ_self _)
theorem eatom_spec {l : List Tok} (hb : TB l) (hkw : KW l) (lv : Value) (b : Nat) (g : Ghost) (i : Nat) (hg : ErrT g) (hs : ToksAt g lv l) (hi : i ≤ l.length) : SpecL Tryz.prog 46 [ptr b 0] g (rdE b lv i 0) (postE l i b lv (eread l .atom i)) := eatom_step hb hkw _ lv b (eexpr_all hb hkw lv b _) g i hg hs hi (Nat.lt_succ_self _)
end Go.Proofs.YtblbbjhbigpgnaaGreatDoor
-- sum 79c6b9a7309f5eea
/- readexpr.Expr, Atom and the reference's: both answer what the plain grammar reads. -/
namespace Go.Proofs.YtblbbjhbigpgnaaGreatDoor
open Go Go.Eng Go.Th Go.Proofs
set_option maxRecDepth 10000
set_option maxHeartbeats 4000000
attribute [local irreducible] wpList Code.wp Run bodyPost Go.Eng.Ends Exit.then Exit.inBlock Again Wq Kq
def eansT : ER → Ex
  | .ok (t, _) => t
  | .error _ => noE
def eansI : ER → Int
  | .ok (_, j) => j
  | .error _ => 0
def eansE : ER → Int
  | .ok _ => 0
  | .error _ => 3
def eansP : ER → Int
  | .ok _ => 0
  | .error p => p
/-- What the exported functions hand back. -/
def eansPost (r : ER) (v : Value) (g' : Ghost) : Prop := ∃ tv, v = .tuple #[tv, .int .i64 (eansI r), .agg #[.int .i64 (eansE r), .int .i64 (eansP r)]] ∧ ExV g' tv (eansT r)
theorem eresult_ok (g : Ghost) (lv : Value) (b i : Nat) (tv : Value) (t : Ex) (ht : ExV g tv t) : PureO Tryz.prog 36 [ptr b 0, tv, .nilIface] g (rdE b lv i 0) (.tuple #[tv, .int .i64 i, .agg #[.int .i64 0, .int .i64 0]]) := by
  obtain ⟨a1, m1, c1, a2, m2, c2, a3, m3, c3, rfl, ht⟩ := ht.form
  refine spec_of_run Tryz.func36 rfl Tryz.ntmps36 rfl fun E hE => ?_
  refine r_sr ?_
  refine r_box rfl rfl rfl (fun b4 => ?_)
  refine r_alloc rfl (fun b6 => ?_)
  refine r_ev rfl rfl ?_
  refine r_alloc rfl (fun b8 => ?_)
  refine r_nn ?_; refine r_seq ?_; refine r_sr ?_; refine r_ev rfl rfl ?_; refine r_build rfl rfl (by rfl) ?_; refine r_mkIface rfl rfl ?_
  refine r_callP rfl rfl (eIs_nil g) ?_
  refine r_nn ?_; refine r_cond_false rfl ?_; refine r_skip ?_; refine r_then_normal ?_; refine r_seq ?_
  refine h_beginE [1, 0] mixed (fun hG => ?_)
  refine h_takeX 0 rfl (by kernel_rfl) rfl hG (by first | exact Ghost.le_refl _ | assumption) (by repeat' (first | exact List.nil_sublist _ | refine List.Sublist.cons_cons _ ?_ | refine List.Sublist.cons _ ?_)) ?_; refine ⟨_, (val_loadB 0 rfl rfl (by rfl)), ?_⟩; refine h_takeX 1 rfl (by kernel_rfl) rfl hG (by first | exact Ghost.le_refl _ | assumption) (by repeat' (first | exact List.nil_sublist _ | refine List.Sublist.cons_cons _ ?_ | refine List.Sublist.cons _ ?_)) ?_; refine ⟨_, (val_ev rfl), ?_⟩; refine h_takeX 2 rfl (by kernel_rfl) rfl hG (by first | exact Ghost.le_refl _ | assumption) (by repeat' (first | exact List.nil_sublist _ | refine List.Sublist.cons_cons _ ?_ | refine List.Sublist.cons _ ?_)) ?_; refine ⟨_, (val_ev rfl), ?_⟩; refine h_takeX 3 rfl (by kernel_rfl) rfl hG (by first | exact Ghost.le_refl _ | assumption) (by repeat' (first | exact List.nil_sublist _ | refine List.Sublist.cons_cons _ ?_ | refine List.Sublist.cons _ ?_)) ?_; refine ⟨_, (val_fieldAddr rfl), ?_⟩; refine h_takeX 4 rfl (by kernel_rfl) rfl hG (by first | exact Ghost.le_refl _ | assumption) (by repeat' (first | exact List.nil_sublist _ | refine List.Sublist.cons_cons _ ?_ | refine List.Sublist.cons _ ?_)) ?_; refine ⟨_, (val_loadB1 1 rfl rfl rfl), ?_⟩; refine h_takeX 5 rfl (by kernel_rfl) rfl hG (by first | exact Ghost.le_refl _ | assumption) (by repeat' (first | exact List.nil_sublist _ | refine List.Sublist.cons_cons _ ?_ | refine List.Sublist.cons _ ?_)) ?_; refine ⟨_, (val_build rfl (by rfl)), ?_⟩
  refine h_one 6 (by kernel_rfl) rfl ?_
  refine r_storeA 1 rfl rfl rfl rfl (by rfl) (by repeat' (first | exact rfl | assumption | refine all_cons ?_ ?_)) rfl ?_; refine r_nn ?_
  refine h_kept hG (by first | exact Ghost.le_refl _ | assumption) (by repeat' (first | exact List.nil_sublist _ | refine List.Sublist.cons_cons _ ?_ | refine List.Sublist.cons _ ?_)) ?_
  refine h_one 7 (by kernel_rfl) rfl ?_
  refine r_ev rfl rfl ?_; refine r_nn ?_
  refine h_kept hG (by first | exact Ghost.le_refl _ | assumption) (by repeat' (first | exact List.nil_sublist _ | refine List.Sublist.cons_cons _ ?_ | refine List.Sublist.cons _ ?_)) ?_
  refine h_one 8 (by kernel_rfl) rfl ?_
  refine r_storeA 0 rfl rfl rfl rfl (by rfl) (by repeat' (first | exact rfl | assumption | refine all_cons ?_ ?_)) rfl ?_; refine r_nn ?_
  refine h_kept hG (by first | exact Ghost.le_refl _ | assumption) (by repeat' (first | exact List.nil_sublist _ | refine List.Sublist.cons_cons _ ?_ | refine List.Sublist.cons _ ?_)) ?_
  refine h_done (by kernel_rfl) ?_
  refine r_then_normal ?_; refine r_retc ?_
  exact r_ret3 [_] rfl (res_blk 1 rfl rfl (by rfl)) (.tmp rfl) (res_blk 0 rfl rfl (by rfl)) (.cons _ (.cons _ (.cons _ (List.Sublist.refl _)))) ⟨rfl, rfl, rfl⟩
theorem eresult_err (g : Ghost) (lv : Value) (b j : Nat) (p : Int) (tv er : Value) (t : Ex) (ht : ExV g tv t) (he : ErrV er) : PureO Tryz.prog 36 [ptr b 0, tv, er] g (rdE b lv j p) (.tuple #[noEv, .int .i64 0, .agg #[.int .i64 3, .int .i64 p]]) := by
  obtain ⟨a1, m1, c1, a2, m2, c2, a3, m3, c3, rfl, ht⟩ := ht.form
  refine spec_of_run Tryz.func36 rfl Tryz.ntmps36 rfl fun E hE => ?_
  refine r_sr ?_
  refine r_box rfl rfl rfl (fun b4 => ?_)
  refine r_alloc rfl (fun b6 => ?_)
  refine r_ev rfl rfl ?_
  refine r_alloc rfl (fun b8 => ?_)
  refine r_nn ?_; refine r_seq ?_; refine r_sr ?_; refine r_ev rfl rfl ?_; refine r_build rfl rfl (by rfl) ?_; refine r_mkIface rfl rfl ?_
  refine r_callP rfl rfl (eIs_err g er he) ?_
  refine r_nn ?_; refine r_cond_true rfl ?_; refine r_seq ?_
  refine h_beginE [1, 0] mixed (fun hG => ?_)
  refine h_takeX 0 rfl (by kernel_rfl) rfl hG (by first | exact Ghost.le_refl _ | assumption) (by repeat' (first | exact List.nil_sublist _ | refine List.Sublist.cons_cons _ ?_ | refine List.Sublist.cons _ ?_)) ?_; refine ⟨_, (val_build rfl (by rfl)), ?_⟩; refine h_takeX 1 rfl (by kernel_rfl) rfl hG (by first | exact Ghost.le_refl _ | assumption) (by repeat' (first | exact List.nil_sublist _ | refine List.Sublist.cons_cons _ ?_ | refine List.Sublist.cons _ ?_)) ?_; refine ⟨_, (val_ev rfl), ?_⟩; refine h_takeX 2 rfl (by kernel_rfl) rfl hG (by first | exact Ghost.le_refl _ | assumption) (by repeat' (first | exact List.nil_sublist _ | refine List.Sublist.cons_cons _ ?_ | refine List.Sublist.cons _ ?_)) ?_; refine ⟨_, (val_ev rfl), ?_⟩; refine h_takeX 3 rfl (by kernel_rfl) rfl hG (by first | exact Ghost.le_refl _ | assumption) (by repeat' (first | exact List.nil_sublist _ | refine List.Sublist.cons_cons _ ?_ | refine List.Sublist.cons _ ?_)) ?_; refine ⟨_, (val_fieldAddr rfl), ?_⟩; refine h_takeX 4 rfl (by kernel_rfl) rfl hG (by first | exact Ghost.le_refl _ | assumption) (by repeat' (first | exact List.nil_sublist _ | refine List.Sublist.cons_cons _ ?_ | refine List.Sublist.cons _ ?_)) ?_; refine ⟨_, (val_loadB1 1 rfl rfl rfl), ?_⟩; refine h_takeX 5 rfl (by kernel_rfl) rfl hG (by first | exact Ghost.le_refl _ | assumption) (by repeat' (first | exact List.nil_sublist _ | refine List.Sublist.cons_cons _ ?_ | refine List.Sublist.cons _ ?_)) ?_; refine ⟨_, (val_build rfl (by rfl)), ?_⟩
  refine h_one 6 (by kernel_rfl) rfl ?_
  refine r_storeA 1 rfl rfl rfl rfl (by rfl) (by repeat' (first | exact rfl | assumption | refine all_cons ?_ ?_)) rfl ?_; refine r_nn ?_
  refine h_kept hG (by first | exact Ghost.le_refl _ | assumption) (by repeat' (first | exact List.nil_sublist _ | refine List.Sublist.cons_cons _ ?_ | refine List.Sublist.cons _ ?_)) ?_
  refine h_one 7 (by kernel_rfl) rfl ?_
  refine r_ev rfl rfl ?_; refine r_nn ?_
  refine h_kept hG (by first | exact Ghost.le_refl _ | assumption) (by repeat' (first | exact List.nil_sublist _ | refine List.Sublist.cons_cons _ ?_ | refine List.Sublist.cons _ ?_)) ?_
  refine h_one 8 (by kernel_rfl) rfl ?_
  refine r_storeA 0 rfl rfl rfl rfl (by rfl) (by repeat' (first | exact rfl | assumption | refine all_cons ?_ ?_)) rfl ?_; refine r_nn ?_
  refine h_kept hG (by first | exact Ghost.le_refl _ | assumption) (by repeat' (first | exact List.nil_sublist _ | refine List.Sublist.cons_cons _ ?_ | refine List.Sublist.cons _ ?_)) ?_
  refine h_done (by kernel_rfl) ?_
  refine r_then_normal ?_; refine r_retc ?_; refine r_then_ret ?_
  exact r_ret3 [_] rfl (res_blk 1 rfl rfl (by rfl)) (.tmp rfl) (res_blk 0 rfl rfl (by rfl)) (.cons _ (.cons _ (.cons _ (List.Sublist.refl _)))) ⟨rfl, rfl, rfl⟩
theorem eExpr_spec {l : List Tok} (hb : TB l) (hkw : KW l) (g : Ghost) (hg : ErrT g) (v : Value) (i : Int) (hs : ToksAt g v l) : SpecN Tryz.prog 13 [v, .int .i64 i] g (eansPost (eread l .expr (idxOf l.length i))) := by
  have hi : idxOf l.length i ≤ l.length := by unfold idxOf; split <;> omega
  refine spec_of_run Tryz.func13 rfl Tryz.ntmps13 rfl fun E hE => ?_
  refine r_sr ?_
  refine r_alloc rfl (fun b4 => ?_)
  refine r_ev rfl rfl ?_
  refine r_alloc rfl (fun b6 => ?_)
  refine r_nn ?_; refine r_sr ?_; refine r_ev rfl rfl ?_; refine r_ev rfl rfl ?_
  refine r_call' (lent := []) (kept := _) rfl rfl (List.Perm.refl _) (estart_spec g l v hs i) ?_
  rintro w g1 own' ⟨rfl, b, rfl, rfl⟩ _
  refine r_ev rfl rfl ?_; refine r_nn ?_; refine r_sr ?_; refine r_ev rfl rfl ?_; refine r_ev rfl rfl ?_
  refine r_callL 0 rfl rfl rfl (eexpr_spec hb hkw v b g1 _ hg hs hi) ?_
  rintro w g2 r' hw hle
  cases hq : eread l .expr (idxOf l.length i) with
  | error p =>
    rw [hq] at hw
    obtain ⟨ev, e, er, rfl, he, her, j, hj, rfl⟩ := hw
    refine r_ev rfl rfl ?_; refine r_ev rfl rfl ?_
    refine r_callO 0 rfl rfl rfl (eresult_err g2 v b j p _ _ e he her) ?_
    refine r_ev rfl rfl ?_; refine r_ev rfl rfl ?_; refine r_ev rfl rfl ?_; refine r_storeA 2 rfl rfl rfl rfl (by rfl) (by repeat' (first | exact rfl | assumption | refine all_cons ?_ ?_)) rfl ?_; refine r_ev rfl rfl ?_; refine r_storeA 1 rfl rfl rfl rfl (by rfl) (by repeat' (first | exact rfl | assumption | refine all_cons ?_ ?_)) rfl ?_; refine r_nn ?_; refine r_retc ?_
    exact r_ret3 [] rfl (res_blk 2 rfl rfl (by rfl)) (.tmp rfl) (res_blk 1 rfl rfl (by rfl)) (by simp) ⟨⟨_, rfl, noE_V _⟩, rfl⟩
  | ok q =>
    obtain ⟨t, j⟩ := q
    rw [hq] at hw
    obtain ⟨ev, rfl, he, rfl, hj1, hj2⟩ := hw
    have he0 := he
    obtain ⟨a1, m1, c1, a2, m2, c2, a3, m3, c3, rfl, he'⟩ := he0.form
    refine r_ev rfl rfl ?_; refine r_ev rfl rfl ?_
    refine r_callO 0 rfl rfl rfl (eresult_ok g2 v b j _ t he) ?_
    refine r_ev rfl rfl ?_; refine r_ev rfl rfl ?_; refine r_ev rfl rfl ?_; refine r_storeA 2 rfl rfl rfl rfl (by rfl) (by repeat' (first | exact rfl | assumption | refine all_cons ?_ ?_)) rfl ?_; refine r_ev rfl rfl ?_; refine r_storeA 1 rfl rfl rfl rfl (by rfl) (by repeat' (first | exact rfl | assumption | refine all_cons ?_ ?_)) rfl ?_; refine r_nn ?_; refine r_retc ?_
    exact r_ret3 [] rfl (res_blk 2 rfl rfl (by rfl)) (.tmp rfl) (res_blk 1 rfl rfl (by rfl)) (by simp) ⟨⟨_, rfl, ⟨_, rfl, he'⟩⟩, rfl⟩
theorem eAtom_spec {l : List Tok} (hb : TB l) (hkw : KW l) (g : Ghost) (hg : ErrT g) (v : Value) (i : Int) (hs : ToksAt g v l) : SpecN Tryz.prog 24 [v, .int .i64 i] g (eansPost (eread l .atom (idxOf l.length i))) := by
  have hi : idxOf l.length i ≤ l.length := by unfold idxOf; split <;> omega
  refine spec_of_run Tryz.func24 rfl Tryz.ntmps24 rfl fun E hE => ?_
  refine r_sr ?_
  refine r_alloc rfl (fun b4 => ?_)
  refine r_ev rfl rfl ?_
  refine r_alloc rfl (fun b6 => ?_)
  refine r_nn ?_; refine r_sr ?_; refine r_ev rfl rfl ?_; refine r_ev rfl rfl ?_
  refine r_call' (lent := []) (kept := _) rfl rfl (List.Perm.refl _) (estart_spec g l v hs i) ?_
  rintro w g1 own' ⟨rfl, b, rfl, rfl⟩ _
  refine r_ev rfl rfl ?_; refine r_nn ?_; refine r_sr ?_; refine r_ev rfl rfl ?_; refine r_ev rfl rfl ?_
  refine r_callL 0 rfl rfl rfl (eatom_spec hb hkw v b g1 _ hg hs hi) ?_
  rintro w g2 r' hw hle
  cases hq : eread l .atom (idxOf l.length i) with
  | error p =>
    rw [hq] at hw
    obtain ⟨ev, e, er, rfl, he, her, j, hj, rfl⟩ := hw
    refine r_ev rfl rfl ?_; refine r_ev rfl rfl ?_
    refine r_callO 0 rfl rfl rfl (eresult_err g2 v b j p _ _ e he her) ?_
    refine r_ev rfl rfl ?_; refine r_ev rfl rfl ?_; refine r_ev rfl rfl ?_; refine r_storeA 2 rfl rfl rfl rfl (by rfl) (by repeat' (first | exact rfl | assumption | refine all_cons ?_ ?_)) rfl ?_; refine r_ev rfl rfl ?_; refine r_storeA 1 rfl rfl rfl rfl (by rfl) (by repeat' (first | exact rfl | assumption | refine all_cons ?_ ?_)) rfl ?_; refine r_nn ?_; refine r_retc ?_
    exact r_ret3 [] rfl (res_blk 2 rfl rfl (by rfl)) (.tmp rfl) (res_blk 1 rfl rfl (by rfl)) (by simp) ⟨⟨_, rfl, noE_V _⟩, rfl⟩
  | ok q =>
    obtain ⟨t, j⟩ := q
    rw [hq] at hw
    obtain ⟨ev, rfl, he, rfl, hj1, hj2⟩ := hw
    have he0 := he
    obtain ⟨a1, m1, c1, a2, m2, c2, a3, m3, c3, rfl, he'⟩ := he0.form
    refine r_ev rfl rfl ?_; refine r_ev rfl rfl ?_
    refine r_callO 0 rfl rfl rfl (eresult_ok g2 v b j _ t he) ?_
    refine r_ev rfl rfl ?_; refine r_ev rfl rfl ?_; refine r_ev rfl rfl ?_; refine r_storeA 2 rfl rfl rfl rfl (by rfl) (by repeat' (first | exact rfl | assumption | refine all_cons ?_ ?_)) rfl ?_; refine r_ev rfl rfl ?_; refine r_storeA 1 rfl rfl rfl rfl (by rfl) (by repeat' (first | exact rfl | assumption | refine all_cons ?_ ?_)) rfl ?_; refine r_nn ?_; refine r_retc ?_
    exact r_ret3 [] rfl (res_blk 2 rfl rfl (by rfl)) (.tmp rfl) (res_blk 1 rfl rfl (by rfl)) (by simp) ⟨⟨_, rfl, ⟨_, rfl, he'⟩⟩, rfl⟩
theorem edone_good (g : Ghost) (lv : Value) (b i : Nat) (tv : Value) (t : Ex) (ht : ExV g tv t) : PureO Tryz.prog 39 [ptr b 0, tv] g (rdB b lv (.good i)) (.tuple #[tv, .int .i64 i, .agg #[.int .i64 0, .int .i64 0]]) := by
  obtain ⟨a1, m1, c1, a2, m2, c2, a3, m3, c3, rfl, ht⟩ := ht.form
  refine spec_of_run Tryz.func39 rfl Tryz.ntmps39 rfl fun E hE => ?_
  refine r_sr ?_
  refine r_box rfl rfl rfl (fun b3 => ?_)
  refine r_alloc rfl (fun b4 => ?_)
  refine r_ev rfl rfl ?_
  refine r_alloc rfl (fun b6 => ?_)
  refine r_nn ?_; refine r_seq ?_; refine r_sr ?_; refine r_ev rfl rfl ?_; refine r_ev rfl rfl ?_; refine r_fieldAddr rfl rfl ?_; refine r_loadB1 3 rfl rfl rfl rfl ?_; refine r_nn ?_; refine r_cond_false rfl ?_; refine r_skip ?_; refine r_then_normal ?_; refine r_seq ?_
  refine h_beginE [1, 0] mixed (fun hG => ?_)
  refine h_takeX 0 rfl (by kernel_rfl) rfl hG (by first | exact Ghost.le_refl _ | assumption) (by repeat' (first | exact List.nil_sublist _ | refine List.Sublist.cons_cons _ ?_ | refine List.Sublist.cons _ ?_)) ?_; refine ⟨_, (val_loadB 0 rfl rfl (by rfl)), ?_⟩; refine h_takeX 1 rfl (by kernel_rfl) rfl hG (by first | exact Ghost.le_refl _ | assumption) (by repeat' (first | exact List.nil_sublist _ | refine List.Sublist.cons_cons _ ?_ | refine List.Sublist.cons _ ?_)) ?_; refine ⟨_, (val_ev rfl), ?_⟩; refine h_takeX 2 rfl (by kernel_rfl) rfl hG (by first | exact Ghost.le_refl _ | assumption) (by repeat' (first | exact List.nil_sublist _ | refine List.Sublist.cons_cons _ ?_ | refine List.Sublist.cons _ ?_)) ?_; refine ⟨_, (val_ev rfl), ?_⟩; refine h_takeX 3 rfl (by kernel_rfl) rfl hG (by first | exact Ghost.le_refl _ | assumption) (by repeat' (first | exact List.nil_sublist _ | refine List.Sublist.cons_cons _ ?_ | refine List.Sublist.cons _ ?_)) ?_; refine ⟨_, (val_fieldAddr rfl), ?_⟩; refine h_takeX 4 rfl (by kernel_rfl) rfl hG (by first | exact Ghost.le_refl _ | assumption) (by repeat' (first | exact List.nil_sublist _ | refine List.Sublist.cons_cons _ ?_ | refine List.Sublist.cons _ ?_)) ?_; refine ⟨_, (val_loadB1 1 rfl rfl rfl), ?_⟩; refine h_takeX 5 rfl (by kernel_rfl) rfl hG (by first | exact Ghost.le_refl _ | assumption) (by repeat' (first | exact List.nil_sublist _ | refine List.Sublist.cons_cons _ ?_ | refine List.Sublist.cons _ ?_)) ?_; refine ⟨_, (val_build rfl (by rfl)), ?_⟩
  refine h_one 6 (by kernel_rfl) rfl ?_
  refine r_storeA 1 rfl rfl rfl rfl (by rfl) (by repeat' (first | exact rfl | assumption | refine all_cons ?_ ?_)) rfl ?_; refine r_nn ?_
  refine h_kept hG (by first | exact Ghost.le_refl _ | assumption) (by repeat' (first | exact List.nil_sublist _ | refine List.Sublist.cons_cons _ ?_ | refine List.Sublist.cons _ ?_)) ?_
  refine h_one 7 (by kernel_rfl) rfl ?_
  refine r_ev rfl rfl ?_; refine r_nn ?_
  refine h_kept hG (by first | exact Ghost.le_refl _ | assumption) (by repeat' (first | exact List.nil_sublist _ | refine List.Sublist.cons_cons _ ?_ | refine List.Sublist.cons _ ?_)) ?_
  refine h_one 8 (by kernel_rfl) rfl ?_
  refine r_storeA 0 rfl rfl rfl rfl (by rfl) (by repeat' (first | exact rfl | assumption | refine all_cons ?_ ?_)) rfl ?_; refine r_nn ?_
  refine h_kept hG (by first | exact Ghost.le_refl _ | assumption) (by repeat' (first | exact List.nil_sublist _ | refine List.Sublist.cons_cons _ ?_ | refine List.Sublist.cons _ ?_)) ?_
  refine h_done (by kernel_rfl) ?_
  refine r_then_normal ?_; refine r_retc ?_
  exact r_ret3 [_] rfl (res_blk 1 rfl rfl (by rfl)) (.tmp rfl) (res_blk 0 rfl rfl (by rfl)) (.cons _ (.cons _ (.cons _ (List.Sublist.refl _)))) ⟨rfl, rfl, rfl⟩
theorem edone_bad (g : Ghost) (lv : Value) (b i : Nat) (p : Int) (tv : Value) (t : Ex) (ht : ExV g tv t) : PureO Tryz.prog 39 [ptr b 0, tv] g (rdB b lv (.bad i p)) (.tuple #[noEv, .int .i64 0, .agg #[.int .i64 3, .int .i64 p]]) := by
  obtain ⟨a1, m1, c1, a2, m2, c2, a3, m3, c3, rfl, ht⟩ := ht.form
  refine spec_of_run Tryz.func39 rfl Tryz.ntmps39 rfl fun E hE => ?_
  refine r_sr ?_
  refine r_box rfl rfl rfl (fun b3 => ?_)
  refine r_alloc rfl (fun b4 => ?_)
  refine r_ev rfl rfl ?_
  refine r_alloc rfl (fun b6 => ?_)
  refine r_nn ?_; refine r_seq ?_; refine r_sr ?_; refine r_ev rfl rfl ?_; refine r_ev rfl rfl ?_; refine r_fieldAddr rfl rfl ?_; refine r_loadB1 3 rfl rfl rfl rfl ?_; refine r_nn ?_; refine r_cond_true rfl ?_; refine r_seq ?_
  refine h_beginE [1, 0] mixed (fun hG => ?_)
  refine h_takeX 0 rfl (by kernel_rfl) rfl hG (by first | exact Ghost.le_refl _ | assumption) (by repeat' (first | exact List.nil_sublist _ | refine List.Sublist.cons_cons _ ?_ | refine List.Sublist.cons _ ?_)) ?_; refine ⟨_, (val_build rfl (by rfl)), ?_⟩; refine h_takeX 1 rfl (by kernel_rfl) rfl hG (by first | exact Ghost.le_refl _ | assumption) (by repeat' (first | exact List.nil_sublist _ | refine List.Sublist.cons_cons _ ?_ | refine List.Sublist.cons _ ?_)) ?_; refine ⟨_, (val_ev rfl), ?_⟩; refine h_takeX 2 rfl (by kernel_rfl) rfl hG (by first | exact Ghost.le_refl _ | assumption) (by repeat' (first | exact List.nil_sublist _ | refine List.Sublist.cons_cons _ ?_ | refine List.Sublist.cons _ ?_)) ?_; refine ⟨_, (val_ev rfl), ?_⟩; refine h_takeX 3 rfl (by kernel_rfl) rfl hG (by first | exact Ghost.le_refl _ | assumption) (by repeat' (first | exact List.nil_sublist _ | refine List.Sublist.cons_cons _ ?_ | refine List.Sublist.cons _ ?_)) ?_; refine ⟨_, (val_fieldAddr rfl), ?_⟩; refine h_takeX 4 rfl (by kernel_rfl) rfl hG (by first | exact Ghost.le_refl _ | assumption) (by repeat' (first | exact List.nil_sublist _ | refine List.Sublist.cons_cons _ ?_ | refine List.Sublist.cons _ ?_)) ?_; refine ⟨_, (val_loadB1 1 rfl rfl rfl), ?_⟩; refine h_takeX 5 rfl (by kernel_rfl) rfl hG (by first | exact Ghost.le_refl _ | assumption) (by repeat' (first | exact List.nil_sublist _ | refine List.Sublist.cons_cons _ ?_ | refine List.Sublist.cons _ ?_)) ?_; refine ⟨_, (val_build rfl (by rfl)), ?_⟩
  refine h_one 6 (by kernel_rfl) rfl ?_
  refine r_storeA 1 rfl rfl rfl rfl (by rfl) (by repeat' (first | exact rfl | assumption | refine all_cons ?_ ?_)) rfl ?_; refine r_nn ?_
  refine h_kept hG (by first | exact Ghost.le_refl _ | assumption) (by repeat' (first | exact List.nil_sublist _ | refine List.Sublist.cons_cons _ ?_ | refine List.Sublist.cons _ ?_)) ?_
  refine h_one 7 (by kernel_rfl) rfl ?_
  refine r_ev rfl rfl ?_; refine r_nn ?_
  refine h_kept hG (by first | exact Ghost.le_refl _ | assumption) (by repeat' (first | exact List.nil_sublist _ | refine List.Sublist.cons_cons _ ?_ | refine List.Sublist.cons _ ?_)) ?_
  refine h_one 8 (by kernel_rfl) rfl ?_
  refine r_storeA 0 rfl rfl rfl rfl (by rfl) (by repeat' (first | exact rfl | assumption | refine all_cons ?_ ?_)) rfl ?_; refine r_nn ?_
  refine h_kept hG (by first | exact Ghost.le_refl _ | assumption) (by repeat' (first | exact List.nil_sublist _ | refine List.Sublist.cons_cons _ ?_ | refine List.Sublist.cons _ ?_)) ?_
  refine h_done (by kernel_rfl) ?_
  refine r_then_normal ?_; refine r_retc ?_; refine r_then_ret ?_
  exact r_ret3 [_] rfl (res_blk 1 rfl rfl (by rfl)) (.tmp rfl) (res_blk 0 rfl rfl (by rfl)) (.cons _ (.cons _ (.cons _ (List.Sublist.refl _)))) ⟨rfl, rfl, rfl⟩
theorem r6Expr_spec {l : List Tok} (hb : TB l) (hkw : KW l) (g : Ghost) (v : Value) (i : Int) (hs : ToksAt g v l) : SpecN Tryz.prog 15 [v, .int .i64 i] g (eansPost (eread l .expr (idxOf l.length i))) := by
  have hi : idxOf l.length i ≤ l.length := by unfold idxOf; split <;> omega
  refine spec_of_run Tryz.func15 rfl Tryz.ntmps15 rfl fun E hE => ?_
  refine r_sr ?_
  refine r_alloc rfl (fun b4 => ?_)
  refine r_ev rfl rfl ?_
  refine r_alloc rfl (fun b6 => ?_)
  refine r_nn ?_; refine r_sr ?_; refine r_ev rfl rfl ?_; refine r_ev rfl rfl ?_
  refine r_call' (lent := []) (kept := _) rfl rfl (List.Perm.refl _) (New5_spec g l v hs i) ?_
  rintro w g1 own' ⟨rfl, b, rfl, rfl⟩ _
  refine r_ev rfl rfl ?_; refine r_nn ?_; refine r_sr ?_; refine r_ev rfl rfl ?_; refine r_ev rfl rfl ?_
  refine r_callL 0 rfl rfl rfl (Read6_spec hb hkw g1 v b _ hs hi) ?_
  rintro w g2 r' hw hle
  cases hq : eread l .expr (idxOf l.length i) with
  | error p =>
    rw [hq] at hw
    obtain ⟨⟨t, hty⟩, j, hj, rfl⟩ := hw
    have hty0 := hty
    obtain ⟨a1, m1, c1, a2, m2, c2, a3, m3, c3, rfl, hty'⟩ := hty0.form
    skip
    refine r_callO 0 rfl rfl rfl (edone_bad g2 v b j p _ t hty) ?_
    refine r_ev rfl rfl ?_; refine r_ev rfl rfl ?_; refine r_ev rfl rfl ?_; refine r_storeA 2 rfl rfl rfl rfl (by rfl) (by repeat' (first | exact rfl | assumption | refine all_cons ?_ ?_)) rfl ?_; refine r_ev rfl rfl ?_; refine r_storeA 1 rfl rfl rfl rfl (by rfl) (by repeat' (first | exact rfl | assumption | refine all_cons ?_ ?_)) rfl ?_; refine r_nn ?_; refine r_retc ?_
    exact r_ret3 [] rfl (res_blk 2 rfl rfl (by rfl)) (.tmp rfl) (res_blk 1 rfl rfl (by rfl)) (by simp) ⟨⟨_, rfl, noE_V _⟩, rfl⟩
  | ok q =>
    obtain ⟨t, j⟩ := q
    rw [hq] at hw
    obtain ⟨hty, rfl, hj1, hj2⟩ := hw
    have hty0 := hty
    obtain ⟨a1, m1, c1, a2, m2, c2, a3, m3, c3, rfl, hty'⟩ := hty0.form
    skip
    refine r_callO 0 rfl rfl rfl (edone_good g2 v b j _ t hty) ?_
    refine r_ev rfl rfl ?_; refine r_ev rfl rfl ?_; refine r_ev rfl rfl ?_; refine r_storeA 2 rfl rfl rfl rfl (by rfl) (by repeat' (first | exact rfl | assumption | refine all_cons ?_ ?_)) rfl ?_; refine r_ev rfl rfl ?_; refine r_storeA 1 rfl rfl rfl rfl (by rfl) (by repeat' (first | exact rfl | assumption | refine all_cons ?_ ?_)) rfl ?_; refine r_nn ?_; refine r_retc ?_
    exact r_ret3 [] rfl (res_blk 2 rfl rfl (by rfl)) (.tmp rfl) (res_blk 1 rfl rfl (by rfl)) (by simp) ⟨⟨_, rfl, ⟨_, rfl, hty'⟩⟩, rfl⟩
theorem r6Atom_spec {l : List Tok} (hb : TB l) (hkw : KW l) (g : Ghost) (v : Value) (i : Int) (hs : ToksAt g v l) : SpecN Tryz.prog 25 [v, .int .i64 i] g (eansPost (eread l .atom (idxOf l.length i))) := by
  have hi : idxOf l.length i ≤ l.length := by unfold idxOf; split <;> omega
  refine spec_of_run Tryz.func25 rfl Tryz.ntmps25 rfl fun E hE => ?_
  refine r_sr ?_
  refine r_alloc rfl (fun b4 => ?_)
  refine r_ev rfl rfl ?_
  refine r_alloc rfl (fun b6 => ?_)
  refine r_nn ?_; refine r_sr ?_; refine r_ev rfl rfl ?_; refine r_ev rfl rfl ?_
  refine r_call' (lent := []) (kept := _) rfl rfl (List.Perm.refl _) (New5_spec g l v hs i) ?_
  rintro w g1 own' ⟨rfl, b, rfl, rfl⟩ _
  refine r_ev rfl rfl ?_; refine r_nn ?_; refine r_sr ?_; refine r_ev rfl rfl ?_; refine r_ev rfl rfl ?_
  refine r_callL 0 rfl rfl rfl (Atom6_spec hb hkw g1 v b _ hs hi) ?_
  rintro w g2 r' hw hle
  cases hq : eread l .atom (idxOf l.length i) with
  | error p =>
    rw [hq] at hw
    obtain ⟨⟨t, hty⟩, j, hj, rfl⟩ := hw
    have hty0 := hty
    obtain ⟨a1, m1, c1, a2, m2, c2, a3, m3, c3, rfl, hty'⟩ := hty0.form
    skip
    refine r_callO 0 rfl rfl rfl (edone_bad g2 v b j p _ t hty) ?_
    refine r_ev rfl rfl ?_; refine r_ev rfl rfl ?_; refine r_ev rfl rfl ?_; refine r_storeA 2 rfl rfl rfl rfl (by rfl) (by repeat' (first | exact rfl | assumption | refine all_cons ?_ ?_)) rfl ?_; refine r_ev rfl rfl ?_; refine r_storeA 1 rfl rfl rfl rfl (by rfl) (by repeat' (first | exact rfl | assumption | refine all_cons ?_ ?_)) rfl ?_; refine r_nn ?_; refine r_retc ?_
    exact r_ret3 [] rfl (res_blk 2 rfl rfl (by rfl)) (.tmp rfl) (res_blk 1 rfl rfl (by rfl)) (by simp) ⟨⟨_, rfl, noE_V _⟩, rfl⟩
  | ok q =>
    obtain ⟨t, j⟩ := q
    rw [hq] at hw
    obtain ⟨hty, rfl, hj1, hj2⟩ := hw
    have hty0 := hty
    obtain ⟨a1, m1, c1, a2, m2, c2, a3, m3, c3, rfl, hty'⟩ := hty0.form
    skip
    refine r_callO 0 rfl rfl rfl (edone_good g2 v b j _ t hty) ?_
    refine r_ev rfl rfl ?_; refine r_ev rfl rfl ?_; refine r_ev rfl rfl ?_; refine r_storeA 2 rfl rfl rfl rfl (by rfl) (by repeat' (first | exact rfl | assumption | refine all_cons ?_ ?_)) rfl ?_; refine r_ev rfl rfl ?_; refine r_storeA 1 rfl rfl rfl rfl (by rfl) (by repeat' (first | exact rfl | assumption | refine all_cons ?_ ?_)) rfl ?_; refine r_nn ?_; refine r_retc ?_
    exact r_ret3 [] rfl (res_blk 2 rfl rfl (by rfl)) (.tmp rfl) (res_blk 1 rfl rfl (by rfl)) (by simp) ⟨⟨_, rfl, ⟨_, rfl, hty'⟩⟩, rfl⟩
end Go.Proofs.YtblbbjhbigpgnaaGreatDoor
-- sum eb935ab890523882

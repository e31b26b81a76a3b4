/- Expressions in memory. -/
import Derived.Test.YtblbbjhbigpgnaaDoorExA
import Derived.Test.YtblbbjhbigpgnaaDoorTypB
import Derived.Test.YtblbbjhbigpgnaaDoorTypI
import Derived.Test.YtblbbjhbigpgnaaDoorPlainD
import Derived.Test.YtblbbjhbigpgnaaDoorExQ
namespace Go.Proofs.YtblbbjhbigpgnaaDoor
open Go Go.Eng Go.Th Go.Proofs
/-- The cells of a list's elements, one behind the other. -/
def AllAt {α : Type} (R : α → List Value → Prop) : List α → List Value → Prop
  | [], xs => xs = []
  | a :: l, xs => ∃ c r, xs = c ++ r ∧ R a c ∧ AllAt R l r
theorem AllAt.mono {α : Type} {R R' : α → List Value → Prop} (h : ∀ a c, R a c → R' a c) : ∀ {l : List α} {xs : List Value}, AllAt R l xs → AllAt R' l xs
  | [], _, hx => hx
  | _ :: _, _, ⟨c, r, e, h1, h2⟩ => ⟨c, r, e, h _ _ h1, AllAt.mono h h2⟩
theorem AllAt.one {α : Type} {R : α → List Value → Prop} {sz : Nat} (h : ∀ a c, R a c → c.length = sz ∧ ∀ u ∈ c, oneC u = true) : ∀ {l : List α} {xs : List Value}, AllAt R l xs → xs.length = l.length * sz ∧ ∀ u ∈ xs, oneC u = true
  | [], xs, hx => by
    have : xs = [] := hx
    subst this; simp
  | a :: l, xs, hx => by
    obtain ⟨c, r, rfl, h1, h2⟩ := hx
    have i1 := h _ _ h1
    have i2 := AllAt.one h h2
    refine ⟨by rw [List.length_append, i1.1, i2.1, List.length_cons, Nat.add_mul]; omega, fun u hu => ?_⟩
    rcases List.mem_append.1 hu with hu | hu
    · exact i1.2 u hu
    · exact i2.2 u hu
theorem AllAt.snoc {α : Type} {R : α → List Value → Prop} {a : α} {c : List Value} (hc : R a c) : ∀ {l : List α} {xs : List Value}, AllAt R l xs → AllAt R (l ++ [a]) (xs ++ c)
  | [], xs, hx => by
    have : xs = [] := hx
    subst this
    exact ⟨c, [], by simp, hc, rfl⟩
  | b :: l, xs, hx => by
    obtain ⟨c', r, rfl, h1, h2⟩ := hx
    exact ⟨c', r ++ c, by simp, h1, AllAt.snoc hc h2⟩
theorem AllAt.get {α : Type} {R : α → List Value → Prop} {sz : Nat} (hR : ∀ a c, R a c → c.length = sz) : ∀ {l : List α} {xs : List Value}, AllAt R l xs → ∀ (i : Nat) (h : i < l.length), ∃ c, R l[i] c ∧ ∀ j x, c[j]? = some x → xs[i * sz + j]? = some x
  | [], _, _, i, h => by simp at h
  | a :: l, xs, hx, i, h => by
    obtain ⟨c, r, rfl, h1, h2⟩ := hx
    have hl := hR _ _ h1
    cases i with
    | zero =>
      refine ⟨c, h1, fun j x hj => ?_⟩
      have hjl := (List.getElem?_eq_some_iff.1 hj).1
      rw [Nat.zero_mul, Nat.zero_add, List.getElem?_append_left hjl]
      exact hj
    | succ i =>
      obtain ⟨c', h3, h4⟩ := AllAt.get hR h2 i (by simpa using h)
      refine ⟨c', h3, fun j x hj => ?_⟩
      rw [List.getElem?_append_right (by rw [hl, Nat.add_mul]; omega), hl, show (i + 1) * sz + j - sz = i * sz + j by rw [Nat.add_mul]; omega]
      exact h4 j x hj
mutual
/-- An expression's cells. -/
def ExAt (g : Ghost) : Ex → List Value → Prop
  | .mk k p n m ks ra t, cs => ∃ slk xk sla xa tc, cs = [.int .i64 k, .int .i64 p, str n, .int .i64 m, slk, sla] ++ tc ∧ SlAt g 11 slk ks.length xk ∧ ExsAt g ks xk ∧ SlAt g 14 sla ra.length xa ∧ ArsAt g ra xa ∧ TyAt g t tc
def ExsAt (g : Ghost) : List Ex → List Value → Prop
  | [], xs => xs = []
  | a :: l, xs => ∃ c r, xs = c ++ r ∧ ExAt g a c ∧ ExsAt g l r
def ArAt (g : Ghost) : Ar → List Value → Prop
  | .mk p c vs b, cs => ∃ slv bc, cs = [.int .i64 p, str c, slv] ++ bc ∧ SlAt g 1 slv vs.length (vs.map str) ∧ ExAt g b bc
def ArsAt (g : Ghost) : List Ar → List Value → Prop
  | [], xs => xs = []
  | a :: l, xs => ∃ c r, xs = c ++ r ∧ ArAt g a c ∧ ArsAt g l r
end
theorem exs_all {g : Ghost} : ∀ {l : List Ex} {xs : List Value}, ExsAt g l xs ↔ AllAt (ExAt g) l xs
  | [], xs => by unfold ExsAt AllAt; exact Iff.rfl
  | a :: l, xs => by
    unfold ExsAt AllAt
    constructor
    · rintro ⟨c, r, e, h1, h2⟩; exact ⟨c, r, e, h1, exs_all.1 h2⟩
    · rintro ⟨c, r, e, h1, h2⟩; exact ⟨c, r, e, h1, exs_all.2 h2⟩
theorem ars_all {g : Ghost} : ∀ {l : List Ar} {xs : List Value}, ArsAt g l xs ↔ AllAt (ArAt g) l xs
  | [], xs => by unfold ArsAt AllAt; exact Iff.rfl
  | a :: l, xs => by
    unfold ArsAt AllAt
    constructor
    · rintro ⟨c, r, e, h1, h2⟩; exact ⟨c, r, e, h1, ars_all.1 h2⟩
    · rintro ⟨c, r, e, h1, h2⟩; exact ⟨c, r, e, h1, ars_all.2 h2⟩
mutual
theorem ExAt.mono {g g' : Ghost} (hle : Ghost.le g g') : ∀ (e : Ex) (cs : List Value), ExAt g e cs → ExAt g' e cs
  | .mk k p n m ks ra t, cs, h => by
    unfold ExAt at h ⊢
    obtain ⟨slk, xk, sla, xa, tc, h1, h2, h3, h4, h5, h6⟩ := h
    exact ⟨slk, xk, sla, xa, tc, h1, h2.mono hle, ExsAt.mono hle ks xk h3, h4.mono hle, ArsAt.mono hle ra xa h5, h6.mono hle⟩
theorem ExsAt.mono {g g' : Ghost} (hle : Ghost.le g g') : ∀ (l : List Ex) (xs : List Value), ExsAt g l xs → ExsAt g' l xs
  | [], xs, h => by unfold ExsAt at h ⊢; exact h
  | a :: l, xs, h => by
    unfold ExsAt at h ⊢
    obtain ⟨c, r, h1, h2, h3⟩ := h
    exact ⟨c, r, h1, ExAt.mono hle a c h2, ExsAt.mono hle l r h3⟩
theorem ArAt.mono {g g' : Ghost} (hle : Ghost.le g g') : ∀ (a : Ar) (cs : List Value), ArAt g a cs → ArAt g' a cs
  | .mk p c vs b, cs, h => by
    unfold ArAt at h ⊢
    obtain ⟨slv, bc, h1, h2, h3⟩ := h
    exact ⟨slv, bc, h1, h2.mono hle, ExAt.mono hle b bc h3⟩
theorem ArsAt.mono {g g' : Ghost} (hle : Ghost.le g g') : ∀ (l : List Ar) (xs : List Value), ArsAt g l xs → ArsAt g' l xs
  | [], xs, h => by unfold ArsAt at h ⊢; exact h
  | a :: l, xs, h => by
    unfold ArsAt at h ⊢
    obtain ⟨c, r, h1, h2, h3⟩ := h
    exact ⟨c, r, h1, ArAt.mono hle a c h2, ArsAt.mono hle l r h3⟩
end
/-- An expression's cells in full. -/
theorem ExAt.form {g : Ghost} {e : Ex} {cs : List Value} (h : ExAt g e cs) : ∃ (a1 : Option Addr) (m1 c1 : Nat) (a2 : Option Addr) (m2 c2 : Nat) (a3 : Option Addr) (m3 c3 : Nat) (xk xa : List Value),
    cs = [.int .i64 e.kind, .int .i64 e.pos, str e.name, .int .i64 e.num, .slice a1 m1 c1, .slice a2 m2 c2, .int .i64 e.ty.kind, str e.ty.name, .int .i64 e.ty.id, .int .i64 e.ty.home, .slice a3 m3 c3] ∧
    SlAt g 11 (.slice a1 m1 c1) e.kids.length xk ∧ ExsAt g e.kids xk ∧ SlAt g 14 (.slice a2 m2 c2) e.arms.length xa ∧ ArsAt g e.arms xa ∧ TyAt g e.ty (tyCells e.ty (.slice a3 m3 c3)) := by
  cases e with
  | mk k p n m ks ra t =>
    unfold ExAt at h
    obtain ⟨slk, xk, sla, xa, tc, rfl, h2, h3, h4, h5, h6⟩ := h
    obtain ⟨sl, rfl⟩ := h6.cells
    obtain ⟨_, hsl, _⟩ := h6.args
    obtain ⟨a1, m1, c1, rfl⟩ := SlAt.form h2
    obtain ⟨a2, m2, c2, rfl⟩ := SlAt.form h4
    obtain ⟨a3, m3, c3, rfl⟩ := SlAt.form hsl
    exact ⟨a1, m1, c1, a2, m2, c2, a3, m3, c3, xk, xa, rfl, h2, h3, h4, h5, h6⟩
theorem ExAt.one {g : Ghost} {e : Ex} {cs : List Value} (h : ExAt g e cs) : cs.length = 11 ∧ ∀ u ∈ cs, oneC u = true := by
  obtain ⟨a1, m1, c1, a2, m2, c2, a3, m3, c3, xk, xa, rfl, _⟩ := h.form
  refine ⟨rfl, ?_⟩
  intro u hu
  simp only [List.mem_cons, List.not_mem_nil, or_false] at hu
  rcases hu with rfl | rfl | rfl | rfl | rfl | rfl | rfl | rfl | rfl | rfl | rfl <;> rfl
theorem ArAt.one {g : Ghost} {a : Ar} {cs : List Value} (h : ArAt g a cs) : cs.length = 14 ∧ ∀ u ∈ cs, oneC u = true := by
  cases a with
  | mk p c vs b =>
    unfold ArAt at h
    obtain ⟨slv, bc, rfl, h2, h3⟩ := h
    have h4 := h3.one
    obtain ⟨a1, m1, c1, rfl⟩ := SlAt.form h2
    refine ⟨by rw [List.length_append, h4.1]; rfl, ?_⟩
    intro u hu
    rcases List.mem_append.1 hu with hu | hu
    · simp only [List.mem_cons, List.not_mem_nil, or_false] at hu
      rcases hu with rfl | rfl | rfl <;> rfl
    · exact h4.2 u hu
/-- An expression as a value. -/
def ExV (g : Ghost) (v : Value) (e : Ex) : Prop := ∃ cs, v = .agg cs.toArray ∧ ExAt g e cs
theorem ExV.mono {g g' : Ghost} (hle : Ghost.le g g') {v : Value} {e : Ex} (h : ExV g v e) : ExV g' v e := by
  obtain ⟨cs, h1, h2⟩ := h
  exact ⟨cs, h1, h2.mono hle⟩
theorem ExAt.mk {g : Ghost} {e : Ex} {slk sla sl : Value} {xk xa : List Value} (h1 : SlAt g 11 slk e.kids.length xk) (h2 : ExsAt g e.kids xk) (h3 : SlAt g 14 sla e.arms.length xa) (h4 : ArsAt g e.arms xa) (h5 : TyAt g e.ty (tyCells e.ty sl)) :
    ExAt g e ([.int .i64 e.kind, .int .i64 e.pos, str e.name, .int .i64 e.num, slk, sla] ++ tyCells e.ty sl) := by
  cases e with
  | mk k p n m ks ra t => unfold ExAt; exact ⟨slk, xk, sla, xa, _, rfl, h1, h2, h3, h4, h5⟩
end Go.Proofs.YtblbbjhbigpgnaaDoor
-- sum fc286b758d01791e
/- The walks of the reference's reader of expressions (typedholesref6): Starts, number, and what a failed reader gives. -/
namespace Go.Th
theorem numOf_snoc (s : Bytes) (c : UInt8) : numOf (s ++ [c]) = 10 * numOf s + (c.toNat - 48 : Int) := by
  simp [numOf, List.foldl_append]
theorem numOf_succ {s : Bytes} {k : Nat} (h : k < s.length) : numOf (s.take (k + 1)) = 10 * numOf (s.take k) + ((s[k]).toNat - 48 : Int) := by
  rw [List.take_succ_eq_append_getElem h, numOf_snoc]
theorem numOf_bound {s : Bytes} (h : ∀ c ∈ s, digit c = true) : ∀ k : Nat, k ≤ s.length → 0 ≤ numOf (s.take k) ∧ numOf (s.take k) < (10 ^ k : Nat)
  | 0, _ => by simp [numOf]
  | k + 1, hk => by
    have ih := numOf_bound h k (by omega)
    have hd := h _ (List.getElem_mem (show k < s.length by omega))
    simp only [digit, Bool.and_eq_true, decide_eq_true_eq] at hd
    rw [numOf_succ (by omega), Nat.pow_succ]
    omega
end Go.Th
namespace Go.Eng
open Go Go.RowKit
section
variable {P : Program} {E : Env} {n : Nat} {L : Slots} {g : Ghost} {own : List Res} {Q : Exit → Act → World → Prop} {ops : Array Oper} {rest : List Oper}
variable {d : Nat} {ty : TypeId} {pos : String} {after : Array Edge}
theorem val_sub8 {x y : Operand} {T T' : TypeId} {p q : Int} (hx : ev L x = some (.int .u8 p)) (hy : ev L y = some (.int .u8 q))
    (hb : 0 ≤ p - q ∧ p - q ≤ 255) : Val P E n L g own ty (.binOp .sub T x y T') (.int .u8 (p - q)) := fun a w dst pos after hF _ => by simp [execOp, hF.eval hx, hF.eval hy, eqGuard, binOp, Op.intArith, IntWalk.u8_in _ hb]
end
end Go.Eng
namespace Go.Proofs.YtblbbjhbigpgnaaDoor
open Go Go.Eng Go.Th Go.Proofs
set_option maxRecDepth 10000
set_option maxHeartbeats 4000000
attribute [local irreducible] wpList Code.wp Run bodyPost Go.Eng.Ends Exit.then Exit.inBlock Again Wq Kq
theorem startsE6_spec (g : Ghost) (t : Tok) : Pure Tryd.prog 88 [tokV t] g (.bool (startsE t)) := by
  refine spec_of_run Tryd.func88 rfl Tryd.ntmps88 rfl fun E hE => ?_
  refine r_sr ?_
  refine r_box rfl rfl rfl (fun b1 => ?_)
  refine r_ev rfl rfl ?_; refine r_nn ?_; refine r_seq ?_; refine r_sr ?_; refine r_fieldAddr rfl rfl ?_; refine r_loadB1 0 rfl rfl rfl rfl ?_; refine r_nn ?_; refine r_block ?_; refine r_seq ?_; refine r_sr ?_; refine r_ev rfl rfl ?_; refine r_ev rfl rfl ?_; refine r_nn ?_
  refine r_cond rfl (fun h1 => ?_) (fun h1 => ?_)
  · refine r_skip ?_; refine r_then_normal ?_
    refine r_cond rfl (fun k1 => ?_) (fun k1 => ?_)
    · refine r_sr ?_; refine r_ev rfl rfl ?_; refine r_nn ?_; refine r_retc ?_; refine r_in_ret ?_; refine r_then_ret ?_
      exact r_ret1 [] rfl rfl (by simp) ⟨by simp [startsE, h1], rfl, rfl⟩
    · exact absurd h1 k1
  refine r_sr ?_; refine r_ev rfl rfl ?_; refine r_ev rfl rfl ?_; refine r_nn ?_
  refine r_cond rfl (fun h2 => ?_) (fun h2 => ?_)
  · refine r_skip ?_; refine r_then_normal ?_
    refine r_cond rfl (fun k2 => ?_) (fun k2 => ?_)
    · refine r_sr ?_; refine r_ev rfl rfl ?_; refine r_nn ?_; refine r_retc ?_; refine r_in_ret ?_; refine r_then_ret ?_
      exact r_ret1 [] rfl rfl (by simp) ⟨by simp [startsE, h2], rfl, rfl⟩
    · exact absurd h2 k2
  refine r_region ?_; refine r_ev rfl rfl ?_; refine r_ev rfl rfl ?_; refine r_nn ?_
  refine r_cond rfl (fun h3 => ?_) (fun h3 => ?_)
  · refine r_sr ?_; refine r_ev rfl rfl ?_; refine r_nn ?_; refine r_retc ?_; refine r_in_ret ?_; refine r_then_ret ?_
    exact r_ret1 [] rfl rfl (by simp) ⟨by simp [startsE, h3], rfl, rfl⟩
  refine r_sr ?_; refine r_ev rfl rfl ?_; refine r_ev rfl rfl ?_; refine r_nn ?_
  refine r_cond rfl (fun h5 => ?_) (fun h5 => ?_)
  · refine r_sr ?_; refine r_fieldAddr rfl rfl ?_; refine r_loadB1 0 rfl rfl rfl rfl ?_; refine r_ev rfl rfl ?_; refine r_ev rfl rfl ?_
    refine r_gdec rfl rfl (fun h6 => ?_) (fun h6 => ?_)
    · refine r_pass rfl rfl rfl ?_; refine r_pass rfl rfl rfl ?_; refine r_pass rfl rfl rfl ?_; refine r_ev rfl rfl ?_; refine r_ev rfl rfl ?_; refine r_pass rfl rfl rfl ?_; refine r_pass rfl rfl rfl ?_; refine r_pass rfl rfl rfl ?_; refine r_ev rfl rfl ?_; refine r_ev rfl rfl ?_; refine r_nn ?_; refine r_retc ?_; refine r_in_ret ?_; refine r_then_ret ?_
      exact r_ret1 [] rfl rfl (by simp) ⟨by simp [startsE, h5, h6], rfl, rfl⟩
    refine r_take rfl ?_; refine r_fieldAddr rfl rfl ?_; refine r_take rfl ?_; refine r_loadB1 0 rfl rfl rfl rfl ?_; refine r_tev rfl rfl rfl ?_; refine r_ev rfl rfl ?_; refine r_ev rfl rfl ?_
    refine r_gdec rfl rfl (fun h7 => ?_) (fun h7 => ?_)
    · refine r_pass rfl rfl rfl ?_; refine r_pass rfl rfl rfl ?_; refine r_pass rfl rfl rfl ?_; refine r_ev rfl rfl ?_; refine r_ev rfl rfl ?_; refine r_nn ?_; refine r_retc ?_; refine r_in_ret ?_; refine r_then_ret ?_
      exact r_ret1 [] rfl rfl (by simp) ⟨by simp [startsE, h5, h7], rfl, rfl⟩
    refine r_take rfl ?_; refine r_fieldAddr rfl rfl ?_; refine r_take rfl ?_; refine r_loadB1 0 rfl rfl rfl rfl ?_; refine r_tev rfl rfl rfl ?_; refine r_ev rfl rfl ?_; refine r_ev rfl rfl ?_; refine r_nn ?_; refine r_retc ?_; refine r_in_ret ?_; refine r_then_ret ?_
    exact r_ret1 [] rfl rfl (by simp) ⟨by simp [startsE, h5, h6, h7], rfl, rfl⟩
  · refine r_skip ?_; refine r_in_normal ?_; refine r_then_normal ?_; refine r_sr ?_; refine r_ev rfl rfl ?_; refine r_nn ?_; refine r_retc ?_
    exact r_ret1 [] rfl rfl (by simp) ⟨by simp [startsE, h1, h2, h3, h5], rfl, rfl⟩
theorem number_spec (g : Ghost) (s : Bytes) (hs : s.length ≤ 9) (hd : ∀ c ∈ s, digit c = true) : Pure Tryd.prog 92 [str s] g (.int .i64 (numOf s)) := by
  refine spec_of_run Tryd.func92 rfl Tryd.ntmps92 rfl fun E hE => ?_
  refine r_sr ?_; refine r_ev rfl rfl ?_; refine r_nn ?_; refine r_sr ?_; refine r_ev rfl rfl ?_; refine r_nn ?_; refine r_seq ?_; refine r_sr ?_; refine r_ev rfl rfl ?_; refine r_nn ?_; refine r_block ?_
  refine r_loop (ι := Nat) (fun k => [(0, str s), (3, .int .i64 (numOf (s.take k))), (4, .int .i64 k)]) (fun _ => g) (fun _ => []) (fun k => k ≤ s.length) (fun k => s.length - k) 0 (by omega) ⟨rfl, rfl, rfl, trivial⟩ rfl rfl ?_
  intro k hk
  have hb := numOf_bound hd k hk
  have h9 : 10 ^ k ≤ 10 ^ 9 := Nat.pow_le_pow_right (by omega) (by omega)
  have h99 : (10 : Nat) ^ 9 = 1000000000 := rfl
  refine r_seq ?_; refine r_sr ?_; refine r_ev rfl rfl ?_; refine r_ev rfl rfl ?_; refine r_len_str rfl rfl ?_; refine r_ev rfl rfl ?_; refine r_nn ?_
  refine r_cond rfl (fun hlt => ?_) (fun hlt => ?_)
  · have hlt' : k < s.length := by omega
    have hc := hd _ (List.getElem_mem hlt')
    simp only [digit, Bool.and_eq_true, decide_eq_true_eq] at hc
    have hsucc := numOf_succ hlt'
    refine r_skip ?_; refine r_then_normal ?_; refine r_seq ?_; refine r_block ?_; refine r_region ?_; refine r_ev rfl rfl ?_
    refine r_mul rfl rfl rfl (by omega) ?_
    refine r_ev rfl rfl ?_; refine r_ev rfl rfl ?_; refine r_index_str rfl rfl rfl rfl (by omega) ?_
    refine r_v rfl (val_sub8 rfl rfl (by omega)) ?_
    refine r_conv_i64 rfl rfl (by omega) ?_
    refine r_add rfl rfl rfl (by omega) ?_; refine r_ev rfl rfl ?_; refine r_nil ?_; refine r_in_normal ?_; refine r_then_normal ?_; refine r_region ?_; refine r_ev rfl rfl ?_; refine r_add rfl rfl rfl (by omega) ?_; refine r_ev rfl rfl ?_; refine r_nn ?_
    exact r_again (k + 1) (by omega) (by omega) ⟨rfl, by rw [hsucc]; rfl, rfl, trivial⟩ rfl rfl
  · have hkl : k = s.length := by omega
    subst hkl
    refine r_exit ?_; refine r_then_exit ?_; refine r_then_exit ?_; refine r_in_exit ?_; refine r_then_normal ?_; refine r_sr ?_; refine r_ev rfl rfl ?_; refine r_ev rfl rfl ?_; refine r_nn ?_; refine r_retc ?_
    exact r_ret1 [] rfl rfl (by simp) ⟨by rw [List.take_length], rfl, rfl⟩
end Go.Proofs.YtblbbjhbigpgnaaDoor
-- sum c411e9912e6f70d5
/- The walks of the reference's reader of expressions: a failed reader. -/
namespace Go.Proofs.YtblbbjhbigpgnaaDoor
open Go Go.Eng Go.Th Go.Proofs
set_option maxRecDepth 10000
set_option maxHeartbeats 4000000
attribute [local irreducible] wpList Code.wp Run bodyPost Go.Eng.Ends Exit.then Exit.inBlock Again Wq Kq
abbrev noEv : Value := .agg #[.int .i64 0, .int .i64 0, str [], .int .i64 0, .slice none 0 0, .slice none 0 0, .int .i64 0, str [], .int .i64 0, .int .i64 0, .slice none 0 0]
theorem noE_V (g : Ghost) : ExV g noEv noE := ⟨_, rfl, ExAt.mk (e := noE) (slNil g 11) (by unfold ExsAt; rfl) (slNil g 14) (by unfold ArsAt; rfl) (TyAt.mk (t := noT) (slNil g 5) (tysNil g))⟩
theorem atom6_bad (g : Ghost) (l : List Tok) (hb : TB l) (lv : Value) (hs : ToksAt g lv l) (b i : Nat) (hi : i ≤ l.length) (p : Int) : SpecL Tryd.prog 87 [ptr b 0] g (rdB b lv (.bad i p)) fun v g' r' => v = noEv ∧ g' = g ∧ r' = rdB b lv (.bad i p) := by
  refine spec_of_run Tryd.func87 rfl Tryd.ntmps87 rfl fun E hE => ?_
  refine r_sr ?_
  refine r_alloc rfl (fun b2 => ?_)
  refine r_nn ?_; refine r_sr ?_; refine r_ev rfl rfl ?_
  refine r_callO 1 rfl rfl rfl (Pos5_spec g l lv hs b (.bad i p)) ?_
  refine r_ev rfl rfl ?_; refine r_nn ?_; refine r_seq ?_; refine r_block ?_; refine r_sr ?_; refine r_ev rfl rfl ?_
  refine r_callO 1 rfl rfl rfl (Kind5_spec g l lv hs b (.bad i p) 1) ?_
  refine r_ev rfl rfl ?_; refine r_nn ?_; refine r_cond_false rfl ?_; refine r_sr ?_; refine r_ev rfl rfl ?_
  refine r_callO 1 rfl rfl rfl (Kind5_spec g l lv hs b (.bad i p) 2) ?_
  refine r_ev rfl rfl ?_; refine r_nn ?_; refine r_cond_false rfl ?_; refine r_sr ?_; refine r_ev rfl rfl ?_
  refine r_callO 1 rfl rfl rfl (Kind5_spec g l lv hs b (.bad i p) 3) ?_
  refine r_ev rfl rfl ?_; refine r_nn ?_; refine r_cond_false rfl ?_; refine r_sr ?_; refine r_ev rfl rfl ?_
  refine r_callL 1 rfl rfl rfl (Skip5_spec g l hb lv hs b (.bad i p) hi [63]) ?_
  rintro v g' r' ⟨rfl, rfl, rfl⟩ _
  refine r_ev rfl rfl ?_; refine r_nn ?_; refine r_cond_false rfl ?_; refine r_sr ?_; refine r_ev rfl rfl ?_
  refine r_callL 1 rfl rfl rfl (Skip5_spec g' l hb lv hs b (.bad i p) hi [123]) ?_
  rintro v g' r' ⟨rfl, rfl, rfl⟩ _
  refine r_ev rfl rfl ?_; refine r_nn ?_; refine r_cond_false rfl ?_; refine r_skip ?_; refine r_in_normal ?_; refine r_then_normal ?_; refine r_sr ?_; refine r_ev rfl rfl ?_
  refine r_callL 1 rfl rfl rfl (Need5_spec g' l hb lv hs b (.bad i p) hi [40]) ?_
  rintro v g' r' ⟨rfl, rfl⟩ _
  refine r_nn ?_; refine r_seq ?_; refine r_sr ?_; refine r_ev rfl rfl ?_; refine r_ev rfl rfl ?_; refine r_fieldAddr rfl rfl ?_; refine r_loadB1 1 rfl rfl rfl rfl ?_; refine r_nn ?_; refine r_cond_true rfl ?_; refine r_sr ?_; refine r_build rfl rfl (by rfl) ?_; refine r_storeA 0 rfl rfl rfl rfl (by rfl) (by repeat' (first | exact rfl | assumption | refine all_cons ?_ ?_)) rfl ?_; refine r_nn ?_; refine r_retc ?_; refine r_then_ret ?_
  exact r_retA [_] rfl (res_blk 0 rfl rfl (by rfl)) (.cons _ (List.Sublist.refl _)) ⟨_, rfl, rfl, rfl, rfl⟩
theorem Read6_bad (g : Ghost) (l : List Tok) (hb : TB l) (lv : Value) (hs : ToksAt g lv l) (b i : Nat) (hi : i ≤ l.length) (p : Int) : SpecL Tryd.prog 79 [ptr b 0] g (rdB b lv (.bad i p)) fun v g' r' => v = noEv ∧ g' = g ∧ r' = rdB b lv (.bad i p) := by
  obtain ⟨sa, sc, rfl⟩ := slForm2 hs
  refine spec_of_run Tryd.func79 rfl Tryd.ntmps79 rfl fun E hE => ?_
  refine r_sr ?_
  refine r_alloc rfl (fun b2 => ?_)
  refine r_nn ?_; refine r_sr ?_; refine r_ev rfl rfl ?_
  refine r_callO 1 rfl rfl rfl (Pos5_spec g l _ hs b (.bad i p)) ?_
  refine r_ev rfl rfl ?_; refine r_nn ?_; refine r_seq ?_; refine r_block ?_; refine r_sr ?_; refine r_ev rfl rfl ?_
  refine r_callL 1 rfl rfl rfl (Skip5_spec g l hb _ hs b (.bad i p) hi [92]) ?_
  rintro v g' r' ⟨rfl, rfl, rfl⟩ _
  refine r_ev rfl rfl ?_; refine r_nn ?_; refine r_cond_false rfl ?_; refine r_sr ?_; refine r_ev rfl rfl ?_
  refine r_callL 1 rfl rfl rfl (Skip5_spec g' l hb _ hs b (.bad i p) hi letB) ?_
  rintro v g' r' ⟨rfl, rfl, rfl⟩ _
  refine r_ev rfl rfl ?_; refine r_nn ?_; refine r_cond_false rfl ?_; refine r_sr ?_; refine r_ev rfl rfl ?_
  refine r_callL 1 rfl rfl rfl (Skip5_spec g' l hb _ hs b (.bad i p) hi caseB) ?_
  rintro v g' r' ⟨rfl, rfl, rfl⟩ _
  refine r_ev rfl rfl ?_; refine r_nn ?_; refine r_cond_false rfl ?_; refine r_skip ?_; refine r_in_normal ?_; refine r_then_normal ?_; refine r_sr ?_; refine r_ev rfl rfl ?_
  refine r_callL 1 rfl rfl rfl (atom6_bad g' l hb _ hs b i hi p) ?_
  rintro v g' r' ⟨rfl, rfl, rfl⟩ _
  skip
  refine r_alloc rfl (fun b8 => ?_)
  refine r_storeA 0 rfl rfl rfl rfl (by rfl) (by repeat' (first | exact rfl | assumption | refine all_cons ?_ ?_)) rfl ?_; refine r_nn ?_; refine r_seq ?_; refine r_block ?_
  refine r_loop (ι := Unit) (fun _ => [(0, ptr b 0), (2, ptr b2 0), (8, ptr b8 0)]) (fun _ => g') (fun _ => [.blk b8 101 [.int .i64 0, .int .i64 0, str [], .int .i64 0, .slice none 0 0, .slice none 0 0, .int .i64 0, str [], .int .i64 0, .int .i64 0, .slice none 0 0], .blk b2 101 [.int .i64 0, .int .i64 0, str [], .int .i64 0, .slice none 0 0, .slice none 0 0, .int .i64 0, str [], .int .i64 0, .int .i64 0, .slice none 0 0], rdB b (.slice sa l.length sc) (.bad i p)]) (fun _ => True) (fun _ => 0) () trivial ⟨rfl, rfl, rfl, trivial⟩ rfl rfl ?_
  rintro _ -
  refine r_seq ?_; refine r_seq ?_
  refine h_beginE [] mixed (fun hG => ?_)
  refine h_takeX 0 rfl (by kernel_rfl) rfl hG (by first | exact Ghost.le_refl _ | assumption) (by repeat' (first | exact List.nil_sublist _ | refine List.Sublist.cons_cons _ ?_ | refine List.Sublist.cons _ ?_)) ?_; refine ⟨_, (val_ev rfl), ?_⟩; refine h_takeX 1 rfl (by kernel_rfl) rfl hG (by first | exact Ghost.le_refl _ | assumption) (by repeat' (first | exact List.nil_sublist _ | refine List.Sublist.cons_cons _ ?_ | refine List.Sublist.cons _ ?_)) ?_; refine ⟨_, (val_ev rfl), ?_⟩; refine h_takeX 2 rfl (by kernel_rfl) rfl hG (by first | exact Ghost.le_refl _ | assumption) (by repeat' (first | exact List.nil_sublist _ | refine List.Sublist.cons_cons _ ?_ | refine List.Sublist.cons _ ?_)) ?_; refine ⟨_, (val_fieldAddr rfl), ?_⟩; refine h_takeX 3 rfl (by kernel_rfl) rfl hG (by first | exact Ghost.le_refl _ | assumption) (by repeat' (first | exact List.nil_sublist _ | refine List.Sublist.cons_cons _ ?_ | refine List.Sublist.cons _ ?_)) ?_; refine ⟨_, (val_loadB1 2 rfl rfl rfl), ?_⟩; refine h_takeX 4 rfl (by kernel_rfl) rfl hG (by first | exact Ghost.le_refl _ | assumption) (by repeat' (first | exact List.nil_sublist _ | refine List.Sublist.cons_cons _ ?_ | refine List.Sublist.cons _ ?_)) ?_; refine ⟨_, (val_ev rfl), ?_⟩; refine h_takeX 5 rfl (by kernel_rfl) rfl hG (by first | exact Ghost.le_refl _ | assumption) (by repeat' (first | exact List.nil_sublist _ | refine List.Sublist.cons_cons _ ?_ | refine List.Sublist.cons _ ?_)) ?_; refine ⟨_, (val_ev rfl), ?_⟩; refine h_pass 6 rfl rfl rfl (by kernel_rfl) rfl hG (by first | exact Ghost.le_refl _ | assumption) (by repeat' (first | exact List.nil_sublist _ | refine List.Sublist.cons_cons _ ?_ | refine List.Sublist.cons _ ?_)) ?_; refine h_pass 7 rfl rfl rfl (by kernel_rfl) rfl hG (by first | exact Ghost.le_refl _ | assumption) (by repeat' (first | exact List.nil_sublist _ | refine List.Sublist.cons_cons _ ?_ | refine List.Sublist.cons _ ?_)) ?_; refine h_pass 8 rfl rfl rfl (by kernel_rfl) rfl hG (by first | exact Ghost.le_refl _ | assumption) (by repeat' (first | exact List.nil_sublist _ | refine List.Sublist.cons_cons _ ?_ | refine List.Sublist.cons _ ?_)) ?_; refine h_pass 9 rfl rfl rfl (by kernel_rfl) rfl hG (by first | exact Ghost.le_refl _ | assumption) (by repeat' (first | exact List.nil_sublist _ | refine List.Sublist.cons_cons _ ?_ | refine List.Sublist.cons _ ?_)) ?_; refine h_pass 10 rfl rfl rfl (by kernel_rfl) rfl hG (by first | exact Ghost.le_refl _ | assumption) (by repeat' (first | exact List.nil_sublist _ | refine List.Sublist.cons_cons _ ?_ | refine List.Sublist.cons _ ?_)) ?_; refine h_pass 11 rfl rfl rfl (by kernel_rfl) rfl hG (by first | exact Ghost.le_refl _ | assumption) (by repeat' (first | exact List.nil_sublist _ | refine List.Sublist.cons_cons _ ?_ | refine List.Sublist.cons _ ?_)) ?_; refine h_pass 12 rfl rfl rfl (by kernel_rfl) rfl hG (by first | exact Ghost.le_refl _ | assumption) (by repeat' (first | exact List.nil_sublist _ | refine List.Sublist.cons_cons _ ?_ | refine List.Sublist.cons _ ?_)) ?_; refine h_pass 13 rfl rfl rfl (by kernel_rfl) rfl hG (by first | exact Ghost.le_refl _ | assumption) (by repeat' (first | exact List.nil_sublist _ | refine List.Sublist.cons_cons _ ?_ | refine List.Sublist.cons _ ?_)) ?_; refine h_pass 14 rfl rfl rfl (by kernel_rfl) rfl hG (by first | exact Ghost.le_refl _ | assumption) (by repeat' (first | exact List.nil_sublist _ | refine List.Sublist.cons_cons _ ?_ | refine List.Sublist.cons _ ?_)) ?_; refine h_pass 15 rfl rfl rfl (by kernel_rfl) rfl hG (by first | exact Ghost.le_refl _ | assumption) (by repeat' (first | exact List.nil_sublist _ | refine List.Sublist.cons_cons _ ?_ | refine List.Sublist.cons _ ?_)) ?_; refine h_takeX 16 rfl (by kernel_rfl) rfl hG (by first | exact Ghost.le_refl _ | assumption) (by repeat' (first | exact List.nil_sublist _ | refine List.Sublist.cons_cons _ ?_ | refine List.Sublist.cons _ ?_)) ?_; refine ⟨_, (val_ev rfl), ?_⟩; refine h_takeX 17 rfl (by kernel_rfl) rfl hG (by first | exact Ghost.le_refl _ | assumption) (by repeat' (first | exact List.nil_sublist _ | refine List.Sublist.cons_cons _ ?_ | refine List.Sublist.cons _ ?_)) ?_; refine ⟨_, (val_ev rfl), ?_⟩; refine h_pass 18 rfl rfl rfl (by kernel_rfl) rfl hG (by first | exact Ghost.le_refl _ | assumption) (by repeat' (first | exact List.nil_sublist _ | refine List.Sublist.cons_cons _ ?_ | refine List.Sublist.cons _ ?_)) ?_; refine h_pass 19 rfl rfl rfl (by kernel_rfl) rfl hG (by first | exact Ghost.le_refl _ | assumption) (by repeat' (first | exact List.nil_sublist _ | refine List.Sublist.cons_cons _ ?_ | refine List.Sublist.cons _ ?_)) ?_; refine h_pass 20 rfl rfl rfl (by kernel_rfl) rfl hG (by first | exact Ghost.le_refl _ | assumption) (by repeat' (first | exact List.nil_sublist _ | refine List.Sublist.cons_cons _ ?_ | refine List.Sublist.cons _ ?_)) ?_; refine h_pass 21 rfl rfl rfl (by kernel_rfl) rfl hG (by first | exact Ghost.le_refl _ | assumption) (by repeat' (first | exact List.nil_sublist _ | refine List.Sublist.cons_cons _ ?_ | refine List.Sublist.cons _ ?_)) ?_; refine h_pass 22 rfl rfl rfl (by kernel_rfl) rfl hG (by first | exact Ghost.le_refl _ | assumption) (by repeat' (first | exact List.nil_sublist _ | refine List.Sublist.cons_cons _ ?_ | refine List.Sublist.cons _ ?_)) ?_; refine h_pass 23 rfl rfl rfl (by kernel_rfl) rfl hG (by first | exact Ghost.le_refl _ | assumption) (by repeat' (first | exact List.nil_sublist _ | refine List.Sublist.cons_cons _ ?_ | refine List.Sublist.cons _ ?_)) ?_; refine h_pass 24 rfl rfl rfl (by kernel_rfl) rfl hG (by first | exact Ghost.le_refl _ | assumption) (by repeat' (first | exact List.nil_sublist _ | refine List.Sublist.cons_cons _ ?_ | refine List.Sublist.cons _ ?_)) ?_; refine h_pass 25 rfl rfl rfl (by kernel_rfl) rfl hG (by first | exact Ghost.le_refl _ | assumption) (by repeat' (first | exact List.nil_sublist _ | refine List.Sublist.cons_cons _ ?_ | refine List.Sublist.cons _ ?_)) ?_; refine h_pass 26 rfl rfl rfl (by kernel_rfl) rfl hG (by first | exact Ghost.le_refl _ | assumption) (by repeat' (first | exact List.nil_sublist _ | refine List.Sublist.cons_cons _ ?_ | refine List.Sublist.cons _ ?_)) ?_; refine h_pass 27 rfl rfl rfl (by kernel_rfl) rfl hG (by first | exact Ghost.le_refl _ | assumption) (by repeat' (first | exact List.nil_sublist _ | refine List.Sublist.cons_cons _ ?_ | refine List.Sublist.cons _ ?_)) ?_; refine h_pass 28 rfl rfl rfl (by kernel_rfl) rfl hG (by first | exact Ghost.le_refl _ | assumption) (by repeat' (first | exact List.nil_sublist _ | refine List.Sublist.cons_cons _ ?_ | refine List.Sublist.cons _ ?_)) ?_; refine h_takeX 29 rfl (by kernel_rfl) rfl hG (by first | exact Ghost.le_refl _ | assumption) (by repeat' (first | exact List.nil_sublist _ | refine List.Sublist.cons_cons _ ?_ | refine List.Sublist.cons _ ?_)) ?_; refine ⟨_, (val_ev rfl), ?_⟩
  refine h_done (by kernel_rfl) ?_
  refine r_then_normal ?_; refine r_cond_false rfl ?_; refine r_exit ?_; refine r_then_exit ?_; refine r_then_exit ?_; refine r_in_exit ?_; refine r_then_normal ?_; refine r_sr ?_; refine r_loadB 0 rfl rfl rfl (by rfl) ?_; refine r_storeA 1 rfl rfl rfl rfl (by rfl) (by repeat' (first | exact rfl | assumption | refine all_cons ?_ ?_)) rfl ?_; refine r_nn ?_; refine r_retc ?_
  exact r_retA [_] rfl (res_blk 1 rfl rfl (by rfl)) (.cons _ (.cons _ (List.Sublist.refl _))) ⟨_, rfl, rfl, rfl, rfl⟩
end Go.Proofs.YtblbbjhbigpgnaaDoor
-- sum d32386a7d92d5f71
/- The walks of the reference's reader of expressions: atom. -/
namespace Go.Th
theorem kind3 {s : Bytes} (h : kindOf s = 3) : s.length ≤ 9 ∧ ∀ c ∈ s, digit c = true := by
  unfold kindOf at h
  split at h
  · cases h
  split at h
  · cases h
  split at h
  · cases h
  split at h
  · rename_i h3
    simp only [isInteger, Bool.and_eq_true, decide_eq_true_eq] at h3
    exact ⟨h3.1.1.2, fun c hc => List.all_eq_true.1 h3.2 c hc⟩
  split at h
  · cases h
  · cases h
end Go.Th
namespace Go.Proofs.YtblbbjhbigpgnaaDoor
open Go Go.Eng Go.Th Go.Proofs
set_option maxRecDepth 10000
set_option maxHeartbeats 4000000
attribute [local irreducible] wpList Code.wp Run bodyPost Go.Eng.Ends Exit.then Exit.inBlock Again Wq Kq
theorem isAt_word {l : List Tok} (h : KW l) {w : Bytes} (hw : kindOf w = 4) (i : Nat) : isAt l i w = wordAt l i w := by
  unfold isAt wordAt
  have : tokAt l i 5 w = false := by
    unfold tokAt
    cases hl : l[i]? with
    | none => rfl
    | some t =>
      simp only [Bool.and_eq_false_iff, decide_eq_false_iff_not]
      by_cases hk : t.kind = 5
      · refine .inr fun ht => ?_
        have := h t (List.mem_of_getElem? hl)
        rw [ht, hw] at this
        omega
      · exact .inl hk
  rw [this, Bool.false_or]
theorem text_good (l : List Tok) (k : Int) (i : Nat) : RS.text l k (.good i) = match l[i]? with | some t => if t.kind = k then t.text else [] | none => [] := rfl
theorem nameAt_yes {l : List Tok} {i : Nat} {k : Int} (h : kindAt l i k = true) : nameAt l i k = some (RS.text l k (.good i)) ∧ RS.word l k (.good i) = .good (i + 1) ∧ i < l.length := by
  have e : RS.word l k (.good i) = .good (i + 1) := by simp [RS.word, h]
  unfold kindAt at h
  rw [text_good]
  unfold nameAt
  cases hl : l[i]? with
  | none => rw [hl] at h; cases h
  | some t =>
    rw [hl] at h
    simp only [decide_eq_true_eq] at h
    simp only [h, if_true]
    exact ⟨trivial, e, (List.getElem?_eq_some_iff.1 hl).1⟩
theorem nameAt_no {l : List Tok} {i : Nat} {k : Int} (h : kindAt l i k = false) : nameAt l i k = none ∧ RS.word l k (.good i) = .bad i (failPos l i) ∧ RS.text l k (.good i) = [] := by
  have e : RS.word l k (.good i) = .bad i (failPos l i) := by simp [RS.word, h]
  unfold kindAt at h
  rw [text_good]
  unfold nameAt
  cases hl : l[i]? with
  | none => exact ⟨rfl, e, rfl⟩
  | some t =>
    rw [hl] at h
    simp only [decide_eq_false_iff_not] at h
    simp only [h, if_false]
    exact ⟨trivial, e, trivial⟩
theorem skip_yes {l : List Tok} {i : Nat} {w : Bytes} (h : isAt l i w = true) : RS.skip l w (.good i) = .good (i + 1) ∧ RS.need l w (.good i) = .good (i + 1) ∧ i < l.length := by
  refine ⟨by simp [RS.skip, h], by simp [RS.need, h], ?_⟩
  unfold isAt at h
  rcases Bool.or_eq_true_iff.1 h with h | h
  · exact tokAt_lt h
  · exact tokAt_lt h
theorem skip_no {l : List Tok} {i : Nat} {w : Bytes} (h : isAt l i w = false) : RS.skip l w (.good i) = .good i ∧ RS.need l w (.good i) = .bad i (failPos l i) := ⟨by simp [RS.skip, h], by simp [RS.need, h]⟩
def post6 (l : List Tok) (i : Nat) (b : Nat) (lv : Value) (r : ER) (v : Value) (g' : Ghost) (r' : Res) : Prop := match r with
  | .ok (e, j) => ExV g' v e ∧ r' = rdB b lv (.good j) ∧ i < j ∧ j ≤ l.length
  | .error p => (∃ e, ExV g' v e) ∧ ∃ j, j ≤ l.length ∧ r' = rdB b lv (.bad j p)
theorem exsNil (g : Ghost) : ExsAt g [] [] := by unfold ExsAt; rfl
theorem arsNil (g : Ghost) : ArsAt g [] [] := by unfold ArsAt; rfl
theorem exs1 {g : Ghost} {a : Ex} {c : List Value} (h : ExAt g a c) : ExsAt g [a] c := by
  unfold ExsAt
  exact ⟨c, [], by simp, h, exsNil g⟩
theorem exs2 {g : Ghost} {a b : Ex} {c d : List Value} (h : ExAt g a c) (h' : ExAt g b d) : ExsAt g [a, b] (c ++ d) := by
  unfold ExsAt
  exact ⟨c, d, rfl, h, exs1 h'⟩
theorem ExV.form {g : Ghost} {v : Value} {e : Ex} (h : ExV g v e) : ∃ (a1 : Option Addr) (m1 c1 : Nat) (a2 : Option Addr) (m2 c2 : Nat) (a3 : Option Addr) (m3 c3 : Nat),
    v = .agg #[.int .i64 e.kind, .int .i64 e.pos, str e.name, .int .i64 e.num, .slice a1 m1 c1, .slice a2 m2 c2, .int .i64 e.ty.kind, str e.ty.name, .int .i64 e.ty.id, .int .i64 e.ty.home, .slice a3 m3 c3] ∧
    ExAt g e [.int .i64 e.kind, .int .i64 e.pos, str e.name, .int .i64 e.num, .slice a1 m1 c1, .slice a2 m2 c2, .int .i64 e.ty.kind, str e.ty.name, .int .i64 e.ty.id, .int .i64 e.ty.home, .slice a3 m3 c3] := by
  obtain ⟨cs, rfl, h⟩ := h
  obtain ⟨a1, m1, c1, a2, m2, c2, a3, m3, c3, xk, xa, rfl, _⟩ := h.form
  exact ⟨a1, m1, c1, a2, m2, c2, a3, m3, c3, rfl, h⟩
theorem leafE_V (g : Ghost) (k p : Int) (n : Bytes) (m : Int) : ExV g (.agg #[.int .i64 k, .int .i64 p, str n, .int .i64 m, .slice none 0 0, .slice none 0 0, .int .i64 0, str [], .int .i64 0, .int .i64 0, .slice none 0 0]) (leafE k p n m) :=
  ⟨_, rfl, ExAt.mk (e := leafE k p n m) (slNil g 11) (exsNil g) (slNil g 14) (arsNil g) (TyAt.mk (t := noT) (slNil g 5) (tysNil g))⟩
theorem kidsE_V (g : Ghost) (k p : Int) (n : Bytes) {v : Value} {ks : List Ex} {xs : List Value} (h1 : SlAt g 11 v ks.length xs) (h2 : ExsAt g ks xs) : ExV g (.agg #[.int .i64 k, .int .i64 p, str n, .int .i64 0, v, .slice none 0 0, .int .i64 0, str [], .int .i64 0, .int .i64 0, .slice none 0 0]) (kidsE k p n ks) :=
  ⟨_, rfl, ExAt.mk (e := kidsE k p n ks) h1 h2 (slNil g 14) (arsNil g) (TyAt.mk (t := noT) (slNil g 5) (tysNil g))⟩
theorem annE_V (g : Ghost) (p : Int) (t : Ty) {v sl : Value} {x : Ex} {xs : List Value} (h1 : SlAt g 11 v 1 xs) (h2 : ExAt g x xs) (h3 : TyAt g t (tyCells t sl)) : ExV g (.agg #[.int .i64 9, .int .i64 p, str [], .int .i64 0, v, .slice none 0 0, .int .i64 t.kind, str t.name, .int .i64 t.id, .int .i64 t.home, sl]) (annE p x t) :=
  ⟨_, rfl, ExAt.mk (e := annE p x t) h1 (exs1 h2) (slNil g 14) (arsNil g) h3⟩
theorem posAt_of (l : List Tok) (i : Nat) : posAt l i = posOf l i := rfl
/-- What a mark's or a word's test says. -/
theorem atom6_step {l : List Tok} (hb : TB l) (hkw : KW l) (m : Nat) (lv : Value) (b : Nat)
    (hR : ∀ g i, ToksAt g lv l → i ≤ l.length → l.length - i < m → SpecL Tryd.prog 79 [ptr b 0] g (rdB b lv (.good i)) (post6 l i b lv (eread l .expr i)))
    (g : Ghost) (i : Nat) (hs : ToksAt g lv l) (hi : i ≤ l.length) (hm : l.length - i < m + 1) : SpecL Tryd.prog 87 [ptr b 0] g (rdB b lv (.good i)) (post6 l i b lv (eread l .atom i)) := by
  have hb1 := hb.1
  have hr := eread_step l .atom i
  simp only [estep] at hr
  have hp : isAt l i [40] = markAt l i [40] := isAt_mark hkw (by decide) i
  have hq : isAt l i [63] = markAt l i [63] := isAt_mark hkw (by decide) i
  have hc : isAt l i [123] = markAt l i [123] := isAt_mark hkw (by decide) i
  refine spec_of_run Tryd.func87 rfl Tryd.ntmps87 rfl fun E hE => ?_
  refine r_sr ?_
  refine r_alloc rfl (fun b2 => ?_)
  refine r_nn ?_; refine r_sr ?_; refine r_ev rfl rfl ?_
  refine r_callO 1 rfl rfl rfl (Pos5_spec g l lv hs b (.good i)) ?_
  rw [show posAt l (RS.good i).idx = posOf l i from rfl]
  refine r_ev rfl rfl ?_; refine r_nn ?_; refine r_seq ?_; refine r_block ?_; refine r_sr ?_; refine r_ev rfl rfl ?_
  refine r_callO 1 rfl rfl rfl (Kind5_spec g l lv hs b (.good i) 1) ?_
  rw [show RS.kindIs l 1 (.good i) = kindAt l i 1 from rfl]
  cases h1 : kindAt l i 1 with
  | true =>
    obtain ⟨f1, f2, hlt⟩ := nameAt_yes h1
    have hk := h1
    rw [kindAt_lt hlt] at hk
    have hk' : l[i].kind = 1 := of_decide_eq_true hk
    have e2 : RS.text l 1 (.good i) = l[i].text := by
      show (match l[i]? with | some t => if t.kind = 1 then t.text else [] | none => []) = _
      rw [toks_some hlt]; simp [hk']
    have e3 : posOf l i = l[i].pos := by unfold posOf; rw [toks_some hlt]
    rw [toks_some hlt] at hr
    simp only [hk', if_true] at hr
    refine r_ev rfl rfl ?_; refine r_nn ?_; refine r_cond_true rfl ?_; refine r_sr ?_; refine r_ev rfl rfl ?_; refine r_ev rfl rfl ?_
    refine r_callL 1 rfl rfl rfl (Word5_spec g l hb lv hs b (.good i) hi 1) ?_
    rintro v g' r' ⟨rfl, rfl, rfl⟩ _
    rw [f2, e2]
    refine r_build rfl rfl (by rfl) ?_; refine r_storeA 0 rfl rfl rfl rfl (by rfl) (by repeat' (first | exact rfl | assumption | refine all_cons ?_ ?_)) rfl ?_; refine r_nn ?_; refine r_retc ?_; refine r_in_ret ?_; refine r_then_ret ?_
    refine r_retA [_] rfl (res_blk 0 rfl rfl (by rfl)) (.cons _ (List.Sublist.refl _)) ⟨_, rfl, ?_⟩
    rw [hr, e3]
    exact ⟨leafE_V g' 1 _ _ 0, rfl, by omega, by omega⟩
  | false =>
  refine r_ev rfl rfl ?_; refine r_nn ?_; refine r_cond_false rfl ?_; refine r_sr ?_; refine r_ev rfl rfl ?_
  refine r_callO 1 rfl rfl rfl (Kind5_spec g l lv hs b (.good i) 2) ?_
  rw [show RS.kindIs l 2 (.good i) = kindAt l i 2 from rfl]
  cases h2 : kindAt l i 2 with
  | true =>
    obtain ⟨f1, f2, hlt⟩ := nameAt_yes h2
    have hk := h2
    rw [kindAt_lt hlt] at hk
    have hk' : l[i].kind = 2 := of_decide_eq_true hk
    have e2 : RS.text l 2 (.good i) = l[i].text := by
      show (match l[i]? with | some t => if t.kind = 2 then t.text else [] | none => []) = _
      rw [toks_some hlt]; simp [hk']
    have e3 : posOf l i = l[i].pos := by unfold posOf; rw [toks_some hlt]
    rw [toks_some hlt] at hr
    simp only [hk'] at hr
    rw [if_neg (by decide), if_pos (by simp)] at hr
    refine r_ev rfl rfl ?_; refine r_nn ?_; refine r_cond_true rfl ?_; refine r_sr ?_; refine r_ev rfl rfl ?_; refine r_ev rfl rfl ?_
    refine r_callL 1 rfl rfl rfl (Word5_spec g l hb lv hs b (.good i) hi 2) ?_
    rintro v g' r' ⟨rfl, rfl, rfl⟩ _
    rw [f2, e2]
    refine r_build rfl rfl (by rfl) ?_; refine r_storeA 0 rfl rfl rfl rfl (by rfl) (by repeat' (first | exact rfl | assumption | refine all_cons ?_ ?_)) rfl ?_; refine r_nn ?_; refine r_retc ?_; refine r_in_ret ?_; refine r_then_ret ?_
    refine r_retA [_] rfl (res_blk 0 rfl rfl (by rfl)) (.cons _ (List.Sublist.refl _)) ⟨_, rfl, ?_⟩
    rw [hr, e3]
    exact ⟨leafE_V g' 2 _ _ 0, rfl, by omega, by omega⟩
  | false =>
  refine r_ev rfl rfl ?_; refine r_nn ?_; refine r_cond_false rfl ?_; refine r_sr ?_; refine r_ev rfl rfl ?_
  refine r_callO 1 rfl rfl rfl (Kind5_spec g l lv hs b (.good i) 3) ?_
  rw [show RS.kindIs l 3 (.good i) = kindAt l i 3 from rfl]
  cases h3 : kindAt l i 3 with
  | true =>
    obtain ⟨f1, f2, hlt⟩ := nameAt_yes h3
    have hk := h3
    rw [kindAt_lt hlt] at hk
    have hk' : l[i].kind = 3 := of_decide_eq_true hk
    have e2 : RS.text l 3 (.good i) = l[i].text := by
      show (match l[i]? with | some t => if t.kind = 3 then t.text else [] | none => []) = _
      rw [toks_some hlt]; simp [hk']
    have e3 : posOf l i = l[i].pos := by unfold posOf; rw [toks_some hlt]
    have hnum := kind3 ((hkw _ (List.getElem_mem hlt)).symm.trans hk')
    rw [toks_some hlt] at hr
    simp only [hk'] at hr
    rw [if_neg (by decide), if_neg (by decide), if_pos (by simp)] at hr
    refine r_ev rfl rfl ?_; refine r_nn ?_; refine r_cond_true rfl ?_; refine r_sr ?_; refine r_ev rfl rfl ?_; refine r_ev rfl rfl ?_
    refine r_callL 1 rfl rfl rfl (Word5_spec g l hb lv hs b (.good i) hi 3) ?_
    rintro v g' r' ⟨rfl, rfl, rfl⟩ _
    rw [f2, e2]
    refine r_callP rfl rfl (number_spec g' l[i].text hnum.1 hnum.2) ?_
    refine r_build rfl rfl (by rfl) ?_; refine r_storeA 0 rfl rfl rfl rfl (by rfl) (by repeat' (first | exact rfl | assumption | refine all_cons ?_ ?_)) rfl ?_; refine r_nn ?_; refine r_retc ?_; refine r_in_ret ?_; refine r_then_ret ?_
    refine r_retA [_] rfl (res_blk 0 rfl rfl (by rfl)) (.cons _ (List.Sublist.refl _)) ⟨_, rfl, ?_⟩
    rw [hr, e3]
    exact ⟨leafE_V g' 3 _ [] _, rfl, by omega, by omega⟩
  | false =>
  refine r_ev rfl rfl ?_; refine r_nn ?_; refine r_cond_false rfl ?_; refine r_sr ?_; refine r_ev rfl rfl ?_
  refine r_callL 1 rfl rfl rfl (Skip5_spec g l hb lv hs b (.good i) hi [63]) ?_
  rintro v g' r' ⟨rfl, rfl, rfl⟩ _
  rw [show RS.isIs l [63] (.good i) = markAt l i [63] from hq]
  cases h4 : markAt l i [63] with
  | true =>
    have hlt := tokAt_lt h4
    have f2 := (skip_yes (hq.trans h4)).1
    have e3 : posOf l i = l[i].pos := by unfold posOf; rw [toks_some hlt]
    have hk := h4
    unfold markAt tokAt at hk
    rw [toks_some hlt] at hk hr
    simp only [Bool.and_eq_true, decide_eq_true_eq] at hk
    simp only [hk.1, hk.2] at hr
    rw [if_neg (by decide), if_neg (by decide), if_neg (by decide), if_pos (by simp)] at hr
    rw [f2]
    refine r_ev rfl rfl ?_; refine r_nn ?_; refine r_cond_true rfl ?_; refine r_sr ?_; refine r_ev rfl rfl ?_; refine r_build rfl rfl (by rfl) ?_; refine r_storeA 0 rfl rfl rfl rfl (by rfl) (by repeat' (first | exact rfl | assumption | refine all_cons ?_ ?_)) rfl ?_; refine r_nn ?_; refine r_retc ?_; refine r_in_ret ?_; refine r_then_ret ?_
    refine r_retA [_] rfl (res_blk 0 rfl rfl (by rfl)) (.cons _ (List.Sublist.refl _)) ⟨_, rfl, ?_⟩
    rw [hr, e3]
    exact ⟨leafE_V g' 10 _ [] 0, rfl, by omega, by omega⟩
  | false =>
  rw [(skip_no (hq.trans h4)).1]
  refine r_ev rfl rfl ?_; refine r_nn ?_; refine r_cond_false rfl ?_; refine r_sr ?_; refine r_ev rfl rfl ?_
  refine r_callL 1 rfl rfl rfl (Skip5_spec g' l hb lv hs b (.good i) hi [123]) ?_
  rintro v g' r' ⟨rfl, rfl, rfl⟩ _
  rw [show RS.isIs l [123] (.good i) = markAt l i [123] from hc]
  cases h5 : markAt l i [123] with
  | true =>
    have hlt := tokAt_lt h5
    have f2 := (skip_yes (hc.trans h5)).1
    have e3 : posOf l i = l[i].pos := by unfold posOf; rw [toks_some hlt]
    have hk := h5
    unfold markAt tokAt at hk
    rw [toks_some hlt] at hk hr
    simp only [Bool.and_eq_true, decide_eq_true_eq] at hk
    simp only [hk.1, hk.2] at hr
    rw [if_neg (by decide), if_neg (by decide), if_neg (by decide), if_neg (by decide), if_pos (by simp)] at hr
    rw [f2]
    refine r_ev rfl rfl ?_; refine r_nn ?_; refine r_cond_true rfl ?_; refine r_sr ?_; refine r_ev rfl rfl ?_
    refine r_callL 1 rfl rfl rfl (hR g' (i + 1) hs (by omega) (by omega)) ?_
    rintro v g1 r' hw hle
    have hs1 := hs.mono hle
    cases hq1 : eread l .expr (i + 1) with
    | error p =>
      rw [hq1] at hw hr
      simp only at hr
      obtain ⟨⟨x, hx⟩, j, hj, rfl⟩ := hw
      obtain ⟨a1, m1, c1, a2, m2, c2, a3, m3, c3, rfl, hx'⟩ := hx.form
      skip
      refine r_alloc rfl (fun b4 => ?_)
      refine r_storeA 0 rfl rfl rfl rfl (by rfl) (by repeat' (first | exact rfl | assumption | refine all_cons ?_ ?_)) rfl ?_; refine r_nn ?_; refine r_sr ?_; refine r_ev rfl rfl ?_
      refine r_callL 2 rfl rfl rfl (Need5_spec g1 l hb lv hs1 b (.bad j p) hj [125]) ?_
      rintro v g2 r' ⟨rfl, rfl⟩ _
      refine r_nn ?_; refine r_sr ?_; refine r_ev rfl rfl ?_; refine r_loadB 0 rfl rfl rfl (by rfl) ?_
      refine r_buildSlice rfl rfl (by rfl) (by rfl) (by rfl) (by rfl) (by rfl) (fun b5 => ?_)
      refine r_publishRow (fun g3 hg3 hs3 => ?_)
      refine r_build rfl rfl (by rfl) ?_; refine r_storeA 1 rfl rfl rfl rfl (by rfl) (by repeat' (first | exact rfl | assumption | refine all_cons ?_ ?_)) rfl ?_; refine r_nn ?_; refine r_retc ?_; refine r_in_ret ?_; refine r_then_ret ?_
      refine r_retA [_] rfl (res_blk 1 rfl rfl (by rfl)) (.cons _ (.cons _ (List.Sublist.refl _))) ⟨_, rfl, ?_⟩
      rw [hr]
      exact ⟨⟨kidsE 11 (posOf l i) [] [x], kidsE_V g3 11 _ [] hs3 (exs1 (hx'.mono hg3))⟩, j, hj, rfl⟩
    | ok q =>
      obtain ⟨x, j⟩ := q
      rw [hq1] at hw hr
      simp only at hr
      obtain ⟨hx, rfl, hj1, hj2⟩ := hw
      obtain ⟨a1, m1, c1, a2, m2, c2, a3, m3, c3, rfl, hx'⟩ := hx.form
      have hp2 : isAt l j [125] = markAt l j [125] := isAt_mark hkw (by decide) j
      skip
      refine r_alloc rfl (fun b4 => ?_)
      refine r_storeA 0 rfl rfl rfl rfl (by rfl) (by repeat' (first | exact rfl | assumption | refine all_cons ?_ ?_)) rfl ?_; refine r_nn ?_; refine r_sr ?_; refine r_ev rfl rfl ?_
      refine r_callL 2 rfl rfl rfl (Need5_spec g1 l hb lv hs1 b (.good j) hj2 [125]) ?_
      rintro v g2 r' ⟨rfl, rfl⟩ _
      cases hk2 : markAt l j [125] with
      | true =>
        have hlt2 := tokAt_lt hk2
        rw [hk2] at hr
        simp only [if_true] at hr
        rw [(skip_yes (hp2.trans hk2)).2.1]
        refine r_nn ?_; refine r_sr ?_; refine r_ev rfl rfl ?_; refine r_loadB 0 rfl rfl rfl (by rfl) ?_
        refine r_buildSlice rfl rfl (by rfl) (by rfl) (by rfl) (by rfl) (by rfl) (fun b5 => ?_)
        refine r_publishRow (fun g3 hg3 hs3 => ?_)
        refine r_build rfl rfl (by rfl) ?_; refine r_storeA 1 rfl rfl rfl rfl (by rfl) (by repeat' (first | exact rfl | assumption | refine all_cons ?_ ?_)) rfl ?_; refine r_nn ?_; refine r_retc ?_; refine r_in_ret ?_; refine r_then_ret ?_
        refine r_retA [_] rfl (res_blk 1 rfl rfl (by rfl)) (.cons _ (.cons _ (List.Sublist.refl _))) ⟨_, rfl, ?_⟩
        rw [hr, e3]
        exact ⟨kidsE_V g3 11 _ [] hs3 (exs1 (hx'.mono hg3)), rfl, by omega, by omega⟩
      | false =>
        rw [hk2] at hr
        simp only [Bool.false_eq_true, if_false] at hr
        rw [(skip_no (hp2.trans hk2)).2]
        refine r_nn ?_; refine r_sr ?_; refine r_ev rfl rfl ?_; refine r_loadB 0 rfl rfl rfl (by rfl) ?_
        refine r_buildSlice rfl rfl (by rfl) (by rfl) (by rfl) (by rfl) (by rfl) (fun b5 => ?_)
        refine r_publishRow (fun g3 hg3 hs3 => ?_)
        refine r_build rfl rfl (by rfl) ?_; refine r_storeA 1 rfl rfl rfl rfl (by rfl) (by repeat' (first | exact rfl | assumption | refine all_cons ?_ ?_)) rfl ?_; refine r_nn ?_; refine r_retc ?_; refine r_in_ret ?_; refine r_then_ret ?_
        refine r_retA [_] rfl (res_blk 1 rfl rfl (by rfl)) (.cons _ (.cons _ (List.Sublist.refl _))) ⟨_, rfl, ?_⟩
        rw [hr]
        exact ⟨⟨kidsE 11 (posOf l i) [] [x], kidsE_V g3 11 _ [] hs3 (exs1 (hx'.mono hg3))⟩, j, hj2, rfl⟩
  | false =>
  rw [(skip_no (hc.trans h5)).1]
  refine r_ev rfl rfl ?_; refine r_nn ?_; refine r_cond_false rfl ?_; refine r_skip ?_; refine r_in_normal ?_; refine r_then_normal ?_; refine r_sr ?_; refine r_ev rfl rfl ?_
  refine r_callL 1 rfl rfl rfl (Need5_spec g' l hb lv hs b (.good i) hi [40]) ?_
  rintro v g' r' ⟨rfl, rfl⟩ _
  cases h6 : markAt l i [40] with
  | false =>
    rw [(skip_no (hp.trans h6)).2]
    have hr' : eread l .atom i = .error (failPos l i) := by
      rw [hr]
      by_cases hlt : i < l.length
      · rw [toks_some hlt]
        rw [kindAt_lt hlt] at h1 h2 h3
        unfold markAt tokAt at h4 h5 h6
        rw [toks_some hlt] at h4 h5 h6
        simp only [Bool.and_eq_false_iff, decide_eq_false_iff_not] at h1 h2 h3 h4 h5 h6
        simp only
        rw [if_neg h1, if_neg h2, if_neg h3, if_neg (fun h => h4.elim (fun k => k h.1) (fun k => k h.2)), if_neg (fun h => h5.elim (fun k => k h.1) (fun k => k h.2)), if_neg (fun h => h6.elim (fun k => k h.1) (fun k => k h.2))]
      · rw [List.getElem?_eq_none (by omega)]
    refine r_nn ?_; refine r_seq ?_; refine r_sr ?_; refine r_ev rfl rfl ?_; refine r_ev rfl rfl ?_; refine r_fieldAddr rfl rfl ?_; refine r_loadB1 1 rfl rfl rfl rfl ?_; refine r_nn ?_; refine r_cond_true rfl ?_; refine r_sr ?_; refine r_build rfl rfl (by rfl) ?_; refine r_storeA 0 rfl rfl rfl rfl (by rfl) (by repeat' (first | exact rfl | assumption | refine all_cons ?_ ?_)) rfl ?_; refine r_nn ?_; refine r_retc ?_; refine r_then_ret ?_
    refine r_retA [_] rfl (res_blk 0 rfl rfl (by rfl)) (.cons _ (List.Sublist.refl _)) ⟨_, rfl, ?_⟩
    rw [hr']
    exact ⟨⟨noE, noE_V g'⟩, i, hi, rfl⟩
  | true =>
  have hlt := tokAt_lt h6
  have e3 : posOf l i = l[i].pos := by unfold posOf; rw [toks_some hlt]
  have hk := h6
  unfold markAt tokAt at hk
  rw [toks_some hlt] at hk hr
  simp only [Bool.and_eq_true, decide_eq_true_eq] at hk
  simp only [hk.1, hk.2] at hr
  rw [if_neg (by decide), if_neg (by decide), if_neg (by decide), if_neg (by decide), if_neg (by decide), if_pos (by simp)] at hr
  rw [(skip_yes (hp.trans h6)).2.1]
  refine r_nn ?_; refine r_seq ?_; refine r_sr ?_; refine r_ev rfl rfl ?_; refine r_ev rfl rfl ?_; refine r_fieldAddr rfl rfl ?_; refine r_loadB1 1 rfl rfl rfl rfl ?_; refine r_nn ?_; refine r_cond_false rfl ?_; refine r_skip ?_; refine r_then_normal ?_; refine r_sr ?_; refine r_ev rfl rfl ?_
  refine r_callL 1 rfl rfl rfl (hR g' (i + 1) hs (by omega) (by omega)) ?_
  rintro v g1 r' hw hle
  have hs1 := hs.mono hle
  cases hq1 : eread l .expr (i + 1) with
  | error p =>
    rw [hq1] at hw hr
    simp only at hr
    obtain ⟨⟨x, hx⟩, j, hj, rfl⟩ := hw
    obtain ⟨a1, m1, c1, a2, m2, c2, a3, m3, c3, rfl, hx'⟩ := hx.form
    skip
    refine r_alloc rfl (fun b5 => ?_)
    refine r_storeA 0 rfl rfl rfl rfl (by rfl) (by repeat' (first | exact rfl | assumption | refine all_cons ?_ ?_)) rfl ?_; refine r_nn ?_; refine r_seq ?_; refine r_sr ?_; refine r_ev rfl rfl ?_
    refine r_callL 2 rfl rfl rfl (Skip5_spec g1 l hb lv hs1 b (.bad j p) hj [58]) ?_
    rintro v g2 r' ⟨rfl, rfl, rfl⟩ _
    refine r_nn ?_; refine r_cond_false rfl ?_; refine r_skip ?_; refine r_then_normal ?_; refine r_sr ?_; refine r_ev rfl rfl ?_
    refine r_callL 2 rfl rfl rfl (Need5_spec g2 l hb lv hs1 b (.bad j p) hj [41]) ?_
    rintro v g2 r' ⟨rfl, rfl⟩ _
    refine r_nn ?_; refine r_sr ?_; refine r_loadB 0 rfl rfl rfl (by rfl) ?_; refine r_storeA 1 rfl rfl rfl rfl (by rfl) (by repeat' (first | exact rfl | assumption | refine all_cons ?_ ?_)) rfl ?_; refine r_nn ?_; refine r_retc ?_
    refine r_retA [_] rfl (res_blk 1 rfl rfl (by rfl)) (.cons _ (.cons _ (List.Sublist.refl _))) ⟨_, rfl, ?_⟩
    rw [hr]
    exact ⟨⟨x, _, rfl, hx'⟩, j, hj, rfl⟩
  | ok q =>
  obtain ⟨x, j⟩ := q
  rw [hq1] at hw hr
  simp only at hr
  obtain ⟨hx, rfl, hj1, hj2⟩ := hw
  obtain ⟨a1, m1, c1, a2, m2, c2, a3, m3, c3, rfl, hx'⟩ := hx.form
  have hp2 : isAt l j [58] = markAt l j [58] := isAt_mark hkw (by decide) j
  skip
  refine r_alloc rfl (fun b5 => ?_)
  refine r_storeA 0 rfl rfl rfl rfl (by rfl) (by repeat' (first | exact rfl | assumption | refine all_cons ?_ ?_)) rfl ?_; refine r_nn ?_; refine r_seq ?_; refine r_sr ?_; refine r_ev rfl rfl ?_
  refine r_callL 2 rfl rfl rfl (Skip5_spec g1 l hb lv hs1 b (.good j) hj2 [58]) ?_
  rintro v g2 r' ⟨rfl, rfl, rfl⟩ _
  rw [show RS.isIs l [58] (.good j) = markAt l j [58] from hp2]
  cases hk2 : markAt l j [58] with
  | false =>
    rw [hk2] at hr
    simp only [Bool.false_eq_true, if_false] at hr
    rw [(skip_no (hp2.trans hk2)).1]
    have hp3 : isAt l j [41] = markAt l j [41] := isAt_mark hkw (by decide) j
    refine r_nn ?_; refine r_cond_false rfl ?_; refine r_skip ?_; refine r_then_normal ?_; refine r_sr ?_; refine r_ev rfl rfl ?_
    refine r_callL 2 rfl rfl rfl (Need5_spec g2 l hb lv hs1 b (.good j) hj2 [41]) ?_
    rintro v g2 r' ⟨rfl, rfl⟩ _
    cases hk3 : markAt l j [41] with
    | true =>
      have hlt3 := tokAt_lt hk3
      rw [hk3] at hr
      simp only [if_true] at hr
      rw [(skip_yes (hp3.trans hk3)).2.1]
      refine r_nn ?_; refine r_sr ?_; refine r_loadB 0 rfl rfl rfl (by rfl) ?_; refine r_storeA 1 rfl rfl rfl rfl (by rfl) (by repeat' (first | exact rfl | assumption | refine all_cons ?_ ?_)) rfl ?_; refine r_nn ?_; refine r_retc ?_
      refine r_retA [_] rfl (res_blk 1 rfl rfl (by rfl)) (.cons _ (.cons _ (List.Sublist.refl _))) ⟨_, rfl, ?_⟩
      rw [hr]
      exact ⟨⟨_, rfl, hx'⟩, rfl, by omega, by omega⟩
    | false =>
      rw [hk3] at hr
      simp only [Bool.false_eq_true, if_false] at hr
      rw [(skip_no (hp3.trans hk3)).2]
      refine r_nn ?_; refine r_sr ?_; refine r_loadB 0 rfl rfl rfl (by rfl) ?_; refine r_storeA 1 rfl rfl rfl rfl (by rfl) (by repeat' (first | exact rfl | assumption | refine all_cons ?_ ?_)) rfl ?_; refine r_nn ?_; refine r_retc ?_
      refine r_retA [_] rfl (res_blk 1 rfl rfl (by rfl)) (.cons _ (.cons _ (List.Sublist.refl _))) ⟨_, rfl, ?_⟩
      rw [hr]
      exact ⟨⟨x, _, rfl, hx'⟩, j, hj2, rfl⟩
  | true =>
  have hlt2 := tokAt_lt hk2
  rw [hk2] at hr
  simp only [if_true] at hr
  rw [(skip_yes (hp2.trans hk2)).1]
  refine r_nn ?_; refine r_cond_true rfl ?_; refine r_sr ?_; refine r_ev rfl rfl ?_
  refine r_callL 2 rfl rfl rfl (Type5_spec hb hkw g2 lv b (j + 1) hs1 (by omega)) ?_
  rintro v g3 r' hw hle3
  have hs3 := hs1.mono hle3
  cases hq3 : tread l .whole (j + 1) with
  | error p =>
    rw [hq3] at hw hr
    simp only at hr
    obtain ⟨⟨t, hty⟩, k, hj, rfl⟩ := hw
    obtain ⟨ta, tm, tc, rfl, ht⟩ := hty.cells5
    skip
    refine r_alloc rfl (fun b6 => ?_)
    refine r_storeA 0 rfl rfl rfl rfl (by rfl) (by repeat' (first | exact rfl | assumption | refine all_cons ?_ ?_)) rfl ?_; refine r_nn ?_; refine r_region ?_; refine r_ev rfl rfl ?_; refine r_loadB 1 rfl rfl rfl (by rfl) ?_
    refine r_buildSlice rfl rfl (by rfl) (by rfl) (by rfl) (by rfl) (by rfl) (fun b7 => ?_)
    refine r_publishRow (fun g4 hg4 hs4 => ?_)
    refine r_loadB 0 rfl rfl rfl (by rfl) ?_; refine r_build rfl rfl (by rfl) ?_; refine r_storeA 1 rfl rfl rfl rfl (by rfl) (by repeat' (first | exact rfl | assumption | refine all_cons ?_ ?_)) rfl ?_; refine r_nn ?_; refine r_sr ?_; refine r_ev rfl rfl ?_
    refine r_callL 3 rfl rfl rfl (Need5_spec g4 l hb lv (hs3.mono hg4) b (.bad k p) hj [41]) ?_
    rintro v g5 r' ⟨rfl, rfl⟩ _
    refine r_nn ?_; refine r_sr ?_; refine r_loadB 1 rfl rfl rfl (by rfl) ?_; refine r_storeA 2 rfl rfl rfl rfl (by rfl) (by repeat' (first | exact rfl | assumption | refine all_cons ?_ ?_)) rfl ?_; refine r_nn ?_; refine r_retc ?_
    refine r_retA [_] rfl (res_blk 2 rfl rfl (by rfl)) (.cons _ (.cons _ (.cons _ (List.Sublist.refl _)))) ⟨_, rfl, ?_⟩
    rw [hr]
    exact ⟨⟨annE (posOf l i) x t, annE_V g5 _ t hs4 ((hx'.mono hle3).mono hg4) (ht.mono hg4)⟩, k, hj, rfl⟩
  | ok q =>
  obtain ⟨t, k⟩ := q
  rw [hq3] at hw hr
  simp only at hr
  obtain ⟨hty, rfl, hk1, hk2'⟩ := hw
  obtain ⟨ta, tm, tc, rfl, ht⟩ := hty.cells5
  have hp4 : isAt l k [41] = markAt l k [41] := isAt_mark hkw (by decide) k
  skip
  refine r_alloc rfl (fun b6 => ?_)
  refine r_storeA 0 rfl rfl rfl rfl (by rfl) (by repeat' (first | exact rfl | assumption | refine all_cons ?_ ?_)) rfl ?_; refine r_nn ?_; refine r_region ?_; refine r_ev rfl rfl ?_; refine r_loadB 1 rfl rfl rfl (by rfl) ?_
  refine r_buildSlice rfl rfl (by rfl) (by rfl) (by rfl) (by rfl) (by rfl) (fun b7 => ?_)
  refine r_publishRow (fun g4 hg4 hs4 => ?_)
  refine r_loadB 0 rfl rfl rfl (by rfl) ?_; refine r_build rfl rfl (by rfl) ?_; refine r_storeA 1 rfl rfl rfl rfl (by rfl) (by repeat' (first | exact rfl | assumption | refine all_cons ?_ ?_)) rfl ?_; refine r_nn ?_; refine r_sr ?_; refine r_ev rfl rfl ?_
  refine r_callL 3 rfl rfl rfl (Need5_spec g4 l hb lv (hs3.mono hg4) b (.good k) hk2' [41]) ?_
  rintro v g5 r' ⟨rfl, rfl⟩ _
  cases hk4 : markAt l k [41] with
  | true =>
    have hlt4 := tokAt_lt hk4
    rw [hk4] at hr
    simp only [if_true] at hr
    rw [(skip_yes (hp4.trans hk4)).2.1]
    refine r_nn ?_; refine r_sr ?_; refine r_loadB 1 rfl rfl rfl (by rfl) ?_; refine r_storeA 2 rfl rfl rfl rfl (by rfl) (by repeat' (first | exact rfl | assumption | refine all_cons ?_ ?_)) rfl ?_; refine r_nn ?_; refine r_retc ?_
    refine r_retA [_] rfl (res_blk 2 rfl rfl (by rfl)) (.cons _ (.cons _ (.cons _ (List.Sublist.refl _)))) ⟨_, rfl, ?_⟩
    rw [hr, e3]
    exact ⟨annE_V g5 _ t hs4 ((hx'.mono hle3).mono hg4) (ht.mono hg4), rfl, by omega, by omega⟩
  | false =>
    rw [hk4] at hr
    simp only [Bool.false_eq_true, if_false] at hr
    rw [(skip_no (hp4.trans hk4)).2]
    refine r_nn ?_; refine r_sr ?_; refine r_loadB 1 rfl rfl rfl (by rfl) ?_; refine r_storeA 2 rfl rfl rfl rfl (by rfl) (by repeat' (first | exact rfl | assumption | refine all_cons ?_ ?_)) rfl ?_; refine r_nn ?_; refine r_retc ?_
    refine r_retA [_] rfl (res_blk 2 rfl rfl (by rfl)) (.cons _ (.cons _ (.cons _ (List.Sublist.refl _)))) ⟨_, rfl, ?_⟩
    rw [hr]
    exact ⟨⟨annE (posOf l i) x t, annE_V g5 _ t hs4 ((hx'.mono hle3).mono hg4) (ht.mono hg4)⟩, k, hk2', rfl⟩
end Go.Proofs.YtblbbjhbigpgnaaDoor
-- sum 74414eef30716fc0

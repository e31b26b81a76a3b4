/- Expressions in memory. -/
import Derived.Test.YtcapgcohhgjngaaGreatDoorK7
import Derived.Test.YtcapgcohhgjngaaGreatDoorK3
namespace Go.Proofs.YtcapgcohhgjngaaGreatDoor
open Go Go.Eng Go.Th Go.Proofs
/-- The cells of a list's elements, one behind the other. -/
def AllAt {α : Type} (R : α → List Value → Prop) : List α → List Value → Prop
  | [], xs => xs = []
  | a :: l, xs => ∃ c r, xs = c ++ r ∧ R a c ∧ AllAt R l r
theorem AllAt.mono {α : Type} {R R' : α → List Value → Prop} (h : ∀ a c, R a c → R' a c) : ∀ {l : List α} {xs : List Value}, AllAt R l xs → AllAt R' l xs
  | [], _, hx => hx
  | _ :: _, _, ⟨c, r, e, h1, h2⟩ => ⟨c, r, e, h _ _ h1, AllAt.mono h h2⟩
theorem AllAt.one {α : Type} {R : α → List Value → Prop} {sz : Nat} (h : ∀ a c, R a c → c.length = sz ∧ ∀ u ∈ c, oneC u = true) : ∀ {l : List α} {xs : List Value}, AllAt R l xs → xs.length = l.length * sz ∧ ∀ u ∈ xs, oneC u = true
  | [], xs, hx => by
    have : xs = [] := hx
    subst this; simp
  | a :: l, xs, hx => by
    obtain ⟨c, r, rfl, h1, h2⟩ := hx
    have i1 := h _ _ h1
    have i2 := AllAt.one h h2
    refine ⟨by rw [List.length_append, i1.1, i2.1, List.length_cons, Nat.add_mul]; omega, fun u hu => ?_⟩
    rcases List.mem_append.1 hu with hu | hu
    · exact i1.2 u hu
    · exact i2.2 u hu
theorem AllAt.snoc {α : Type} {R : α → List Value → Prop} {a : α} {c : List Value} (hc : R a c) : ∀ {l : List α} {xs : List Value}, AllAt R l xs → AllAt R (l ++ [a]) (xs ++ c)
  | [], xs, hx => by
    have : xs = [] := hx
    subst this
    exact ⟨c, [], by simp, hc, rfl⟩
  | b :: l, xs, hx => by
    obtain ⟨c', r, rfl, h1, h2⟩ := hx
    exact ⟨c', r ++ c, by simp, h1, AllAt.snoc hc h2⟩
theorem AllAt.get {α : Type} {R : α → List Value → Prop} {sz : Nat} (hR : ∀ a c, R a c → c.length = sz) : ∀ {l : List α} {xs : List Value}, AllAt R l xs → ∀ (i : Nat) (h : i < l.length), ∃ c, R l[i] c ∧ ∀ j x, c[j]? = some x → xs[i * sz + j]? = some x
  | [], _, _, i, h => by simp at h
  | a :: l, xs, hx, i, h => by
    obtain ⟨c, r, rfl, h1, h2⟩ := hx
    have hl := hR _ _ h1
    cases i with
    | zero =>
      refine ⟨c, h1, fun j x hj => ?_⟩
      have hjl := (List.getElem?_eq_some_iff.1 hj).1
      rw [Nat.zero_mul, Nat.zero_add, List.getElem?_append_left hjl]
      exact hj
    | succ i =>
      obtain ⟨c', h3, h4⟩ := AllAt.get hR h2 i (by simpa using h)
      refine ⟨c', h3, fun j x hj => ?_⟩
      rw [List.getElem?_append_right (by rw [hl, Nat.add_mul]; omega), hl, show (i + 1) * sz + j - sz = i * sz + j by rw [Nat.add_mul]; omega]
      exact h4 j x hj
mutual
/-- An expression's cells. -/
def ExAt (g : Ghost) : Ex → List Value → Prop
  | .mk k p n m ks ra t, cs => ∃ slk xk sla xa tc, cs = [.int .i64 k, .int .i64 p, str n, .int .i64 m, slk, sla] ++ tc ∧ SlAt g 11 slk ks.length xk ∧ ExsAt g ks xk ∧ SlAt g 14 sla ra.length xa ∧ ArsAt g ra xa ∧ TyAt g t tc
def ExsAt (g : Ghost) : List Ex → List Value → Prop
  | [], xs => xs = []
  | a :: l, xs => ∃ c r, xs = c ++ r ∧ ExAt g a c ∧ ExsAt g l r
def ArAt (g : Ghost) : Ar → List Value → Prop
  | .mk p c vs b, cs => ∃ slv bc, cs = [.int .i64 p, str c, slv] ++ bc ∧ SlAt g 1 slv vs.length (vs.map str) ∧ ExAt g b bc
def ArsAt (g : Ghost) : List Ar → List Value → Prop
  | [], xs => xs = []
  | a :: l, xs => ∃ c r, xs = c ++ r ∧ ArAt g a c ∧ ArsAt g l r
end
theorem exs_all {g : Ghost} : ∀ {l : List Ex} {xs : List Value}, ExsAt g l xs ↔ AllAt (ExAt g) l xs
  | [], xs => by unfold ExsAt AllAt; exact Iff.rfl
  | a :: l, xs => by
    unfold ExsAt AllAt
    constructor
    · rintro ⟨c, r, e, h1, h2⟩; exact ⟨c, r, e, h1, exs_all.1 h2⟩
    · rintro ⟨c, r, e, h1, h2⟩; exact ⟨c, r, e, h1, exs_all.2 h2⟩
theorem ars_all {g : Ghost} : ∀ {l : List Ar} {xs : List Value}, ArsAt g l xs ↔ AllAt (ArAt g) l xs
  | [], xs => by unfold ArsAt AllAt; exact Iff.rfl
  | a :: l, xs => by
    unfold ArsAt AllAt
    constructor
    · rintro ⟨c, r, e, h1, h2⟩; exact ⟨c, r, e, h1, ars_all.1 h2⟩
    · rintro ⟨c, r, e, h1, h2⟩; exact ⟨c, r, e, h1, ars_all.2 h2⟩
mutual
theorem ExAt.mono {g g' : Ghost} (hle : Ghost.le g g') : ∀ (e : Ex) (cs : List Value), ExAt g e cs → ExAt g' e cs
  | .mk k p n m ks ra t, cs, h => by
    unfold ExAt at h ⊢
    obtain ⟨slk, xk, sla, xa, tc, h1, h2, h3, h4, h5, h6⟩ := h
    exact ⟨slk, xk, sla, xa, tc, h1, h2.mono hle, ExsAt.mono hle ks xk h3, h4.mono hle, ArsAt.mono hle ra xa h5, h6.mono hle⟩
theorem ExsAt.mono {g g' : Ghost} (hle : Ghost.le g g') : ∀ (l : List Ex) (xs : List Value), ExsAt g l xs → ExsAt g' l xs
  | [], xs, h => by unfold ExsAt at h ⊢; exact h
  | a :: l, xs, h => by
    unfold ExsAt at h ⊢
    obtain ⟨c, r, h1, h2, h3⟩ := h
    exact ⟨c, r, h1, ExAt.mono hle a c h2, ExsAt.mono hle l r h3⟩
theorem ArAt.mono {g g' : Ghost} (hle : Ghost.le g g') : ∀ (a : Ar) (cs : List Value), ArAt g a cs → ArAt g' a cs
  | .mk p c vs b, cs, h => by
    unfold ArAt at h ⊢
    obtain ⟨slv, bc, h1, h2, h3⟩ := h
    exact ⟨slv, bc, h1, h2.mono hle, ExAt.mono hle b bc h3⟩
theorem ArsAt.mono {g g' : Ghost} (hle : Ghost.le g g') : ∀ (l : List Ar) (xs : List Value), ArsAt g l xs → ArsAt g' l xs
  | [], xs, h => by unfold ArsAt at h ⊢; exact h
  | a :: l, xs, h => by
    unfold ArsAt at h ⊢
    obtain ⟨c, r, h1, h2, h3⟩ := h
    exact ⟨c, r, h1, ArAt.mono hle a c h2, ArsAt.mono hle l r h3⟩
end
/-- An expression's cells in full. -/
theorem ExAt.form {g : Ghost} {e : Ex} {cs : List Value} (h : ExAt g e cs) : ∃ (a1 : Option Addr) (m1 c1 : Nat) (a2 : Option Addr) (m2 c2 : Nat) (a3 : Option Addr) (m3 c3 : Nat) (xk xa : List Value),
    cs = [.int .i64 e.kind, .int .i64 e.pos, str e.name, .int .i64 e.num, .slice a1 m1 c1, .slice a2 m2 c2, .int .i64 e.ty.kind, str e.ty.name, .int .i64 e.ty.id, .int .i64 e.ty.home, .slice a3 m3 c3] ∧
    SlAt g 11 (.slice a1 m1 c1) e.kids.length xk ∧ ExsAt g e.kids xk ∧ SlAt g 14 (.slice a2 m2 c2) e.arms.length xa ∧ ArsAt g e.arms xa ∧ TyAt g e.ty (tyCells e.ty (.slice a3 m3 c3)) := by
  cases e with
  | mk k p n m ks ra t =>
    unfold ExAt at h
    obtain ⟨slk, xk, sla, xa, tc, rfl, h2, h3, h4, h5, h6⟩ := h
    obtain ⟨sl, rfl⟩ := h6.cells
    obtain ⟨_, hsl, _⟩ := h6.args
    obtain ⟨a1, m1, c1, rfl⟩ := SlAt.form h2
    obtain ⟨a2, m2, c2, rfl⟩ := SlAt.form h4
    obtain ⟨a3, m3, c3, rfl⟩ := SlAt.form hsl
    exact ⟨a1, m1, c1, a2, m2, c2, a3, m3, c3, xk, xa, rfl, h2, h3, h4, h5, h6⟩
theorem ExAt.one {g : Ghost} {e : Ex} {cs : List Value} (h : ExAt g e cs) : cs.length = 11 ∧ ∀ u ∈ cs, oneC u = true := by
  obtain ⟨a1, m1, c1, a2, m2, c2, a3, m3, c3, xk, xa, rfl, _⟩ := h.form
  refine ⟨rfl, ?_⟩
  intro u hu
  simp only [List.mem_cons, List.not_mem_nil, or_false] at hu
  rcases hu with rfl | rfl | rfl | rfl | rfl | rfl | rfl | rfl | rfl | rfl | rfl <;> rfl
theorem ArAt.one {g : Ghost} {a : Ar} {cs : List Value} (h : ArAt g a cs) : cs.length = 14 ∧ ∀ u ∈ cs, oneC u = true := by
  cases a with
  | mk p c vs b =>
    unfold ArAt at h
    obtain ⟨slv, bc, rfl, h2, h3⟩ := h
    have h4 := h3.one
    obtain ⟨a1, m1, c1, rfl⟩ := SlAt.form h2
    refine ⟨by rw [List.length_append, h4.1]; rfl, ?_⟩
    intro u hu
    rcases List.mem_append.1 hu with hu | hu
    · simp only [List.mem_cons, List.not_mem_nil, or_false] at hu
      rcases hu with rfl | rfl | rfl <;> rfl
    · exact h4.2 u hu
/-- An expression as a value. -/
def ExV (g : Ghost) (v : Value) (e : Ex) : Prop := ∃ cs, v = .agg cs.toArray ∧ ExAt g e cs
theorem ExV.mono {g g' : Ghost} (hle : Ghost.le g g') {v : Value} {e : Ex} (h : ExV g v e) : ExV g' v e := by
  obtain ⟨cs, h1, h2⟩ := h
  exact ⟨cs, h1, h2.mono hle⟩
theorem ExAt.mk {g : Ghost} {e : Ex} {slk sla sl : Value} {xk xa : List Value} (h1 : SlAt g 11 slk e.kids.length xk) (h2 : ExsAt g e.kids xk) (h3 : SlAt g 14 sla e.arms.length xa) (h4 : ArsAt g e.arms xa) (h5 : TyAt g e.ty (tyCells e.ty sl)) :
    ExAt g e ([.int .i64 e.kind, .int .i64 e.pos, str e.name, .int .i64 e.num, slk, sla] ++ tyCells e.ty sl) := by
  cases e with
  | mk k p n m ks ra t => unfold ExAt; exact ⟨slk, xk, sla, xa, _, rfl, h1, h2, h3, h4, h5⟩
end Go.Proofs.YtcapgcohhgjngaaGreatDoor
-- sum fc286b758d01791e
/- The walks of the reference's reader of expressions (typedholesref6): Starts, number, and what a failed reader gives. -/
namespace Go.Th
theorem numOf_snoc (s : Bytes) (c : UInt8) : numOf (s ++ [c]) = 10 * numOf s + (c.toNat - 48 : Int) := by
  simp [numOf, List.foldl_append]
theorem numOf_succ {s : Bytes} {k : Nat} (h : k < s.length) : numOf (s.take (k + 1)) = 10 * numOf (s.take k) + ((s[k]).toNat - 48 : Int) := by
  rw [List.take_succ_eq_append_getElem h, numOf_snoc]
theorem numOf_bound {s : Bytes} (h : ∀ c ∈ s, digit c = true) : ∀ k : Nat, k ≤ s.length → 0 ≤ numOf (s.take k) ∧ numOf (s.take k) < (10 ^ k : Nat)
  | 0, _ => by simp [numOf]
  | k + 1, hk => by
    have ih := numOf_bound h k (by omega)
    have hd := h _ (List.getElem_mem (show k < s.length by omega))
    simp only [digit, Bool.and_eq_true, decide_eq_true_eq] at hd
    rw [numOf_succ (by omega), Nat.pow_succ]
    omega
end Go.Th
namespace Go.Eng
open Go Go.RowKit
section
variable {P : Program} {E : Env} {n : Nat} {L : Slots} {g : Ghost} {own : List Res} {Q : Exit → Act → World → Prop} {ops : Array Oper} {rest : List Oper}
variable {d : Nat} {ty : TypeId} {pos : String} {after : Array Edge}
theorem val_sub8 {x y : Operand} {T T' : TypeId} {p q : Int} (hx : ev L x = some (.int .u8 p)) (hy : ev L y = some (.int .u8 q))
    (hb : 0 ≤ p - q ∧ p - q ≤ 255) : Val P E n L g own ty (.binOp .sub T x y T') (.int .u8 (p - q)) := fun a w dst pos after hF _ => by simp [execOp, hF.eval hx, hF.eval hy, eqGuard, binOp, Op.intArith, IntWalk.u8_in _ hb]
end
end Go.Eng
namespace Go.Proofs.YtcapgcohhgjngaaGreatDoor
open Go Go.Eng Go.Th Go.Proofs
set_option maxRecDepth 10000
set_option maxHeartbeats 4000000
attribute [local irreducible] wpList Code.wp Run bodyPost Go.Eng.Ends Exit.then Exit.inBlock Again Wq Kq
theorem startsE6_spec (g : Ghost) (t : Tok) : Pure Tryz.prog 105 [tokV t] g (.bool (startsE t)) := by
  refine spec_of_run Tryz.func105 rfl Tryz.ntmps105 rfl fun E hE => ?_
  refine r_sr ?_
  refine r_box rfl rfl rfl (fun b1 => ?_)
  refine r_ev rfl rfl ?_; refine r_nn ?_; refine r_seq ?_; refine r_sr ?_; refine r_fieldAddr rfl rfl ?_; refine r_loadB1 0 rfl rfl rfl rfl ?_; refine r_nn ?_; refine r_block ?_; refine r_seq ?_; refine r_sr ?_; refine r_ev rfl rfl ?_; refine r_ev rfl rfl ?_; refine r_nn ?_
  refine r_cond rfl (fun h1 => ?_) (fun h1 => ?_)
  · refine r_skip ?_; refine r_then_normal ?_
    refine r_cond rfl (fun k1 => ?_) (fun k1 => ?_)
    · refine r_sr ?_; refine r_ev rfl rfl ?_; refine r_nn ?_; refine r_retc ?_; refine r_in_ret ?_; refine r_then_ret ?_
      exact r_ret1 [] rfl rfl (by simp) ⟨by simp [startsE, h1], rfl, rfl⟩
    · exact absurd h1 k1
  refine r_sr ?_; refine r_ev rfl rfl ?_; refine r_ev rfl rfl ?_; refine r_nn ?_
  refine r_cond rfl (fun h2 => ?_) (fun h2 => ?_)
  · refine r_skip ?_; refine r_then_normal ?_
    refine r_cond rfl (fun k2 => ?_) (fun k2 => ?_)
    · refine r_sr ?_; refine r_ev rfl rfl ?_; refine r_nn ?_; refine r_retc ?_; refine r_in_ret ?_; refine r_then_ret ?_
      exact r_ret1 [] rfl rfl (by simp) ⟨by simp [startsE, h2], rfl, rfl⟩
    · exact absurd h2 k2
  refine r_region ?_; refine r_ev rfl rfl ?_; refine r_ev rfl rfl ?_; refine r_nn ?_
  refine r_cond rfl (fun h3 => ?_) (fun h3 => ?_)
  · refine r_sr ?_; refine r_ev rfl rfl ?_; refine r_nn ?_; refine r_retc ?_; refine r_in_ret ?_; refine r_then_ret ?_
    exact r_ret1 [] rfl rfl (by simp) ⟨by simp [startsE, h3], rfl, rfl⟩
  refine r_sr ?_; refine r_ev rfl rfl ?_; refine r_ev rfl rfl ?_; refine r_nn ?_
  refine r_cond rfl (fun h5 => ?_) (fun h5 => ?_)
  · refine r_sr ?_; refine r_fieldAddr rfl rfl ?_; refine r_loadB1 0 rfl rfl rfl rfl ?_; refine r_ev rfl rfl ?_; refine r_ev rfl rfl ?_
    refine r_gdec rfl rfl (fun h6 => ?_) (fun h6 => ?_)
    · refine r_pass rfl rfl rfl ?_; refine r_pass rfl rfl rfl ?_; refine r_pass rfl rfl rfl ?_; refine r_ev rfl rfl ?_; refine r_ev rfl rfl ?_; refine r_pass rfl rfl rfl ?_; refine r_pass rfl rfl rfl ?_; refine r_pass rfl rfl rfl ?_; refine r_ev rfl rfl ?_; refine r_ev rfl rfl ?_; refine r_nn ?_; refine r_retc ?_; refine r_in_ret ?_; refine r_then_ret ?_
      exact r_ret1 [] rfl rfl (by simp) ⟨by simp [startsE, h5, h6], rfl, rfl⟩
    refine r_take rfl ?_; refine r_fieldAddr rfl rfl ?_; refine r_take rfl ?_; refine r_loadB1 0 rfl rfl rfl rfl ?_; refine r_tev rfl rfl rfl ?_; refine r_ev rfl rfl ?_; refine r_ev rfl rfl ?_
    refine r_gdec rfl rfl (fun h7 => ?_) (fun h7 => ?_)
    · refine r_pass rfl rfl rfl ?_; refine r_pass rfl rfl rfl ?_; refine r_pass rfl rfl rfl ?_; refine r_ev rfl rfl ?_; refine r_ev rfl rfl ?_; refine r_nn ?_; refine r_retc ?_; refine r_in_ret ?_; refine r_then_ret ?_
      exact r_ret1 [] rfl rfl (by simp) ⟨by simp [startsE, h5, h7], rfl, rfl⟩
    refine r_take rfl ?_; refine r_fieldAddr rfl rfl ?_; refine r_take rfl ?_; refine r_loadB1 0 rfl rfl rfl rfl ?_; refine r_tev rfl rfl rfl ?_; refine r_ev rfl rfl ?_; refine r_ev rfl rfl ?_; refine r_nn ?_; refine r_retc ?_; refine r_in_ret ?_; refine r_then_ret ?_
    exact r_ret1 [] rfl rfl (by simp) ⟨by simp [startsE, h5, h6, h7], rfl, rfl⟩
  · refine r_skip ?_; refine r_in_normal ?_; refine r_then_normal ?_; refine r_sr ?_; refine r_ev rfl rfl ?_; refine r_nn ?_; refine r_retc ?_
    exact r_ret1 [] rfl rfl (by simp) ⟨by simp [startsE, h1, h2, h3, h5], rfl, rfl⟩
theorem number_spec (g : Ghost) (s : Bytes) (hs : s.length ≤ 9) (hd : ∀ c ∈ s, digit c = true) : Pure Tryz.prog 144 [str s] g (.int .i64 (numOf s)) := by
  refine spec_of_run Tryz.func144 rfl Tryz.ntmps144 rfl fun E hE => ?_
  refine r_sr ?_; refine r_ev rfl rfl ?_; refine r_nn ?_; refine r_sr ?_; refine r_ev rfl rfl ?_; refine r_nn ?_; refine r_seq ?_; refine r_sr ?_; refine r_ev rfl rfl ?_; refine r_nn ?_; refine r_block ?_
  refine r_loop (ι := Nat) (fun k => [(0, str s), (3, .int .i64 (numOf (s.take k))), (4, .int .i64 k)]) (fun _ => g) (fun _ => []) (fun k => k ≤ s.length) (fun k => s.length - k) 0 (by omega) ⟨rfl, rfl, rfl, trivial⟩ rfl rfl ?_
  intro k hk
  have hb := numOf_bound hd k hk
  have h9 : 10 ^ k ≤ 10 ^ 9 := Nat.pow_le_pow_right (by omega) (by omega)
  have h99 : (10 : Nat) ^ 9 = 1000000000 := rfl
  refine r_seq ?_; refine r_sr ?_; refine r_ev rfl rfl ?_; refine r_ev rfl rfl ?_; refine r_len_str rfl rfl ?_; refine r_ev rfl rfl ?_; refine r_nn ?_
  refine r_cond rfl (fun hlt => ?_) (fun hlt => ?_)
  · have hlt' : k < s.length := by omega
    have hc := hd _ (List.getElem_mem hlt')
    simp only [digit, Bool.and_eq_true, decide_eq_true_eq] at hc
    have hsucc := numOf_succ hlt'
    refine r_skip ?_; refine r_then_normal ?_; refine r_seq ?_; refine r_block ?_; refine r_region ?_; refine r_ev rfl rfl ?_
    refine r_mul rfl rfl rfl (by omega) ?_
    refine r_ev rfl rfl ?_; refine r_ev rfl rfl ?_; refine r_index_str rfl rfl rfl rfl (by omega) ?_
    refine r_v rfl (val_sub8 rfl rfl (by omega)) ?_
    refine r_conv_i64 rfl rfl (by omega) ?_
    refine r_add rfl rfl rfl (by omega) ?_; refine r_ev rfl rfl ?_; refine r_nil ?_; refine r_in_normal ?_; refine r_then_normal ?_; refine r_region ?_; refine r_ev rfl rfl ?_; refine r_add rfl rfl rfl (by omega) ?_; refine r_ev rfl rfl ?_; refine r_nn ?_
    exact r_again (k + 1) (by omega) (by omega) ⟨rfl, by rw [hsucc]; rfl, rfl, trivial⟩ rfl rfl
  · have hkl : k = s.length := by omega
    subst hkl
    refine r_exit ?_; refine r_then_exit ?_; refine r_then_exit ?_; refine r_in_exit ?_; refine r_then_normal ?_; refine r_sr ?_; refine r_ev rfl rfl ?_; refine r_ev rfl rfl ?_; refine r_nn ?_; refine r_retc ?_
    exact r_ret1 [] rfl rfl (by simp) ⟨by rw [List.take_length], rfl, rfl⟩
end Go.Proofs.YtcapgcohhgjngaaGreatDoor
-- sum c411e9912e6f70d5
/- The walks of the reference's reader of expressions: a failed reader. -/
namespace Go.Proofs.YtcapgcohhgjngaaGreatDoor
open Go Go.Eng Go.Th Go.Proofs
set_option maxRecDepth 10000
set_option maxHeartbeats 4000000
attribute [local irreducible] wpList Code.wp Run bodyPost Go.Eng.Ends Exit.then Exit.inBlock Again Wq Kq
abbrev noEv : Value := .agg #[.int .i64 0, .int .i64 0, str [], .int .i64 0, .slice none 0 0, .slice none 0 0, .int .i64 0, str [], .int .i64 0, .int .i64 0, .slice none 0 0]
theorem noE_V (g : Ghost) : ExV g noEv noE := ⟨_, rfl, ExAt.mk (e := noE) (slNil g 11) (by unfold ExsAt; rfl) (slNil g 14) (by unfold ArsAt; rfl) (TyAt.mk (t := noT) (slNil g 5) (tysNil g))⟩
theorem atom6_bad (g : Ghost) (l : List Tok) (hb : TB l) (lv : Value) (hs : ToksAt g lv l) (b i : Nat) (hi : i ≤ l.length) (p : Int) : SpecL Tryz.prog 104 [ptr b 0] g (rdB b lv (.bad i p)) fun v g' r' => v = noEv ∧ g' = g ∧ r' = rdB b lv (.bad i p) := by
  refine spec_of_run Tryz.func104 rfl Tryz.ntmps104 rfl fun E hE => ?_
  refine r_sr ?_
  refine r_alloc rfl (fun b2 => ?_)
  refine r_nn ?_; refine r_sr ?_; refine r_ev rfl rfl ?_
  refine r_callO 1 rfl rfl rfl (Pos5_spec g l lv hs b (.bad i p)) ?_
  refine r_ev rfl rfl ?_; refine r_nn ?_; refine r_seq ?_; refine r_block ?_; refine r_sr ?_; refine r_ev rfl rfl ?_
  refine r_callO 1 rfl rfl rfl (Kind5_spec g l lv hs b (.bad i p) 1) ?_
  refine r_ev rfl rfl ?_; refine r_nn ?_; refine r_cond_false rfl ?_; refine r_sr ?_; refine r_ev rfl rfl ?_
  refine r_callO 1 rfl rfl rfl (Kind5_spec g l lv hs b (.bad i p) 2) ?_
  refine r_ev rfl rfl ?_; refine r_nn ?_; refine r_cond_false rfl ?_; refine r_sr ?_; refine r_ev rfl rfl ?_
  refine r_callO 1 rfl rfl rfl (Kind5_spec g l lv hs b (.bad i p) 3) ?_
  refine r_ev rfl rfl ?_; refine r_nn ?_; refine r_cond_false rfl ?_; refine r_sr ?_; refine r_ev rfl rfl ?_
  refine r_callL 1 rfl rfl rfl (Skip5_spec g l hb lv hs b (.bad i p) hi [63]) ?_
  rintro v g' r' ⟨rfl, rfl, rfl⟩ _
  refine r_ev rfl rfl ?_; refine r_nn ?_; refine r_cond_false rfl ?_; refine r_sr ?_; refine r_ev rfl rfl ?_
  refine r_callL 1 rfl rfl rfl (Skip5_spec g' l hb lv hs b (.bad i p) hi [123]) ?_
  rintro v g' r' ⟨rfl, rfl, rfl⟩ _
  refine r_ev rfl rfl ?_; refine r_nn ?_; refine r_cond_false rfl ?_; refine r_skip ?_; refine r_in_normal ?_; refine r_then_normal ?_; refine r_sr ?_; refine r_ev rfl rfl ?_
  refine r_callL 1 rfl rfl rfl (Need5_spec g' l hb lv hs b (.bad i p) hi [40]) ?_
  rintro v g' r' ⟨rfl, rfl⟩ _
  refine r_nn ?_; refine r_seq ?_; refine r_sr ?_; refine r_ev rfl rfl ?_; refine r_ev rfl rfl ?_; refine r_fieldAddr rfl rfl ?_; refine r_loadB1 1 rfl rfl rfl rfl ?_; refine r_nn ?_; refine r_cond_true rfl ?_; refine r_sr ?_; refine r_build rfl rfl (by rfl) ?_; refine r_storeA 0 rfl rfl rfl rfl (by rfl) (by repeat' (first | exact rfl | assumption | refine all_cons ?_ ?_)) rfl ?_; refine r_nn ?_; refine r_retc ?_; refine r_then_ret ?_
  exact r_retA [_] rfl (res_blk 0 rfl rfl (by rfl)) (.cons _ (List.Sublist.refl _)) ⟨_, rfl, rfl, rfl, rfl⟩
theorem Read6_bad (g : Ghost) (l : List Tok) (hb : TB l) (lv : Value) (hs : ToksAt g lv l) (b i : Nat) (hi : i ≤ l.length) (p : Int) : SpecL Tryz.prog 55 [ptr b 0] g (rdB b lv (.bad i p)) fun v g' r' => v = noEv ∧ g' = g ∧ r' = rdB b lv (.bad i p) := by
  obtain ⟨sa, sc, rfl⟩ := slForm2 hs
  refine spec_of_run Tryz.func55 rfl Tryz.ntmps55 rfl fun E hE => ?_
  refine r_sr ?_
  refine r_alloc rfl (fun b2 => ?_)
  refine r_nn ?_; refine r_sr ?_; refine r_ev rfl rfl ?_
  refine r_callO 1 rfl rfl rfl (Pos5_spec g l _ hs b (.bad i p)) ?_
  refine r_ev rfl rfl ?_; refine r_nn ?_; refine r_seq ?_; refine r_block ?_; refine r_sr ?_; refine r_ev rfl rfl ?_
  refine r_callL 1 rfl rfl rfl (Skip5_spec g l hb _ hs b (.bad i p) hi [92]) ?_
  rintro v g' r' ⟨rfl, rfl, rfl⟩ _
  refine r_ev rfl rfl ?_; refine r_nn ?_; refine r_cond_false rfl ?_; refine r_sr ?_; refine r_ev rfl rfl ?_
  refine r_callL 1 rfl rfl rfl (Skip5_spec g' l hb _ hs b (.bad i p) hi letB) ?_
  rintro v g' r' ⟨rfl, rfl, rfl⟩ _
  refine r_ev rfl rfl ?_; refine r_nn ?_; refine r_cond_false rfl ?_; refine r_sr ?_; refine r_ev rfl rfl ?_
  refine r_callL 1 rfl rfl rfl (Skip5_spec g' l hb _ hs b (.bad i p) hi caseB) ?_
  rintro v g' r' ⟨rfl, rfl, rfl⟩ _
  refine r_ev rfl rfl ?_; refine r_nn ?_; refine r_cond_false rfl ?_; refine r_skip ?_; refine r_in_normal ?_; refine r_then_normal ?_; refine r_sr ?_; refine r_ev rfl rfl ?_
  refine r_callL 1 rfl rfl rfl (atom6_bad g' l hb _ hs b i hi p) ?_
  rintro v g' r' ⟨rfl, rfl, rfl⟩ _
  skip
  refine r_alloc rfl (fun b8 => ?_)
  refine r_storeA 0 rfl rfl rfl rfl (by rfl) (by repeat' (first | exact rfl | assumption | refine all_cons ?_ ?_)) rfl ?_; refine r_nn ?_; refine r_seq ?_; refine r_block ?_
  refine r_loop (ι := Unit) (fun _ => [(0, ptr b 0), (2, ptr b2 0), (8, ptr b8 0)]) (fun _ => g') (fun _ => [.blk b8 34 [.int .i64 0, .int .i64 0, str [], .int .i64 0, .slice none 0 0, .slice none 0 0, .int .i64 0, str [], .int .i64 0, .int .i64 0, .slice none 0 0], .blk b2 34 [.int .i64 0, .int .i64 0, str [], .int .i64 0, .slice none 0 0, .slice none 0 0, .int .i64 0, str [], .int .i64 0, .int .i64 0, .slice none 0 0], rdB b (.slice sa l.length sc) (.bad i p)]) (fun _ => True) (fun _ => 0) () trivial ⟨rfl, rfl, rfl, trivial⟩ rfl rfl ?_
  rintro _ -
  refine r_seq ?_; refine r_seq ?_
  refine h_beginE [] mixed (fun hG => ?_)
  refine h_takeX 0 rfl (by kernel_rfl) rfl hG (by first | exact Ghost.le_refl _ | assumption) (by repeat' (first | exact List.nil_sublist _ | refine List.Sublist.cons_cons _ ?_ | refine List.Sublist.cons _ ?_)) ?_; refine ⟨_, (val_ev rfl), ?_⟩; refine h_takeX 1 rfl (by kernel_rfl) rfl hG (by first | exact Ghost.le_refl _ | assumption) (by repeat' (first | exact List.nil_sublist _ | refine List.Sublist.cons_cons _ ?_ | refine List.Sublist.cons _ ?_)) ?_; refine ⟨_, (val_ev rfl), ?_⟩; refine h_takeX 2 rfl (by kernel_rfl) rfl hG (by first | exact Ghost.le_refl _ | assumption) (by repeat' (first | exact List.nil_sublist _ | refine List.Sublist.cons_cons _ ?_ | refine List.Sublist.cons _ ?_)) ?_; refine ⟨_, (val_fieldAddr rfl), ?_⟩; refine h_takeX 3 rfl (by kernel_rfl) rfl hG (by first | exact Ghost.le_refl _ | assumption) (by repeat' (first | exact List.nil_sublist _ | refine List.Sublist.cons_cons _ ?_ | refine List.Sublist.cons _ ?_)) ?_; refine ⟨_, (val_loadB1 2 rfl rfl rfl), ?_⟩; refine h_takeX 4 rfl (by kernel_rfl) rfl hG (by first | exact Ghost.le_refl _ | assumption) (by repeat' (first | exact List.nil_sublist _ | refine List.Sublist.cons_cons _ ?_ | refine List.Sublist.cons _ ?_)) ?_; refine ⟨_, (val_ev rfl), ?_⟩; refine h_takeX 5 rfl (by kernel_rfl) rfl hG (by first | exact Ghost.le_refl _ | assumption) (by repeat' (first | exact List.nil_sublist _ | refine List.Sublist.cons_cons _ ?_ | refine List.Sublist.cons _ ?_)) ?_; refine ⟨_, (val_ev rfl), ?_⟩; refine h_pass 6 rfl rfl rfl (by kernel_rfl) rfl hG (by first | exact Ghost.le_refl _ | assumption) (by repeat' (first | exact List.nil_sublist _ | refine List.Sublist.cons_cons _ ?_ | refine List.Sublist.cons _ ?_)) ?_; refine h_pass 7 rfl rfl rfl (by kernel_rfl) rfl hG (by first | exact Ghost.le_refl _ | assumption) (by repeat' (first | exact List.nil_sublist _ | refine List.Sublist.cons_cons _ ?_ | refine List.Sublist.cons _ ?_)) ?_; refine h_pass 8 rfl rfl rfl (by kernel_rfl) rfl hG (by first | exact Ghost.le_refl _ | assumption) (by repeat' (first | exact List.nil_sublist _ | refine List.Sublist.cons_cons _ ?_ | refine List.Sublist.cons _ ?_)) ?_; refine h_pass 9 rfl rfl rfl (by kernel_rfl) rfl hG (by first | exact Ghost.le_refl _ | assumption) (by repeat' (first | exact List.nil_sublist _ | refine List.Sublist.cons_cons _ ?_ | refine List.Sublist.cons _ ?_)) ?_; refine h_pass 10 rfl rfl rfl (by kernel_rfl) rfl hG (by first | exact Ghost.le_refl _ | assumption) (by repeat' (first | exact List.nil_sublist _ | refine List.Sublist.cons_cons _ ?_ | refine List.Sublist.cons _ ?_)) ?_; refine h_pass 11 rfl rfl rfl (by kernel_rfl) rfl hG (by first | exact Ghost.le_refl _ | assumption) (by repeat' (first | exact List.nil_sublist _ | refine List.Sublist.cons_cons _ ?_ | refine List.Sublist.cons _ ?_)) ?_; refine h_pass 12 rfl rfl rfl (by kernel_rfl) rfl hG (by first | exact Ghost.le_refl _ | assumption) (by repeat' (first | exact List.nil_sublist _ | refine List.Sublist.cons_cons _ ?_ | refine List.Sublist.cons _ ?_)) ?_; refine h_pass 13 rfl rfl rfl (by kernel_rfl) rfl hG (by first | exact Ghost.le_refl _ | assumption) (by repeat' (first | exact List.nil_sublist _ | refine List.Sublist.cons_cons _ ?_ | refine List.Sublist.cons _ ?_)) ?_; refine h_pass 14 rfl rfl rfl (by kernel_rfl) rfl hG (by first | exact Ghost.le_refl _ | assumption) (by repeat' (first | exact List.nil_sublist _ | refine List.Sublist.cons_cons _ ?_ | refine List.Sublist.cons _ ?_)) ?_; refine h_pass 15 rfl rfl rfl (by kernel_rfl) rfl hG (by first | exact Ghost.le_refl _ | assumption) (by repeat' (first | exact List.nil_sublist _ | refine List.Sublist.cons_cons _ ?_ | refine List.Sublist.cons _ ?_)) ?_; refine h_takeX 16 rfl (by kernel_rfl) rfl hG (by first | exact Ghost.le_refl _ | assumption) (by repeat' (first | exact List.nil_sublist _ | refine List.Sublist.cons_cons _ ?_ | refine List.Sublist.cons _ ?_)) ?_; refine ⟨_, (val_ev rfl), ?_⟩; refine h_takeX 17 rfl (by kernel_rfl) rfl hG (by first | exact Ghost.le_refl _ | assumption) (by repeat' (first | exact List.nil_sublist _ | refine List.Sublist.cons_cons _ ?_ | refine List.Sublist.cons _ ?_)) ?_; refine ⟨_, (val_ev rfl), ?_⟩; refine h_pass 18 rfl rfl rfl (by kernel_rfl) rfl hG (by first | exact Ghost.le_refl _ | assumption) (by repeat' (first | exact List.nil_sublist _ | refine List.Sublist.cons_cons _ ?_ | refine List.Sublist.cons _ ?_)) ?_; refine h_pass 19 rfl rfl rfl (by kernel_rfl) rfl hG (by first | exact Ghost.le_refl _ | assumption) (by repeat' (first | exact List.nil_sublist _ | refine List.Sublist.cons_cons _ ?_ | refine List.Sublist.cons _ ?_)) ?_; refine h_pass 20 rfl rfl rfl (by kernel_rfl) rfl hG (by first | exact Ghost.le_refl _ | assumption) (by repeat' (first | exact List.nil_sublist _ | refine List.Sublist.cons_cons _ ?_ | refine List.Sublist.cons _ ?_)) ?_; refine h_pass 21 rfl rfl rfl (by kernel_rfl) rfl hG (by first | exact Ghost.le_refl _ | assumption) (by repeat' (first | exact List.nil_sublist _ | refine List.Sublist.cons_cons _ ?_ | refine List.Sublist.cons _ ?_)) ?_; refine h_pass 22 rfl rfl rfl (by kernel_rfl) rfl hG (by first | exact Ghost.le_refl _ | assumption) (by repeat' (first | exact List.nil_sublist _ | refine List.Sublist.cons_cons _ ?_ | refine List.Sublist.cons _ ?_)) ?_; refine h_pass 23 rfl rfl rfl (by kernel_rfl) rfl hG (by first | exact Ghost.le_refl _ | assumption) (by repeat' (first | exact List.nil_sublist _ | refine List.Sublist.cons_cons _ ?_ | refine List.Sublist.cons _ ?_)) ?_; refine h_pass 24 rfl rfl rfl (by kernel_rfl) rfl hG (by first | exact Ghost.le_refl _ | assumption) (by repeat' (first | exact List.nil_sublist _ | refine List.Sublist.cons_cons _ ?_ | refine List.Sublist.cons _ ?_)) ?_; refine h_pass 25 rfl rfl rfl (by kernel_rfl) rfl hG (by first | exact Ghost.le_refl _ | assumption) (by repeat' (first | exact List.nil_sublist _ | refine List.Sublist.cons_cons _ ?_ | refine List.Sublist.cons _ ?_)) ?_; refine h_pass 26 rfl rfl rfl (by kernel_rfl) rfl hG (by first | exact Ghost.le_refl _ | assumption) (by repeat' (first | exact List.nil_sublist _ | refine List.Sublist.cons_cons _ ?_ | refine List.Sublist.cons _ ?_)) ?_; refine h_pass 27 rfl rfl rfl (by kernel_rfl) rfl hG (by first | exact Ghost.le_refl _ | assumption) (by repeat' (first | exact List.nil_sublist _ | refine List.Sublist.cons_cons _ ?_ | refine List.Sublist.cons _ ?_)) ?_; refine h_pass 28 rfl rfl rfl (by kernel_rfl) rfl hG (by first | exact Ghost.le_refl _ | assumption) (by repeat' (first | exact List.nil_sublist _ | refine List.Sublist.cons_cons _ ?_ | refine List.Sublist.cons _ ?_)) ?_; refine h_takeX 29 rfl (by kernel_rfl) rfl hG (by first | exact Ghost.le_refl _ | assumption) (by repeat' (first | exact List.nil_sublist _ | refine List.Sublist.cons_cons _ ?_ | refine List.Sublist.cons _ ?_)) ?_; refine ⟨_, (val_ev rfl), ?_⟩
  refine h_done (by kernel_rfl) ?_
  refine r_then_normal ?_; refine r_cond_false rfl ?_; refine r_exit ?_; refine r_then_exit ?_; refine r_then_exit ?_; refine r_in_exit ?_; refine r_then_normal ?_; refine r_sr ?_; refine r_loadB 0 rfl rfl rfl (by rfl) ?_; refine r_storeA 1 rfl rfl rfl rfl (by rfl) (by repeat' (first | exact rfl | assumption | refine all_cons ?_ ?_)) rfl ?_; refine r_nn ?_; refine r_retc ?_
  exact r_retA [_] rfl (res_blk 1 rfl rfl (by rfl)) (.cons _ (.cons _ (List.Sublist.refl _))) ⟨_, rfl, rfl, rfl, rfl⟩
end Go.Proofs.YtcapgcohhgjngaaGreatDoor
-- sum d32386a7d92d5f71
/- Expressions in plain words: what is read moves on; the reading without guards. No program in sight. -/
namespace Go.Th
theorem ecall_ok {l : List Tok} {f : EQ → Nat → ER} {q q' : EQ} {i i' : Nat} {x : Ex × Nat} (h : ecall l f q i q' i' = .ok x) : emu l q' i' < emu l q i ∧ f q' i' = .ok x := by
  unfold ecall at h
  split at h
  · rename_i hlt; exact ⟨hlt, h⟩
  · cases h
def EQ.moves : EQ → Bool
  | .apps _ => false
  | _ => true
/-- What is read as a type moves on. -/
theorem tread_prog (l : List Tok) : ∀ (N : Nat) (q : TQ) (i : Nat) (x : Ty × Nat), tmu l q i < N → tread l q i = .ok x → i ≤ x.2
  | 0, _, _, _, h, _ => by omega
  | N + 1, q, i, x, hN, h => by
    have ih := tread_prog l N
    cases q with
    | atom =>
      rw [tread_atom] at h
      split at h
      · cases h
      · rename_i t ht
        have hi := (List.getElem?_eq_some_iff.1 ht).1
        split at h
        · cases h; simp
        · split at h
          · cases h; simp
          · split at h
            · split at h
              · cases h
              · rename_i y j h1
                have i1 := ih .whole (i + 1) (y, j) (by simp only [tmu, TQ.rank] at *; omega) h1
                split at h
                · cases h; simp only at *; omega
                · cases h
            · cases h
    | args n acc =>
      rw [tread_args] at h
      split at h
      · rename_i hs
        have hi := startsAt_lt hs
        split at h
        · cases h
        · rename_i y j h1
          split at h
          · rename_i hij
            have i1 := ih _ j x (by simp only [tmu, TQ.rank] at *; omega) h
            omega
          · cases h
      · cases h; simp
    | applied =>
      rw [tread_applied] at h
      split at h
      · rename_i t ht
        have hi := (List.getElem?_eq_some_iff.1 ht).1
        split at h
        · have i1 := ih _ (i + 1) x (by simp only [tmu, TQ.rank] at *; omega) h
          omega
        · exact ih _ i x (by simp only [tmu, TQ.rank] at *; omega) h
      · exact ih _ i x (by simp only [tmu, TQ.rank] at *; omega) h
    | whole =>
      rw [tread_whole] at h
      split at h
      · cases h
      · rename_i a j h1
        have i1 := ih _ i (a, j) (by simp only [tmu, TQ.rank] at *; omega) h1
        simp only at i1
        split at h
        · rename_i hm
          have hj := tokAt_lt hm
          split at h
          · split at h
            · cases h
            · rename_i b k h2
              have i2 := ih _ (j + 1) (b, k) (by simp only [tmu, TQ.rank] at *; omega) h2
              cases h
              simp only at *; omega
          · cases h
        · cases h; exact i1
theorem let_prog {l : List Tok} {f : EQ → Nat → ER} {k p : Int} {i : Nat} {e : Ex} {j : Nat} (hf : ∀ q i e j, f q i = .ok (e, j) → i ≤ j) (h : letStep l f k p i = .ok (e, j)) : i < j := by
  unfold letStep at h
  split at h
  · cases h
  · split at h
    · split at h
      · cases h
      · rename_i a k1 h1
        have i1 := hf _ _ _ _ h1
        split at h
        · split at h
          · cases h
          · rename_i b m h2
            have i2 := hf _ _ _ _ h2
            cases h
            omega
        · cases h
    · cases h
theorem eread_prog (l : List Tok) : ∀ (N : Nat) (q : EQ) (i : Nat) (e : Ex) (j : Nat), emu l q i < N → eread l q i = .ok (e, j) → i ≤ j ∧ (q.moves = true → i < j)
  | 0, _, _, _, _, h, _ => by omega
  | N + 1, q, i, e, j, hN, h => by
    have ih := eread_prog l N
    rw [eread_eq] at h
    have hf : ∀ q' i' e' j', ecall l (eread l) q i q' i' = .ok (e', j') → i' ≤ j' ∧ (q'.moves = true → i' < j') := fun q' i' e' j' hc => by
      obtain ⟨h1, h2⟩ := ecall_ok hc
      exact ih q' i' e' j' (by omega) h2
    have hf1 : ∀ q' i' e' j', ecall l (eread l) q i q' i' = .ok (e', j') → i' ≤ j' := fun q' i' e' j' hc => (hf q' i' e' j' hc).1
    cases q with
    | expr =>
      simp only [estep] at h
      suffices hh : i < j from ⟨by omega, fun _ => hh⟩
      split at h
      · split at h
        · cases h
        · split at h
          · split at h
            · cases h
            · rename_i b k h1
              have i1 := hf1 _ _ _ _ h1
              cases h; omega
          · cases h
      · split at h
        · split at h
          · have := let_prog hf1 h; omega
          · have := let_prog hf1 h; omega
        · split at h
          · split at h
            · cases h
            · rename_i e1 j1 h1
              have i1 := hf1 _ _ _ _ h1
              split at h
              · have i2 := hf1 _ _ _ _ h; omega
              · cases h
          · split at h
            · cases h
            · rename_i e1 j1 h1
              have i1 := (hf _ _ _ _ h1).2 rfl
              have i2 := hf1 _ _ _ _ h
              omega
    | apps x =>
      simp only [estep] at h
      suffices hh : i ≤ j from ⟨hh, fun hm => by cases hm⟩
      split at h
      · split at h
        · cases h
        · rename_i a j1 h1
          have i1 := hf1 _ _ _ _ h1
          have i2 := hf1 _ _ _ _ h
          omega
      · cases h; omega
    | arms p x acc =>
      simp only [estep] at h
      suffices hh : i < j from ⟨by omega, fun _ => hh⟩
      split at h
      · cases h
      · split at h
        · split at h
          · cases h
          · rename_i b m h1
            have i1 := hf1 _ _ _ _ h1
            split at h
            · have i2 := hf1 _ _ _ _ h; omega
            · split at h
              · cases h; omega
              · cases h
        · cases h
    | atom =>
      simp only [estep] at h
      suffices hh : i < j from ⟨by omega, fun _ => hh⟩
      split at h
      · cases h
      · split at h
        · cases h; omega
        · split at h
          · cases h; omega
          · split at h
            · cases h; omega
            · split at h
              · cases h; omega
              · split at h
                · split at h
                  · cases h
                  · rename_i x1 j1 h1
                    have i1 := hf1 _ _ _ _ h1
                    split at h
                    · cases h; omega
                    · cases h
                · split at h
                  · split at h
                    · cases h
                    · rename_i x1 j1 h1
                      have i1 := hf1 _ _ _ _ h1
                      split at h
                      · split at h
                        · cases h
                        · rename_i y k h2
                          have i2 := tread_prog l _ _ _ _ (Nat.lt_succ_self _) h2
                          simp only at i2
                          split at h
                          · cases h; omega
                          · cases h
                      · split at h
                        · cases h; omega
                        · cases h
                  · cases h
theorem eread_le {l : List Tok} {q : EQ} {i : Nat} {e : Ex} {j : Nat} (h : eread l q i = .ok (e, j)) : i ≤ j := (eread_prog l _ q i e j (Nat.lt_succ_self _) h).1
theorem eread_lt {l : List Tok} {q : EQ} {i : Nat} {e : Ex} {j : Nat} (hq : q.moves = true) (h : eread l q i = .ok (e, j)) : i < j := (eread_prog l _ q i e j (Nat.lt_succ_self _) h).2 hq
theorem let_free {l : List Tok} {q : EQ} {i : Nat} (hi : i < l.length) (k p : Int) {j : Nat} (hj : i < j) : letStep l (ecall l (eread l) q i) k p j = letStep l (eread l) k p j := by
  unfold letStep
  rw [ecall_lt hi (by omega)]
  cases nameAt l j 1 with
  | none => rfl
  | some n =>
    simp only
    cases h : eread l .expr (j + 2) with
    | error p => rfl
    | ok x =>
      obtain ⟨a, m⟩ := x
      have := eread_le h
      simp only
      rw [ecall_lt hi (by omega)]
theorem eread_step (l : List Tok) (q : EQ) (i : Nat) : eread l q i = estep l (eread l) q i := by
  rw [eread_eq]
  cases q with
  | expr =>
    simp only [estep]
    cases h1 : markAt l i [92] with
    | true =>
      have hi := tokAt_lt h1
      simp only [if_true]
      rw [ecall_lt hi (by omega)]
    | false =>
      simp only [Bool.false_eq_true, if_false]
      cases h2 : wordAt l i letB with
      | true =>
        have hi := tokAt_lt h2
        simp only [if_true]
        rw [let_free hi _ _ (by omega), let_free hi _ _ (by omega)]
      | false =>
        simp only [Bool.false_eq_true, if_false]
        cases h3 : wordAt l i caseB with
        | true =>
          have hi := tokAt_lt h3
          simp only [if_true]
          rw [ecall_lt hi (by omega)]
          cases h : eread l .expr (i + 1) with
          | error p => rfl
          | ok x =>
            obtain ⟨a, m⟩ := x
            have := eread_le h
            simp only
            rw [ecall_lt hi (by omega)]
        | false =>
          simp only [Bool.false_eq_true, if_false]
          rw [ecall_rank (by decide)]
          cases h : eread l .atom i with
          | error p => rfl
          | ok x =>
            obtain ⟨a, m⟩ := x
            have := eread_le h
            simp only
            unfold ecall
            rw [if_pos (by simp only [emu, EQ.rank]; omega)]
  | apps x =>
    simp only [estep]
    cases h1 : startsEAt l i with
    | false => rfl
    | true =>
      have hi : i < l.length := by
        unfold startsEAt at h1
        cases ht : l[i]? with
        | none => rw [ht] at h1; cases h1
        | some t => exact (List.getElem?_eq_some_iff.1 ht).1
      simp only [if_true]
      rw [ecall_rank (by simp [EQ.rank])]
      cases h : eread l .atom i with
      | error p => rfl
      | ok x =>
        obtain ⟨a, m⟩ := x
        have := eread_lt rfl h
        simp only
        rw [ecall_lt hi this]
  | arms p x acc =>
    simp only [estep]
    cases h1 : nameAt l i 2 with
    | none => rfl
    | some c =>
      have hi : i < l.length := by
        unfold nameAt at h1
        cases ht : l[i]? with
        | none => rw [ht] at h1; cases h1
        | some t => exact (List.getElem?_eq_some_iff.1 ht).1
      simp only
      rw [ecall_lt hi (by omega)]
      cases h : eread l .expr (i + 1 + (lowers (l.drop (i + 1))).length + 1) with
      | error p => rfl
      | ok x =>
        obtain ⟨a, m⟩ := x
        have := eread_le h
        simp only
        rw [ecall_lt hi (by omega)]
  | atom =>
    simp only [estep]
    cases h1 : l[i]? with
    | none => rfl
    | some t =>
      have hi := (List.getElem?_eq_some_iff.1 h1).1
      simp only
      rw [ecall_lt hi (by omega)]
end Go.Th
-- sum c1bbfbae5860d4ee

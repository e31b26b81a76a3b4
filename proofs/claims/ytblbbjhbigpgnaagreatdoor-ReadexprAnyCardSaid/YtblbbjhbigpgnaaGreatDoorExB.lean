/- Expressions in memory. -/
import Derived.Test.YtblbbjhbigpgnaaGreatDoorExA
import Derived.Test.YtblbbjhbigpgnaaGreatDoorTypB
namespace Go.Proofs.YtblbbjhbigpgnaaGreatDoor
open Go Go.Eng Go.Th Go.Proofs
/-- The cells of a list's elements, one behind the other. -/
def AllAt {α : Type} (R : α → List Value → Prop) : List α → List Value → Prop
  | [], xs => xs = []
  | a :: l, xs => ∃ c r, xs = c ++ r ∧ R a c ∧ AllAt R l r
theorem AllAt.mono {α : Type} {R R' : α → List Value → Prop} (h : ∀ a c, R a c → R' a c) : ∀ {l : List α} {xs : List Value}, AllAt R l xs → AllAt R' l xs
  | [], _, hx => hx
  | _ :: _, _, ⟨c, r, e, h1, h2⟩ => ⟨c, r, e, h _ _ h1, AllAt.mono h h2⟩
theorem AllAt.one {α : Type} {R : α → List Value → Prop} {sz : Nat} (h : ∀ a c, R a c → c.length = sz ∧ ∀ u ∈ c, oneC u = true) : ∀ {l : List α} {xs : List Value}, AllAt R l xs → xs.length = l.length * sz ∧ ∀ u ∈ xs, oneC u = true
  | [], xs, hx => by
    have : xs = [] := hx
    subst this; simp
  | a :: l, xs, hx => by
    obtain ⟨c, r, rfl, h1, h2⟩ := hx
    have i1 := h _ _ h1
    have i2 := AllAt.one h h2
    refine ⟨by rw [List.length_append, i1.1, i2.1, List.length_cons, Nat.add_mul]; omega, fun u hu => ?_⟩
    rcases List.mem_append.1 hu with hu | hu
    · exact i1.2 u hu
    · exact i2.2 u hu
theorem AllAt.snoc {α : Type} {R : α → List Value → Prop} {a : α} {c : List Value} (hc : R a c) : ∀ {l : List α} {xs : List Value}, AllAt R l xs → AllAt R (l ++ [a]) (xs ++ c)
  | [], xs, hx => by
    have : xs = [] := hx
    subst this
    exact ⟨c, [], by simp, hc, rfl⟩
  | b :: l, xs, hx => by
    obtain ⟨c', r, rfl, h1, h2⟩ := hx
    exact ⟨c', r ++ c, by simp, h1, AllAt.snoc hc h2⟩
theorem AllAt.get {α : Type} {R : α → List Value → Prop} {sz : Nat} (hR : ∀ a c, R a c → c.length = sz) : ∀ {l : List α} {xs : List Value}, AllAt R l xs → ∀ (i : Nat) (h : i < l.length), ∃ c, R l[i] c ∧ ∀ j x, c[j]? = some x → xs[i * sz + j]? = some x
  | [], _, _, i, h => by simp at h
  | a :: l, xs, hx, i, h => by
    obtain ⟨c, r, rfl, h1, h2⟩ := hx
    have hl := hR _ _ h1
    cases i with
    | zero =>
      refine ⟨c, h1, fun j x hj => ?_⟩
      have hjl := (List.getElem?_eq_some_iff.1 hj).1
      rw [Nat.zero_mul, Nat.zero_add, List.getElem?_append_left hjl]
      exact hj
    | succ i =>
      obtain ⟨c', h3, h4⟩ := AllAt.get hR h2 i (by simpa using h)
      refine ⟨c', h3, fun j x hj => ?_⟩
      rw [List.getElem?_append_right (by rw [hl, Nat.add_mul]; omega), hl, show (i + 1) * sz + j - sz = i * sz + j by rw [Nat.add_mul]; omega]
      exact h4 j x hj
mutual
/-- An expression's cells. -/
def ExAt (g : Ghost) : Ex → List Value → Prop
  | .mk k p n m ks ra t, cs => ∃ slk xk sla xa tc, cs = [.int .i64 k, .int .i64 p, str n, .int .i64 m, slk, sla] ++ tc ∧ SlAt g 11 slk ks.length xk ∧ ExsAt g ks xk ∧ SlAt g 14 sla ra.length xa ∧ ArsAt g ra xa ∧ TyAt g t tc
def ExsAt (g : Ghost) : List Ex → List Value → Prop
  | [], xs => xs = []
  | a :: l, xs => ∃ c r, xs = c ++ r ∧ ExAt g a c ∧ ExsAt g l r
def ArAt (g : Ghost) : Ar → List Value → Prop
  | .mk p c vs b, cs => ∃ slv bc, cs = [.int .i64 p, str c, slv] ++ bc ∧ SlAt g 1 slv vs.length (vs.map str) ∧ ExAt g b bc
def ArsAt (g : Ghost) : List Ar → List Value → Prop
  | [], xs => xs = []
  | a :: l, xs => ∃ c r, xs = c ++ r ∧ ArAt g a c ∧ ArsAt g l r
end
theorem exs_all {g : Ghost} : ∀ {l : List Ex} {xs : List Value}, ExsAt g l xs ↔ AllAt (ExAt g) l xs
  | [], xs => by unfold ExsAt AllAt; exact Iff.rfl
  | a :: l, xs => by
    unfold ExsAt AllAt
    constructor
    · rintro ⟨c, r, e, h1, h2⟩; exact ⟨c, r, e, h1, exs_all.1 h2⟩
    · rintro ⟨c, r, e, h1, h2⟩; exact ⟨c, r, e, h1, exs_all.2 h2⟩
theorem ars_all {g : Ghost} : ∀ {l : List Ar} {xs : List Value}, ArsAt g l xs ↔ AllAt (ArAt g) l xs
  | [], xs => by unfold ArsAt AllAt; exact Iff.rfl
  | a :: l, xs => by
    unfold ArsAt AllAt
    constructor
    · rintro ⟨c, r, e, h1, h2⟩; exact ⟨c, r, e, h1, ars_all.1 h2⟩
    · rintro ⟨c, r, e, h1, h2⟩; exact ⟨c, r, e, h1, ars_all.2 h2⟩
mutual
theorem ExAt.mono {g g' : Ghost} (hle : Ghost.le g g') : ∀ (e : Ex) (cs : List Value), ExAt g e cs → ExAt g' e cs
  | .mk k p n m ks ra t, cs, h => by
    unfold ExAt at h ⊢
    obtain ⟨slk, xk, sla, xa, tc, h1, h2, h3, h4, h5, h6⟩ := h
    exact ⟨slk, xk, sla, xa, tc, h1, h2.mono hle, ExsAt.mono hle ks xk h3, h4.mono hle, ArsAt.mono hle ra xa h5, h6.mono hle⟩
theorem ExsAt.mono {g g' : Ghost} (hle : Ghost.le g g') : ∀ (l : List Ex) (xs : List Value), ExsAt g l xs → ExsAt g' l xs
  | [], xs, h => by unfold ExsAt at h ⊢; exact h
  | a :: l, xs, h => by
    unfold ExsAt at h ⊢
    obtain ⟨c, r, h1, h2, h3⟩ := h
    exact ⟨c, r, h1, ExAt.mono hle a c h2, ExsAt.mono hle l r h3⟩
theorem ArAt.mono {g g' : Ghost} (hle : Ghost.le g g') : ∀ (a : Ar) (cs : List Value), ArAt g a cs → ArAt g' a cs
  | .mk p c vs b, cs, h => by
    unfold ArAt at h ⊢
    obtain ⟨slv, bc, h1, h2, h3⟩ := h
    exact ⟨slv, bc, h1, h2.mono hle, ExAt.mono hle b bc h3⟩
theorem ArsAt.mono {g g' : Ghost} (hle : Ghost.le g g') : ∀ (l : List Ar) (xs : List Value), ArsAt g l xs → ArsAt g' l xs
  | [], xs, h => by unfold ArsAt at h ⊢; exact h
  | a :: l, xs, h => by
    unfold ArsAt at h ⊢
    obtain ⟨c, r, h1, h2, h3⟩ := h
    exact ⟨c, r, h1, ArAt.mono hle a c h2, ArsAt.mono hle l r h3⟩
end
/-- An expression's cells in full. -/
theorem ExAt.form {g : Ghost} {e : Ex} {cs : List Value} (h : ExAt g e cs) : ∃ (a1 : Option Addr) (m1 c1 : Nat) (a2 : Option Addr) (m2 c2 : Nat) (a3 : Option Addr) (m3 c3 : Nat) (xk xa : List Value),
    cs = [.int .i64 e.kind, .int .i64 e.pos, str e.name, .int .i64 e.num, .slice a1 m1 c1, .slice a2 m2 c2, .int .i64 e.ty.kind, str e.ty.name, .int .i64 e.ty.id, .int .i64 e.ty.home, .slice a3 m3 c3] ∧
    SlAt g 11 (.slice a1 m1 c1) e.kids.length xk ∧ ExsAt g e.kids xk ∧ SlAt g 14 (.slice a2 m2 c2) e.arms.length xa ∧ ArsAt g e.arms xa ∧ TyAt g e.ty (tyCells e.ty (.slice a3 m3 c3)) := by
  cases e with
  | mk k p n m ks ra t =>
    unfold ExAt at h
    obtain ⟨slk, xk, sla, xa, tc, rfl, h2, h3, h4, h5, h6⟩ := h
    obtain ⟨sl, rfl⟩ := h6.cells
    obtain ⟨_, hsl, _⟩ := h6.args
    obtain ⟨a1, m1, c1, rfl⟩ := SlAt.form h2
    obtain ⟨a2, m2, c2, rfl⟩ := SlAt.form h4
    obtain ⟨a3, m3, c3, rfl⟩ := SlAt.form hsl
    exact ⟨a1, m1, c1, a2, m2, c2, a3, m3, c3, xk, xa, rfl, h2, h3, h4, h5, h6⟩
theorem ExAt.one {g : Ghost} {e : Ex} {cs : List Value} (h : ExAt g e cs) : cs.length = 11 ∧ ∀ u ∈ cs, oneC u = true := by
  obtain ⟨a1, m1, c1, a2, m2, c2, a3, m3, c3, xk, xa, rfl, _⟩ := h.form
  refine ⟨rfl, ?_⟩
  intro u hu
  simp only [List.mem_cons, List.not_mem_nil, or_false] at hu
  rcases hu with rfl | rfl | rfl | rfl | rfl | rfl | rfl | rfl | rfl | rfl | rfl <;> rfl
theorem ArAt.one {g : Ghost} {a : Ar} {cs : List Value} (h : ArAt g a cs) : cs.length = 14 ∧ ∀ u ∈ cs, oneC u = true := by
  cases a with
  | mk p c vs b =>
    unfold ArAt at h
    obtain ⟨slv, bc, rfl, h2, h3⟩ := h
    have h4 := h3.one
    obtain ⟨a1, m1, c1, rfl⟩ := SlAt.form h2
    refine ⟨by rw [List.length_append, h4.1]; rfl, ?_⟩
    intro u hu
    rcases List.mem_append.1 hu with hu | hu
    · simp only [List.mem_cons, List.not_mem_nil, or_false] at hu
      rcases hu with rfl | rfl | rfl <;> rfl
    · exact h4.2 u hu
/-- An expression as a value. -/
def ExV (g : Ghost) (v : Value) (e : Ex) : Prop := ∃ cs, v = .agg cs.toArray ∧ ExAt g e cs
theorem ExV.mono {g g' : Ghost} (hle : Ghost.le g g') {v : Value} {e : Ex} (h : ExV g v e) : ExV g' v e := by
  obtain ⟨cs, h1, h2⟩ := h
  exact ⟨cs, h1, h2.mono hle⟩
theorem ExAt.mk {g : Ghost} {e : Ex} {slk sla sl : Value} {xk xa : List Value} (h1 : SlAt g 11 slk e.kids.length xk) (h2 : ExsAt g e.kids xk) (h3 : SlAt g 14 sla e.arms.length xa) (h4 : ArsAt g e.arms xa) (h5 : TyAt g e.ty (tyCells e.ty sl)) :
    ExAt g e ([.int .i64 e.kind, .int .i64 e.pos, str e.name, .int .i64 e.num, slk, sla] ++ tyCells e.ty sl) := by
  cases e with
  | mk k p n m ks ra t => unfold ExAt; exact ⟨slk, xk, sla, xa, _, rfl, h1, h2, h3, h4, h5⟩
end Go.Proofs.YtblbbjhbigpgnaaGreatDoor
-- sum fc286b758d01791e

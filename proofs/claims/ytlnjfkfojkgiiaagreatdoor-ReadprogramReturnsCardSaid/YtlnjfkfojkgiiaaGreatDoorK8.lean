/- Expressions in memory. -/
import Derived.Test.YtlnjfkfojkgiiaaGreatDoorK7
open Go Go.aZ Go.Th Go.Proofs Tryz
set_option maxRecDepth 10000
set_option maxHeartbeats 4000000
namespace Go.Proofs.YtlnjfkfojkgiiaaGreatDoor
def aL {α : Type} (R : α → List Value → Prop) : List α → List Value → Prop
 | [], xs => xs = []
 | a :: l, xs => ∃ c r, xs = c ++ r ∧ R a c ∧ aL R l r
theorem aL.mono {α : Type} {R R' : α → List Value → Prop} (h : ∀ a c, R a c → R' a c) : ∀ {l : List α} {xs : List Value}, aL R l xs → aL R' l xs
 | [], _, hx => hx
 | _ :: _, _, ⟨c, r, e, h1, h2⟩ => ⟨c, r, e, h _ _ h1, aL.mono h h2⟩
theorem aL.one {α : Type} {R : α → List Value → Prop} {sz : Nat} (h : ∀ a c, R a c → c.length = sz ∧ ∀ u ∈ c, fx u = true) : ∀ {l : List α} {xs : List Value}, aL R l xs → xs.length = l.length * sz ∧ ∀ u ∈ xs, fx u = true
 | [], xs, hx => by
  have : xs = [] := hx
  subst this; simp
 | a :: l, xs, hx => by
  obtain ⟨c, r, rfl, h1, h2⟩ := hx
  have i1 := h _ _ h1
  have i2 := aL.one h h2
  refine ⟨by rw [List.length_append, i1.1, i2.1, List.length_cons, Nat.add_mul]; omega, fun u hu => ?_⟩
  rcases List.mem_append.1 hu with hu | hu
  ·exact i1.2 u hu
  ·exact i2.2 u hu
theorem aL.snoc {α : Type} {R : α → List Value → Prop} {a : α} {c : List Value} (hc : R a c) : ∀ {l : List α} {xs : List Value}, aL R l xs → aL R (l ++ [a]) (xs ++ c)
 | [], xs, hx => by
  have : xs = [] := hx
  subst this
  exact ⟨c, [], sM, hc, rfl⟩
 | b :: l, xs, hx => by
  obtain ⟨c', r, rfl, h1, h2⟩ := hx
  exact ⟨c', r ++ c, sM, h1, aL.snoc hc h2⟩
theorem aL.get {α : Type} {R : α → List Value → Prop} {sz : Nat} (hR : ∀ a c, R a c → c.length = sz) : ∀ {l : List α} {xs : List Value}, aL R l xs → ∀ (i : Nat) (h : i < l.length), ∃ c, R l[i] c ∧ ∀ j x, c[j]? = some x → xs[i * sz + j]? = some x
 | [], _, _, i, h => by simp at h
 | a :: l, xs, hx, i, h => by
  obtain ⟨c, r, rfl, h1, h2⟩ := hx
  have hl := hR _ _ h1
  cases i with
  | zero =>
   refine ⟨c, h1, fun j x hj => ?_⟩
   have eK := (List.getElem?_eq_some_iff.1 hj).1
   rw [Nat.zero_mul, Nat.zero_add, List.getElem?_append_left eK]
   exact hj
  | succ i =>
   obtain ⟨c', h3, h4⟩ := aL.get hR h2 i (by simpa using h)
   refine ⟨c', h3, fun j x hj => ?_⟩
   rw [List.getElem?_append_right (by rw [hl, Nat.add_mul]; omega), hl, show (i + 1) * sz + j - sz = i * sz + j by rw [Nat.add_mul]; omega]
   exact h4 j x hj
mutual
def cJ (g : ab) : Ex → List Value → Prop
 | .mk k p n m ks ra t, cs => ∃ slk xk qB xa tc, cs = [.int .i64 k, .int .i64 p, str n, .int .i64 m, slk, qB] ++ tc ∧ au g 11 slk ks.length xk ∧ dp g ks xk ∧ au g 14 qB ra.length xa ∧ fw g ra xa ∧ bx g t tc
def dp (g : ab) : List Ex → List Value → Prop
 | [], xs => xs = []
 | a :: l, xs => ∃ c r, xs = c ++ r ∧ cJ g a c ∧ dp g l r
def gG (g : ab) : Ar → List Value → Prop
 | .mk p c vs b, cs => ∃ fG bc, cs = [.int .i64 p, str c, fG] ++ bc ∧ au g 1 fG vs.length (vs.map str) ∧ cJ g b bc
def fw (g : ab) : List Ar → List Value → Prop
 | [], xs => xs = []
 | a :: l, xs => ∃ c r, xs = c ++ r ∧ gG g a c ∧ fw g l r
end
theorem mw {g : ab} : ∀ {l : List Ex} {xs : List Value}, dp g l xs ↔ aL (cJ g) l xs
 | [], xs => by unfold dp aL; exact Iff.rfl
 | a :: l, xs => by
  unfold dp aL
  constructor
  ·rintro ⟨c, r, e, h1, h2⟩; exact ⟨c, r, e, h1, mw.1 h2⟩
  ·rintro ⟨c, r, e, h1, h2⟩; exact ⟨c, r, e, h1, mw.2 h2⟩
theorem nK {g : ab} : ∀ {l : List Ar} {xs : List Value}, fw g l xs ↔ aL (gG g) l xs
 | [], xs => by unfold fw aL; exact Iff.rfl
 | a :: l, xs => by
  unfold fw aL
  constructor
  ·rintro ⟨c, r, e, h1, h2⟩; exact ⟨c, r, e, h1, nK.1 h2⟩
  ·rintro ⟨c, r, e, h1, h2⟩; exact ⟨c, r, e, h1, nK.2 h2⟩
mutual
theorem cJ.mono {g g' : ab} (hle : ab.le g g') : ∀ (e : Ex) (cs : List Value), cJ g e cs → cJ g' e cs
 | .mk k p n m ks ra t, cs, h => by
  unfold cJ at h ⊢
  obtain ⟨slk, xk, qB, xa, tc, h1, h2, h3, h4, h5, h6⟩ := h
  exact ⟨slk, xk, qB, xa, tc, h1, h2.mono hle, dp.mono hle ks xk h3, h4.mono hle, fw.mono hle ra xa h5, h6.mono hle⟩
theorem dp.mono {g g' : ab} (hle : ab.le g g') : ∀ (l : List Ex) (xs : List Value), dp g l xs → dp g' l xs
 | [], xs, h => by unfold dp at h ⊢; exact h
 | a :: l, xs, h => by
  unfold dp at h ⊢
  obtain ⟨c, r, h1, h2, h3⟩ := h
  exact ⟨c, r, h1, cJ.mono hle a c h2, dp.mono hle l r h3⟩
theorem gG.mono {g g' : ab} (hle : ab.le g g') : ∀ (a : Ar) (cs : List Value), gG g a cs → gG g' a cs
 | .mk p c vs b, cs, h => by
  unfold gG at h ⊢
  obtain ⟨fG, bc, h1, h2, h3⟩ := h
  exact ⟨fG, bc, h1, h2.mono hle, cJ.mono hle b bc h3⟩
theorem fw.mono {g g' : ab} (hle : ab.le g g') : ∀ (l : List Ar) (xs : List Value), fw g l xs → fw g' l xs
 | [], xs, h => by unfold fw at h ⊢; exact h
 | a :: l, xs, h => by
  unfold fw at h ⊢
  obtain ⟨c, r, h1, h2, h3⟩ := h
  exact ⟨c, r, h1, gG.mono hle a c h2, fw.mono hle l r h3⟩
end
theorem cJ.form {g : ab} {e : Ex} {cs : List Value} (h : cJ g e cs) : ∃ (a1 : Option Addr) (m1 c1 : Nat) (a2 : Option Addr) (m2 c2 : Nat) (a3 : Option Addr) (m3 c3 : Nat) (xk xa : List Value),
  cs = [.int .i64 e.kind, .int .i64 e.pos, str e.name, .int .i64 e.num, .slice a1 m1 c1, .slice a2 m2 c2, .int .i64 e.ty.kind, str e.ty.name, .int .i64 e.ty.id, .int .i64 e.ty.home, .slice a3 m3 c3] ∧
  au g 11 (.slice a1 m1 c1) e.kids.length xk ∧ dp g e.kids xk ∧ au g 14 (.slice a2 m2 c2) e.aK.length xa ∧ fw g e.aK xa ∧ bx g e.ty (aH e.ty (.slice a3 m3 c3)) := by
 cases e with
 | mk k p n m ks ra t =>
  unfold cJ at h
  obtain ⟨slk, xk, qB, xa, tc, rfl, h2, h3, h4, h5, h6⟩ := h
  obtain ⟨sl, rfl⟩ := h6.cells
  obtain ⟨_, aq, _⟩ := h6.args
  obtain ⟨a1, m1, c1, rfl⟩ := au.form h2
  obtain ⟨a2, m2, c2, rfl⟩ := au.form h4
  obtain ⟨a3, m3, c3, rfl⟩ := au.form aq
  exact ⟨a1, m1, c1, a2, m2, c2, a3, m3, c3, xk, xa, rfl, h2, h3, h4, h5, h6⟩
theorem cJ.one {g : ab} {e : Ex} {cs : List Value} (h : cJ g e cs) : cs.length = 11 ∧ ∀ u ∈ cs, fx u = true := by
 obtain ⟨a1, m1, c1, a2, m2, c2, a3, m3, c3, xk, xa, rfl, _⟩ := h.form
 refine ⟨rfl, ?_⟩
 intro u hu
 simp only [List.mem_cons, List.not_mem_nil, or_false] at hu
 rcases hu with rfl | rfl | rfl | rfl | rfl | rfl | rfl | rfl | rfl | rfl | rfl <;> rfl
theorem gG.one {g : ab} {a : Ar} {cs : List Value} (h : gG g a cs) : cs.length = 14 ∧ ∀ u ∈ cs, fx u = true := by
 cases a with
 | mk p c vs b =>
  unfold gG at h
  obtain ⟨fG, bc, rfl, h2, h3⟩ := h
  have h4 := h3.one
  obtain ⟨a1, m1, c1, rfl⟩ := au.form h2
  refine ⟨by rw [List.length_append, h4.1]; rfl, ?_⟩
  intro u hu
  rcases List.mem_append.1 hu with hu | hu
  ·simp only [List.mem_cons, List.not_mem_nil, or_false] at hu
   rcases hu with rfl | rfl | rfl <;> rfl
  ·exact h4.2 u hu
def cT (g : ab) (v : Value) (e : Ex) : Prop := ∃ cs, v = .agg cs.toArray ∧ cJ g e cs
theorem cT.mono {g g' : ab} (hle : ab.le g g') {v : Value} {e : Ex} (h : cT g v e) : cT g' v e := by
 obtain ⟨cs, h1, h2⟩ := h
 exact ⟨cs, h1, h2.mono hle⟩
theorem cJ.mk {g : ab} {e : Ex} {slk qB sl : Value} {xk xa : List Value} (h1 : au g 11 slk e.kids.length xk) (h2 : dp g e.kids xk) (h3 : au g 14 qB e.aK.length xa) (h4 : fw g e.aK xa) (h5 : bx g e.ty (aH e.ty sl)) :
  cJ g e ([.int .i64 e.kind, .int .i64 e.pos, str e.name, .int .i64 e.num, slk, qB] ++ aH e.ty sl) := by
 cases e with
 | mk k p n m ks ra t => unfold cJ; exact ⟨slk, xk, qB, xa, _, rfl, h1, h2, h3, h4, h5⟩
end Go.Proofs.YtlnjfkfojkgiiaaGreatDoor
namespace Go.Proofs.YtlnjfkfojkgiiaaGreatDoor
attribute [local irreducible] wpList Code.wp ah bodyPost Go.aZ.Ends Exit.then Exit.inBlock dJ Wq Kq
theorem R8 {p : UInt8 → Bool} {s : Bytes} {k : Nat} (hk : k < s.length) : (s.take (k + 1)).all p = ((s.take k).all p && p s[k]) := by
 rw [List.take_succ_eq_append_getElem hk, List.all_append]; simp
theorem R9 (g : ab) (c : UInt8) : Pure prog 199 [.int .u8 c.toNat] g (.bool (lower c)) := by
 refine aw func199 rfl ntmps199 rfl fun E hE => ?_
 repeat' (first | refine sT ?_ | refine bw rfl rfl (fun h => ?_) (fun h => ?_) | refine j_ rfl rfl (fun h => ?_) (fun h => ?_) | refine an rfl (fun h => ?_) (fun h => ?_) | refine fS rfl (fun h => ?_) (fun h => ?_))
 all_goals exact ao [] rfl rfl sM ⟨vb (by simp [lower]; omega), rfl, rfl⟩
theorem R_ (g : ab) (c : UInt8) : Pure prog 200 [.int .u8 c.toNat] g (.bool (upper c)) := by
 refine aw func200 rfl ntmps200 rfl fun E hE => ?_
 repeat' (first | refine sT ?_ | refine bw rfl rfl (fun h => ?_) (fun h => ?_) | refine j_ rfl rfl (fun h => ?_) (fun h => ?_) | refine an rfl (fun h => ?_) (fun h => ?_) | refine fS rfl (fun h => ?_) (fun h => ?_))
 all_goals exact ao [] rfl rfl sM ⟨vb (by simp [upper]; omega), rfl, rfl⟩
theorem Sa (g : ab) (c : UInt8) : Pure prog 201 [.int .u8 c.toNat] g (.bool (digit c)) := by
 refine aw func201 rfl ntmps201 rfl fun E hE => ?_
 repeat' (first | refine sT ?_ | refine bw rfl rfl (fun h => ?_) (fun h => ?_) | refine j_ rfl rfl (fun h => ?_) (fun h => ?_) | refine an rfl (fun h => ?_) (fun h => ?_) | refine fS rfl (fun h => ?_) (fun h => ?_))
 all_goals exact ao [] rfl rfl sM ⟨vb (by simp [digit]; omega), rfl, rfl⟩
theorem E4 (g : ab) (c : UInt8) : Pure prog 175 [.int .u8 c.toNat] g (.bool (inner c)) := by
 refine aw func175 rfl ntmps175 rfl fun E hE => ?_
 refine wz.a.c.b.a.c.z ?_
 refine aO rfl rfl (R9 g c) ?_
 repeat' (first | refine sT ?_ | refine bw rfl rfl (fun h => ?_) (fun h => ?_) | refine j_ rfl rfl (fun h => ?_) (fun h => ?_) | refine an rfl (fun h => ?_) (fun h => ?_) | refine fS rfl (fun h => ?_) (fun h => ?_))
 ·exact ao [] rfl rfl sM ⟨vb (by simp [inner, *]), rfl, rfl⟩
 refine aO rfl rfl (R_ g c) ?_
 repeat' (first | refine sT ?_ | refine bw rfl rfl (fun h => ?_) (fun h => ?_) | refine j_ rfl rfl (fun h => ?_) (fun h => ?_) | refine an rfl (fun h => ?_) (fun h => ?_) | refine fS rfl (fun h => ?_) (fun h => ?_))
 ·exact ao [] rfl rfl sM ⟨vb (by simp [inner, *]), rfl, rfl⟩
 refine aO rfl rfl (Sa g c) ?_
 repeat' (first | refine sT ?_ | refine bw rfl rfl (fun h => ?_) (fun h => ?_) | refine j_ rfl rfl (fun h => ?_) (fun h => ?_) | refine an rfl (fun h => ?_) (fun h => ?_) | refine fS rfl (fun h => ?_) (fun h => ?_))
 ·exact ao [] rfl rfl sM ⟨vb (by simp [inner, *]), rfl, rfl⟩
 ·exact ao [] rfl rfl sM ⟨vb (by simp [inner, *]; omega), rfl, rfl⟩
theorem Sb (g : ab) (s : Bytes) (hs : s.length ≤ 9223372036854775807) : Pure prog 223 [str s] g (.bool (isWord s)) := by
 refine aw func223 rfl ntmps223 rfl fun E hE => ?_
 refine wz.p.b.a.c.e.b.a.c.z ?_
 refine aX (ι := Nat) (fun k => [(0, str s), (3, .int .i64 k)]) (fun _ => g) (fun _ => []) (fun k => k ≤ s.length ∧ (s.take k).all inner = true) (fun k => s.length - k) 0 ⟨oM, sM⟩ ⟨rfl, rfl, trivial⟩ rfl rfl ?_
 rintro k ⟨hk, hall⟩
 refine wz.b.a.AI.a.a.c.e.z ?_
 refine an rfl (fun hlt => ?_) (fun nh => ?_)
 ·have af : k < s.length := by omega
  refine wz.a.a.c.p.e.d.j.z ?_
  refine nd rfl rfl rfl rfl af ?_
  skip
  refine aO rfl rfl (E4 g _) ?_
  repeat' (first | refine sT ?_ | refine bw rfl rfl (fun h => ?_) (fun h => ?_) | refine j_ rfl rfl (fun h => ?_) (fun h => ?_) | refine an rfl (fun h => ?_) (fun h => ?_) | refine fS rfl (fun h => ?_) (fun h => ?_))
  ·skip
   exact ao [] rfl rfl sM ⟨vb (by simp only [isWord]; simp at h; have hm := List.getElem_mem af; simp; intro hx; rw [hx _ hm] at h; cases h), rfl, rfl⟩
  ·skip
   refine wz.b.a.E.z ?_
   exact aM (k + 1) ⟨oM, by rw [R8 af, hall]; simpa using h⟩ oM ⟨rfl, rfl, trivial⟩ rfl rfl
 ·refine wz.i.b.a.a.a.c.d.D.m.m.C.z ?_
  have Je : k = s.length := by omega
  subst Je
  rw [List.take_length] at hall
  exact ao [] rfl rfl sM ⟨vb (by simp [isWord, hall]), rfl, rfl⟩
theorem Sc (g : ab) (s : Bytes) : Pure prog 202 [str s] g (.bool (mD s)) := by
 refine aw func202 rfl ntmps202 rfl fun E hE => ?_
 refine wz.c.b.a.c.z ?_
 refine bu rfl rfl rL rL rL rL rL (fun b => ?_)
 refine wz.p.b.a.c.e.b.a.z ?_
 refine aX (ι := Nat) (fun k => [(0, str s), (3, .slice (some ⟨b, 0, none⟩) 7 7), (4, .int .i64 k)]) (fun _ => g) (fun _ => [.row 9 1 (.slice (some ⟨b, 0, none⟩) 7 7) 7 (qR.map str)]) (fun k => k ≤ 7 ∧ ∀ j, j < k → qR[j]? ≠ some s) (fun k => 7 - k) 0 ⟨oM, sM⟩ ⟨rfl, rfl, rfl, trivial⟩ rfl rfl ?_
 rintro k ⟨hk, hall⟩
 refine wz.b.a.A.a.a.c.e.z ?_
 refine an rfl (fun hlt => ?_) (fun nh => ?_)
 ·have af : k < 7 := by omega
  have DG : k < qR.length := af
  refine wz.a.a.c.p.e.d.j.z ?_
  refine gV rfl rfl rfl rfl af ?_
  refine cj rfl rfl (v := str qR[k]) (Ft 0 rfl (by simp [DG])) ?_
  repeat' (first | refine sT ?_ | refine bw rfl rfl (fun h => ?_) (fun h => ?_) | refine j_ rfl rfl (fun h => ?_) (fun h => ?_) | refine an rfl (fun h => ?_) (fun h => ?_) | refine fS rfl (fun h => ?_) (fun h => ?_))
  ·skip
   exact ao [] rfl rfl sM ⟨vb (by simp [mD, ← h]), rfl, rfl⟩
  ·skip
   refine wz.b.a.E.z ?_
   refine aM (k + 1) ⟨oM, fun j hj => ?_⟩ oM ⟨rfl, rfl, rfl, trivial⟩ rfl rfl
   by_cases fK : j = k
   ·subst fK; rw [List.getElem?_eq_getElem DG]; simpa using h
   ·exact hall j oM
 ·refine wz.i.b.a.c.d.D.m.m.C.z ?_
  refine ao [] rfl rfl sM ⟨vb ?_, rfl, rfl⟩
  have rU : k = 7 := by omega
  subst rU
  simp only [mD]
  simp
  intro hm
  obtain ⟨j, hj, he⟩ := List.getElem_of_mem hm
  exact hall j hj (by rw [List.getElem?_eq_getElem hj, he])
theorem Jf {s : Bytes} (h : 0 < s.length) : (List.head? s).getD 0 = s[0] := by
 cases s with
 | nil => simp at h
 | cons a l => rfl
theorem Fw {s : Bytes} (h : 0 < s.length) : s.headD 0 = s[0] := by
 cases s with
 | nil => simp at h
 | cons a l => rfl
theorem Sd {s : Bytes} (h : isWord s = true) : 0 < s.length := by
 cases s with
 | nil => simp [isWord] at h
 | cons => simp
theorem aEA (g : ab) (s : Bytes) (hs : s.length ≤ 9223372036854775807) : Pure prog 203 [str s] g (.bool (isLower s)) := by
 refine aw func203 rfl ntmps203 rfl fun E hE => ?_
 refine wz.a.c.b.a.c.z ?_
 refine aO rfl rfl (Sb g s hs) ?_
 refine wz.a.z ?_
 refine j_ rfl rfl (fun hw => ?_) (fun hw => ?_)
 ·have nB := Sd hw
  have hh := Jf nB
  refine wz.k.u.z ?_
  refine nd (j := 0) rfl rfl rfl rfl nB ?_
  refine wz.k.z ?_
  refine aO rfl rfl (R9 g _) ?_
  refine wz.a.a.z ?_
  refine j_ rfl rfl (fun hl => ?_) (fun hl => ?_)
  ·refine wz.a.a.u.AI.k.u.z ?_
   refine bw rfl rfl (fun wK => ?_) (fun wK => ?_)
   ·refine wz.k.u.z ?_
    refine aO rfl rfl (Sc g s) ?_
    refine wz.i.b.a.a.u.z ?_
    exact ao [] rfl rfl sM ⟨vb (by simp [isLower, *]; intros; omega), rfl, rfl⟩
   ·refine wz.i.b.a.a.h.h.h.z ?_
    exact ao [] rfl rfl sM ⟨vb (by simp [isLower]; intros; omega), rfl, rfl⟩
  ·refine wz.i.b.a.a.h.h.h.a.a.h.h.h.z ?_
   exact ao [] rfl rfl sM ⟨vb (by simp [isLower, *]), rfl, rfl⟩
 ·refine wz.i.b.a.a.h.h.h.a.a.h.h.h.a.a.h.h.h.z ?_
  exact ao [] rfl rfl sM ⟨vb (by simp [isLower, hw]), rfl, rfl⟩
theorem aEB (g : ab) (s : Bytes) (hs : s.length ≤ 9223372036854775807) : Pure prog 204 [str s] g (.bool (isUpper s)) := by
 refine aw func204 rfl ntmps204 rfl fun E hE => ?_
 refine wz.a.c.b.a.c.z ?_
 refine aO rfl rfl (Sb g s hs) ?_
 refine wz.a.z ?_
 refine j_ rfl rfl (fun hw => ?_) (fun hw => ?_)
 ·have nB := Sd hw
  have hh := Jf nB
  refine wz.k.u.z ?_
  refine nd (j := 0) rfl rfl rfl rfl nB ?_
  refine wz.k.z ?_
  refine aO rfl rfl (R_ g _) ?_
  refine wz.a.a.z ?_
  refine j_ rfl rfl (fun hl => ?_) (fun hl => ?_)
  ·refine wz.i.b.a.a.u.AI.k.u.z ?_
   exact ao [] rfl rfl sM ⟨vb (by simp [isUpper, *]; omega), rfl, rfl⟩
  ·refine wz.i.b.a.a.h.h.h.z ?_
   exact ao [] rfl rfl sM ⟨vb (by simp [isUpper, *]), rfl, rfl⟩
 ·refine wz.i.b.a.a.h.h.h.a.a.h.h.h.z ?_
  exact ao [] rfl rfl sM ⟨vb (by simp [isUpper, hw]), rfl, rfl⟩
theorem aEC (g : ab) (s : Bytes) (hs : s.length ≤ 9223372036854775807) : Pure prog 205 [str s] g (.bool (nr s)) := by
 refine aw func205 rfl ntmps205 rfl fun E hE => ?_
 refine wz.b.a.c.z ?_
 refine zu [(0, str s)] (s.isEmpty = false ∧ s.length ≤ 9 ∧ ¬ ((s.headD 0).toNat = 48 ∧ 1 < s.length)) ?_ ?_
 ·rintro ⟨h1, h2, h3⟩
  refine wz.p.b.a.c.e.z ?_
  refine aX (ι := Nat) (fun k => [(0, str s), (3, .int .i64 k)]) (fun _ => g) (fun _ => []) (fun k => k ≤ s.length ∧ (s.take k).all digit = true) (fun k => s.length - k) 0 ⟨oM, sM⟩ ⟨rfl, rfl, trivial⟩ rfl rfl ?_
  rintro k ⟨hk, hall⟩
  refine wz.b.a.AI.a.a.c.e.z ?_
  refine an rfl (fun hlt => ?_) (fun hlt => ?_)
  ·have af : k < s.length := by omega
   refine wz.a.a.c.p.e.d.j.z ?_
   refine nd rfl rfl rfl rfl af ?_
   skip
   refine aO rfl rfl (Sa g _) ?_
   refine wz.b.a.z ?_
   refine fS rfl (fun h => ?_) (fun h => ?_)
   ·refine wz.l.x.l.l.x.i.b.a.c.z ?_
    exact ao [] rfl rfl sM ⟨vb (by simp only [nr]; simp at h; have hm := List.getElem_mem af; simp; intros; exact ⟨_, hm, h⟩), rfl, rfl⟩
   ·refine wz.b.a.E.a.r.d.y.j.z ?_
    exact aM (k + 1) ⟨oM, by rw [R8 af, hall]; simpa using h⟩ oM ⟨rfl, rfl, trivial⟩ rfl rfl
  ·refine wz.i.b.a.c.d.D.m.m.C.z ?_
   have Je : k = s.length := by omega
   subst Je
   rw [List.take_length] at hall
   exact ao [] rfl rfl sM ⟨vb (by simp only [nr, h1, h2, hall]; simp; simp at h3; by_cases hx : ((List.head? s).getD 0).toNat = 48; exact .inr (h3 hx); exact .inl hx), rfl, rfl⟩
 ·intro K hK
  refine wz.a.a.a.c.z ?_
  refine bw rfl rfl (fun h0 => ?_) (fun h0 => ?_)
  ·refine wz.l.i.b.a.c.t.b.a.h.AY.AY.AY.h.h.h.h.a.a.h.h.h.z ?_
   subst h0
   exact ao [] rfl rfl sM ⟨vb (by simp [nr]), rfl, rfl⟩
  ·have nB : 0 < s.length := by
    cases s with
    | nil => exact absurd rfl h0
    | cons => simp
   have hh := Jf nB
   have hne : s.isEmpty = false := by cases s with
    | nil => exact absurd rfl h0
    | cons => rfl
   refine wz.a.a.u.AI.k.u.z ?_
   refine bw rfl rfl (fun h9 => ?_) (fun h9 => ?_)
   ·refine wz.l.i.b.a.c.t.b.a.h.AY.AY.AY.h.h.h.h.z ?_
    exact ao [] rfl rfl sM ⟨vb (by simp [nr, hne]; intros; omega), rfl, rfl⟩
   ·refine wz.k.u.z ?_
    refine nd (j := 0) rfl rfl rfl rfl nB ?_
    refine wz.u.u.z ?_
    refine bw rfl rfl (fun h48 => ?_) (fun h48 => ?_)
    ·refine wz.b.a.u.u.AI.k.u.z ?_
     refine an rfl (fun h1 => ?_) (fun h1 => ?_)
     ·refine wz.l.i.b.a.c.z ?_
      exact ao [] rfl rfl sM ⟨vb (by simp [nr, hh]; intros; omega), rfl, rfl⟩
     ·refine wz.d.j.z ?_
      exact hK _ ⟨hne, oM, fun hx => by have h5 := hx.1; rw [Fw nB] at h5; have h6 := hx.2; omega⟩ ⟨rfl, trivial⟩
    ·refine wz.d.j.o.b.a.u.h.h.h.z ?_
     exact hK _ ⟨hne, oM, fun hx => by have h5 := hx.1; rw [Fw nB] at h5; have h6 := hx.2; omega⟩ ⟨rfl, trivial⟩
theorem aED (g : ab) (s : Bytes) : Pure prog 206 [str s] g (.bool (l7 s)) := by
 refine aw func206 rfl ntmps206 rfl fun E hE => ?_
 refine wz.b.a.a.c.e.b.a.c.z ?_
 refine an rfl (fun h0 => ?_) (fun h0 => ?_)
 ·refine wz.l.i.b.a.c.z ?_
  exact ao [] rfl rfl sM ⟨vb (by simp [l7, h0]), rfl, rfl⟩
 ·refine wz.p.b.a.c.e.d.j.z ?_
  refine aX (ι := Nat) (fun k => [(0, str s), (3, .int .i64 k)]) (fun _ => g) (fun _ => []) (fun k => k ≤ 11 ∧ ∀ c ∈ kA.take k, s ≠ [c]) (fun k => 11 - k) 0 ⟨oM, sM⟩ ⟨rfl, rfl, trivial⟩ rfl rfl ?_
  rintro k ⟨hk, hall⟩
  refine wz.b.a.a.c.e.z ?_
  refine an rfl (fun hlt => ?_) (fun hlt => ?_)
  ·have af : k < 11 := by omega
   have dj : k < kA.length := af
   refine wz.E.a.a.a.c.p.e.d.j.z ?_
   refine nW (l := kA) (p := k) (q := k + 1) rfl rfl ⟨_, _, rfl, rfl⟩ ⟨_, _, rfl, oM⟩ oM af ?_
   have jB : (kA.take (k + 1)).drop k = [kA[k]] := by
    rw [List.take_succ_eq_append_getElem dj, List.drop_append_of_le_length nM]
    simp
   rw [jB]
   refine wz.b.a.z ?_
   refine an rfl (fun h => ?_) (fun h => ?_)
   ·refine wz.l.x.l.l.x.i.b.a.c.z ?_
    exact ao [] rfl rfl sM ⟨vb (by simp [l7]; exact .inr ⟨_, List.getElem_mem dj, h⟩), rfl, rfl⟩
   ·refine wz.b.a.E.a.r.d.y.j.z ?_
    refine aM (k + 1) ⟨oM, fun c hc => ?_⟩ oM ⟨rfl, rfl, trivial⟩ rfl rfl
    rw [List.take_succ_eq_append_getElem dj, List.mem_append] at hc
    rcases hc with hc | hc
    ·exact hall c hc
    ·simp only [List.mem_singleton] at hc; subst hc; exact h
  ·refine wz.i.b.a.c.d.D.m.m.C.z ?_
   have aEE : k = 11 := by omega
   subst aEE
   have ht : kA.take 11 = kA := rfl
   rw [ht] at hall
   exact ao [] rfl rfl sM ⟨vb (by simp [l7, h0]; exact hall), rfl, rfl⟩
theorem Tc (g : ab) (s : Bytes) (hs : s.length ≤ 9223372036854775807) : Pure prog 176 [str s] g (.int .i64 (kindOf s)) := by
 refine aw func176 rfl ntmps176 rfl fun E hE => ?_
 refine wz.a.c.p.e.b.a.c.z ?_
 refine aO rfl rfl (Sc g s) ?_
 refine wz.b.a.z ?_
 refine fS rfl (fun h1 => ?_) (fun h1 => ?_)
 ·refine wz.l.x.i.b.a.c.z ?_
  exact ao [] rfl rfl sM ⟨vi (by simp [kindOf, *]), rfl, rfl⟩
 refine wz.a.c.z ?_
 refine aO rfl rfl (aEA g s hs) ?_
 refine wz.b.a.z ?_
 refine fS rfl (fun h2 => ?_) (fun h2 => ?_)
 ·refine wz.l.x.i.b.a.c.z ?_
  exact ao [] rfl rfl sM ⟨vi (by simp [kindOf, *]), rfl, rfl⟩
 refine wz.a.c.z ?_
 refine aO rfl rfl (aEB g s hs) ?_
 refine wz.b.a.z ?_
 refine fS rfl (fun h3 => ?_) (fun h3 => ?_)
 ·refine wz.l.x.i.b.a.c.z ?_
  exact ao [] rfl rfl sM ⟨vi (by simp [kindOf, *]), rfl, rfl⟩
 refine wz.a.c.z ?_
 refine aO rfl rfl (aEC g s hs) ?_
 refine wz.b.a.z ?_
 refine fS rfl (fun h4 => ?_) (fun h4 => ?_)
 ·refine wz.l.x.i.b.a.c.z ?_
  exact ao [] rfl rfl sM ⟨vi (by simp [kindOf, *]), rfl, rfl⟩
 refine wz.a.c.z ?_
 refine aO rfl rfl (aED g s) ?_
 refine wz.b.a.z ?_
 refine fS rfl (fun h5 => ?_) (fun h5 => ?_)
 ·refine wz.l.x.i.b.a.c.z ?_
  exact ao [] rfl rfl sM ⟨vi (by simp [kindOf, *]), rfl, rfl⟩
 ·refine wz.i.b.a.c.d.y.j.z ?_
  exact ao [] rfl rfl sM ⟨vi (by simp [kindOf, *]), rfl, rfl⟩
end Go.Proofs.YtlnjfkfojkgiiaaGreatDoor
namespace Go.Proofs.YtlnjfkfojkgiiaaGreatDoor
attribute [local irreducible] wpList Code.wp ah bodyPost Go.aZ.Ends Exit.then Exit.inBlock dJ Wq Kq
def jM (t : Tok) : List Value := [.int .i64 t.kind, str t.text, .int .i64 t.pos]
@[reducible] def KO (t : Tok) : Value := .agg #[.int .i64 t.kind, str t.text, .int .i64 t.pos]
theorem eP (t : Tok) : (jM t).length = 3 := rfl
end Go.Proofs.YtlnjfkfojkgiiaaGreatDoor
namespace Go.Proofs.YtlnjfkfojkgiiaaGreatDoor
attribute [local irreducible] wpList Code.wp ah bodyPost Go.aZ.Ends Exit.then Exit.inBlock dJ Wq Kq
theorem aV.rd {g : ab} {ta : List Ty} {xs : List Value} {b off : Nat} {own : List aA} (ht : aV g ta xs) (hx : ∀ k x, xs[k]? = some x → g b (off + k) = some x) {i : Nat} (h : i < ta.length) :
  ∃ sl, bx g ta[i] (aH ta[i] sl) ∧ Rd g own b (off + i * 5) (aH ta[i] sl) := by
 obtain ⟨c, h1, h2⟩ := ht.get i h
 obtain ⟨sl, rfl⟩ := h1.cells
 exact ⟨sl, h1, nc fun j x hj => by rw [Nat.add_assoc]; exact hx _ _ (h2 j x hj)⟩
theorem ND (g : ab) (ta : List Ty) (wo : ∀ t ∈ ta, ∀ u v, aQ g u t → aQ g v t → Pure prog 12 [u, v] g (.bool true)) (u v : Value) (xs ys : List Value)
  (hu : au g 5 u ta.length xs) (hx : aV g ta xs) (hv : au g 5 v ta.length ys) (hy : aV g ta ys) : Pure prog 35 [u, v] g (.bool true) := by
 have hle := hu.le
 refine aw func35 rfl ntmps35 rfl fun E hE => ?_
 refine wz.b.a.AU.a.AU.a.c.e.b.a.c.z ?_
 refine an rfl (fun h => absurd rfl h) (fun _ => ?_)
 refine wz.p.b.a.c.e.d.j.z ?_
 refine aX (ι := Nat) (fun k => [(0, u), (1, v), (5, .int .i64 k)]) (fun _ => g) (fun _ => []) (fun k => k ≤ ta.length) (fun k => ta.length - k) 0 oM ⟨rfl, rfl, rfl, trivial⟩ rfl rfl ?_
 intro k hk
 refine wz.b.a.AU.a.a.c.e.z ?_
 refine an rfl (fun hlt => ?_) (fun hlt => ?_)
 ·have af : k < ta.length := by omega
  obtain ⟨b, off, cap, rfl, dB⟩ := hu.held af
  obtain ⟨b', fo, jZ, rfl, oV⟩ := hv.held af
  obtain ⟨sl, h1, g_⟩ := hx.rd (own := []) dB af
  obtain ⟨cS, h2, eM⟩ := hy.rd (own := []) oV af
  refine wz.Aj.s.s.Ab.e.p.e.d.j.z ?_
  refine bR rfl (dL rfl g_ rfl) ?_
  refine wz.Aj.s.s.z ?_
  refine bR rfl (dL rfl eM rfl) ?_
  refine iy rfl rfl (wo _ (List.getElem_mem af) _ _ ⟨sl, rfl, h1⟩ ⟨cS, rfl, h2⟩) ?_
  refine wz.b.a.E.a.r.d.y.j.o.d.T.s.z ?_
  exact aM (k + 1) oM oM ⟨rfl, rfl, rfl, trivial⟩ rfl rfl
 ·refine wz.i.b.a.c.d.D.m.m.C.z ?_
  exact ao [] rfl rfl sM ⟨rfl, rfl, rfl⟩
theorem Se (g : ab) : ∀ (N : Nat) (t : Ty) (u v : Value), SizeOf.sizeOf t < N → aQ g u t → aQ g v t → Pure prog 12 [u, v] g (.bool true)
 | 0, _, _, _, h, _, _ => by omega
 | N + 1, t, u, v, h, hu, hv => by
  have ih := Se g N
  obtain ⟨sl, rfl, h1⟩ := hu
  obtain ⟨cS, rfl, h2⟩ := hv
  obtain ⟨xs, aJ, eE⟩ := h1.args
  obtain ⟨ys, bj, gZ⟩ := h2.args
  have hall := ND g t.args (fun t' eF u v h1 h2 => ih t' u v (by
   have := List.sizeOf_lt_of_mem eF
   cases t with
   | mk k n i hh ta => simp only [Ty.args] at this; simp at h; omega) h1 h2) sl cS xs ys aJ eE bj gZ
  refine aw func12 rfl ntmps12 rfl fun E hE => ?_
  refine aS ?_
  refine aP rfl rfl rfl (fun b2 => ?_)
  refine aP rfl rfl rfl (fun b3 => ?_)
  refine wz.a.a.v.g.I.g.c.e.b.a.z ?_
  refine bw rfl rfl (fun h => absurd rfl h) (fun _ => ?_)
  refine wz.a.a.u.v.k.g.k.I.k.g.k.z ?_
  refine bw rfl rfl (fun h => absurd rfl h) (fun _ => ?_)
  refine wz.a.a.u.v.k.g.k.I.k.g.k.z ?_
  refine bw rfl rfl (fun h => absurd rfl h) (fun _ => ?_)
  refine wz.b.a.u.v.k.g.k.I.k.g.k.z ?_
  refine an rfl (fun h => absurd rfl h) (fun _ => ?_)
  refine wz.v.g.I.g.c.d.j.z ?_
  refine aO rfl rfl hall ?_
  refine wz.i.b.a.z ?_
  exact ao [] rfl rfl sM ⟨rfl, rfl, rfl⟩
theorem sH (g : ab) (t : Ty) (u v : Value) (hu : aQ g u t) (hv : aQ g v t) : Pure prog 12 [u, v] g (.bool true) := Se g _ t u v (Nat.lt_succ_self _) hu hv
def TB (l : List Tok) : Prop := l.length ≤ 1000000 ∧ ∀ t ∈ l, -1000000 ≤ t.pos ∧ t.pos ≤ 1000000 ∧ t.text.length ≤ 1000000
abbrev cg (g : ab) (v : Value) (l : List Tok) : Prop := au g 3 v l.length (l.flatMap jM)
theorem qX {g : ab} {l : List Tok} {b off : Nat} {own : List aA} (hx : ∀ k x, (l.flatMap jM)[k]? = some x → g b (off + k) = some x) {i : Nat} (h : i < l.length) : Rd g own b (off + i * 3) (jM l[i]) := aCY eP hx h
def lL (p : Int) : Value := .iface 230 (.agg #[.int .i64 p])
theorem Jg (g : ab) (v : Value) (l : List Tok) (hs : cg g v l) (hb : TB l) (i : Nat) (hi : i ≤ 2000000) : Pure prog 127 [v, .int .i64 i] g (lL (bH l i)) := by
 refine aw func127 rfl ntmps127 rfl fun E hE => ?_
 refine wz.b.a.a.AU.a.a.c.p.e.b.a.c.b.a.c.z ?_
 refine an rfl (fun hlt => ?_) (fun hlt => ?_)
 ·have af : i < l.length := by omega
  obtain ⟨b, off, cap, rfl, hx⟩ := hs.held af
  have hf : bH l i = l[i].pos := by unfold bH; rw [List.getElem?_eq_getElem af]
  refine wz.g.M.a.a.r.z ?_
  refine cj rfl rfl (au.cell eP hx af 2 rfl) ?_
  refine wz.i.b.a.Bh.K.a.c.d.y.N.a.z ?_
  exact ao [] rfl rfl sM ⟨by rw [hf]; rfl, rfl, rfl⟩
 ·have hn : l[i]? = none := List.getElem?_eq_none oM
  refine wz.b.a.a.AU.a.c.z ?_
  refine an rfl (fun h0 => ?_) (fun h0 => ?_)
  ·have f_ : l.length - 1 < l.length := by omega
   have dh := hb.1
   have eL := hb.2 _ (List.getElem_mem f_)
   obtain ⟨b, off, cap, rfl, hx⟩ := hs.held f_
   have hf : bH l i = l[l.length - 1].pos + l[l.length - 1].text.length := by
    unfold bH; rw [hn, List.getLast?_eq_getElem?, List.getElem?_eq_getElem f_]
   refine wz.AE.A.a.a.c.z ?_
   rw [show (l.length : Int) - 1 = ((l.length - 1 : Nat) : Int) by omega]
   refine gV (j := l.length - 1) rfl rfl rfl rfl f_ ?_
   refine eY rfl rfl (vs := jM l[l.length - 1]) (qX hx f_) rfl ?_
   refine aj rfl (fun b6 => ?_)
   refine wz.i.b.a.Bh.K.a.c.d.y.N.a.E.AI.v.g.v.g.r.b.q.z ?_
   exact ao [] rfl rfl sM ⟨by rw [hf]; rfl, rfl, rfl⟩
  ·have hf : bH l i = 0 := by
    unfold bH; rw [hn, List.getLast?_eq_getElem?, List.getElem?_eq_none oM]
   refine wz.i.b.a.Bh.K.a.c.d.y.j.z ?_
   exact ao [] rfl rfl sM ⟨by rw [hf]; rfl, rfl, rfl⟩
theorem Sf (g : ab) (v : Value) (l : List Tok) (hs : cg g v l) (i : Nat) (w : Bytes) : Pure prog 107 [v, .int .i64 i, str w] g (.bool (bB l i w)) := by
 refine aw func107 rfl ntmps107 rfl fun E hE => ?_
 refine wz.a.a.AU.a.a.c.b.a.c.z ?_
 refine bw rfl rfl (fun hlt => ?_) (fun hlt => ?_)
 ·have af : i < l.length := by omega
  obtain ⟨b, off, cap, rfl, hx⟩ := hs.held af
  have hm : bB l i w = (decide (l[i].kind = 5) && decide (l[i].text = w)) := by unfold bB df; rw [List.getElem?_eq_getElem af]
  refine wz.k.g.k.M.k.u.u.z ?_
  refine cj rfl rfl (au.cell eP hx af 0 rfl) ?_
  refine wz.a.a.u.z ?_
  refine bw rfl rfl (fun h5 => ?_) (fun h5 => ?_)
  ·refine wz.k.g.k.M.k.u.u.z ?_
   refine cj rfl rfl (au.cell eP hx af 1 rfl) ?_
   refine wz.i.b.a.a.u.u.z ?_
   exact ao [] rfl rfl sM ⟨by rw [hm]; simp [h5], rfl, rfl⟩
  ·refine wz.i.b.a.a.h.h.h.h.h.h.h.z ?_
   exact ao [] rfl rfl sM ⟨by rw [hm]; simp [h5], rfl, rfl⟩
 ·have hm : bB l i w = false := by unfold bB df; rw [List.getElem?_eq_none oM]
  refine wz.i.b.a.a.h.h.h.h.h.h.h.a.a.h.h.h.h.h.h.z ?_
  exact ao [] rfl rfl sM ⟨by rw [hm], rfl, rfl⟩
theorem Gs (g : ab) (t : Tok) : Pure prog 67 [KO t] g (.bool (kQ t)) := by
 refine aw func67 rfl ntmps67 rfl fun E hE => ?_
 refine aS <| aP rfl rfl rfl (fun b => ?_); refine wz.a.a.v.g.c.b.a.z ?_
 refine bw rfl rfl (fun h1 => ?_) (fun h1 => ?_)
 ·refine wz.i.b.a.a.h.AY.AY.AY.h.h.h.h.a.a.h.h.h.z ?_
  exact ao [] rfl rfl sM ⟨by simp [kQ, h1], rfl, rfl⟩
 refine wz.a.a.u.v.k.g.k.z ?_
 refine bw rfl rfl (fun h2 => ?_) (fun h2 => ?_)
 ·refine wz.i.b.a.a.h.AY.AY.AY.h.h.h.h.z ?_
  exact ao [] rfl rfl sM ⟨by simp [kQ, h2], rfl, rfl⟩
 refine wz.u.u.v.k.g.k.z ?_
 refine bw rfl rfl (fun h5 => ?_) (fun h5 => ?_)
 ·refine wz.i.b.a.a.u.u.v.k.g.k.z ?_
  exact ao [] rfl rfl sM ⟨by simp [kQ, h1, h2, h5], rfl, rfl⟩
 ·refine wz.i.b.a.a.u.h.h.h.z ?_
  exact ao [] rfl rfl sM ⟨by simp [kQ, h1, h2, h5], rfl, rfl⟩
def idxOf (n : Nat) (i : Int) : Nat := if i < 0 then n else min i.toNat n
theorem index_spec (g : ab) (v : Value) (l : List Tok) (hs : cg g v l) (i : Int) : Pure prog 79 [v, .int .i64 i] g (.int .i64 (idxOf l.length i)) := by
 refine aw func79 rfl ntmps79 rfl fun E hE => ?_
 refine wz.b.a.a.c.e.b.a.c.z ?_
 refine an rfl (fun h => ?_) (fun h => ?_)
 ·refine wz.l.i.b.a.AU.a.c.z ?_
  exact ao [] rfl rfl sM ⟨vi (by simp [idxOf, h]), rfl, rfl⟩
 ·refine wz.i.b.a.BL.AU.a.a.c.d.j.z ?_
  exact ao [] rfl rfl sM ⟨vi (by simp only [idxOf, h, if_false]; omega), rfl, rfl⟩
end Go.Proofs.YtlnjfkfojkgiiaaGreatDoor
namespace Go.Proofs.YtlnjfkfojkgiiaaGreatDoor
attribute [local irreducible] wpList Code.wp ah bodyPost Go.aZ.Ends Exit.then Exit.inBlock dJ Wq Kq
def oR (n i : Nat) (r : TR) (v : Value) (g' : ab) : Prop := match r with
 | .ok (t, j) => ∃ tv, v = .tuple #[tv, .int .i64 j, .nilIface] ∧ aQ g' tv t ∧ i < j ∧ j ≤ n
 | .error p => ∃ (tv : Value) (j : Nat) (t : Ty), v = .tuple #[tv, .int .i64 j, lL p] ∧ aQ g' tv t ∧ j ≤ n + 1 + (n - i)
theorem eB {l : List Tok} {i : Nat} (h : i < l.length) : l[i]? = some l[i] := List.getElem?_eq_getElem h
theorem aEF {l : List Tok} (hb : TB l) (m : Nat) (hW : ∀ g v i, cg g v l → i ≤ l.length → l.length - i < m → bK prog 78 [v, .int .i64 i] g (oR l.length i (a_ l .whole i)))
  (g : ab) (v : Value) (i : Nat) (hs : cg g v l) (hi : i ≤ l.length) (hm : l.length - i < m + 1) : bK prog 97 [v, .int .i64 i] g (oR l.length i (a_ l .atom i)) := by
 have dh := hb.1
 have hr := nV l i
 refine aw func97 rfl ntmps97 rfl fun E hE => ?_
 refine aS ?_
 refine aj rfl (fun b4 => ?_)
 refine wz.a.a.AU.a.a.c.p.e.b.a.a.z ?_
 refine bw rfl rfl (fun nh => ?_) (fun nh => ?_)
 ·rw [List.getElem?_eq_none oM] at hr
  refine wz.a.a.a.K.c.t.b.a.a.h.h.h.h.h.h.z ?_
  refine aO rfl rfl (Jg g v l hs hb i oM) ?_
  refine wz.l.x.i.b.a.a.q.z ?_
  refine eO [] rfl (ay 0 rfl rfl rL) (.tmp rfl) (.tmp rfl) sM ⟨?_, rfl⟩
  rw [hr]
  exact ⟨_, i, bX, rfl, pZ g, oM⟩
 have hlt : i < l.length := by omega
 rw [eB hlt] at hr
 simp only at hr
 obtain ⟨b, off, cap, rfl, hx⟩ := hs.held hlt
 refine wz.k.M.k.u.u.z ?_
 refine eY rfl rfl (vs := jM l[i]) (qX hx hlt) rfl ?_
 refine wz.k.z ?_
 refine aO rfl rfl (Gs g l[i]) ?_
 cases bG : kQ l[i] with
 | false =>
  have hk : ¬ l[i].kind = 1 ∧ ¬ l[i].kind = 2 ∧ ¬ (l[i].kind = 5 ∧ l[i].text = [40]) := by
   simp only [kQ, Bool.or_eq_false_iff, Bool.and_eq_false_iff, decide_eq_false_iff_not] at bG
   exact ⟨bG.1.1, bG.1.2, fun h => bG.2.elim (fun h' => h' h.1) (fun h' => h' h.2)⟩
  rw [if_neg hk.1, if_neg hk.2.1, if_neg hk.2.2] at hr
  refine wz.a.a.a.K.c.t.b.a.a.u.z ?_
  refine aO rfl rfl (Jg g _ l hs hb i oM) ?_
  refine wz.l.x.i.b.a.a.q.z ?_
  refine eO [] rfl (ay 0 rfl rfl rL) (.tmp rfl) (.tmp rfl) sM ⟨?_, rfl⟩
  rw [hr]
  exact ⟨_, i, bX, rfl, pZ g, oM⟩
 | true =>
  refine wz.g.M.a.a.c.o.b.a.a.u.z ?_
  refine cj rfl rfl (au.cell eP hx hlt 0 rfl) ?_
  refine wz.b.a.a.z ?_
  refine an rfl (fun h1 => ?_) (fun h1 => ?_)
  ·rw [if_pos h1] at hr
   refine wz.g.M.a.a.c.z ?_
   refine cj rfl rfl (au.cell eP hx hlt 1 rfl) ?_
   refine wz.l.x.i.b.a.a.q.E.a.K.z ?_
   refine eO [] rfl (ay 0 rfl rfl rL) (.tmp rfl) (.tmp rfl) sM ⟨?_, rfl⟩
   rw [hr]
   exact ⟨_, rfl, R7 g _, oM, oM⟩
  rw [if_neg h1] at hr
  refine wz.g.M.a.a.c.z ?_
  refine cj rfl rfl (au.cell eP hx hlt 0 rfl) ?_
  refine wz.b.a.a.z ?_
  refine an rfl (fun h2 => ?_) (fun h2 => ?_)
  ·rw [if_pos h2] at hr
   refine wz.g.M.a.a.c.z ?_
   refine cj rfl rfl (au.cell eP hx hlt 1 rfl) ?_
   refine aB rfl rfl (El g l[i].text _ [] _ (cP g 5) (cQ g) sM) ?_
   rintro w g1 ⟨sl, rfl, hw⟩ hle
   obtain ⟨_, aq, _⟩ := hw.args
   obtain ⟨a, m', c, rfl⟩ := au.form aq
   refine wz.l.x.i.b.a.a.q.E.a.z ?_
   refine eO [] rfl (ay 0 rfl rfl rL) (.tmp rfl) (.tmp rfl) sM ⟨?_, rfl⟩
   rw [hr]
   exact ⟨_, rfl, ⟨_, rfl, hw⟩, oM, oM⟩
  rw [if_neg h2] at hr
  have hp : l[i].kind = 5 ∧ l[i].text = [40] := by
   simp only [kQ, h1, h2, decide_false, Bool.false_or, Bool.and_eq_true, decide_eq_true_eq] at bG
   exact bG
  rw [if_pos hp] at hr
  refine wz.E.a.a.c.d.y.j.z ?_
  refine aB rfl (xs := _) rfl (hW g _ (i + 1) hs oM oM) ?_
  rintro w g1 hw hle
  cases hq : a_ l .whole (i + 1) with
  | error p =>
   rw [hq] at hw hr
   simp only at hr
   obtain ⟨tv, j, t, rfl, ⟨sl, rfl, ht⟩, hj⟩ := hw
   obtain ⟨_, aq, _⟩ := ht.args
   obtain ⟨a, m', c, rfl⟩ := au.form aq
   unfold lL
   refine wz.a.a.a.a.z ?_
   refine aj rfl (fun b7 => ?_)
   refine wz.i.b.a.a.B.a.E.a.G.c.d.j.o.b.a.h.h.h.h.a.Bt.a.c.e.b.a.a.q.z ?_
   refine eO [] rfl (ay 1 rfl rfl rL) (.tmp rfl) (.tmp rfl) sM ⟨?_, rfl⟩
   rw [hr]
   exact ⟨_, j + 1, t, rfl, ⟨_, rfl, ht⟩, oM⟩
  | ok q =>
   obtain ⟨t, j⟩ := q
   rw [hq] at hw hr
   simp only at hr
   obtain ⟨tv, rfl, ⟨sl, rfl, ht⟩, ik, cE⟩ := hw
   obtain ⟨_, aq, _⟩ := ht.args
   obtain ⟨a, m', c, rfl⟩ := au.form aq
   refine wz.a.a.a.a.z ?_
   refine aj rfl (fun b7 => ?_)
   refine wz.a.c.e.b.a.a.q.z ?_; refine zS rfl rfl <| wz.k.u.u.a.z ?_
   refine aO rfl rfl (Sf g1 _ l (hs.mono hle) j [41]) ?_
   cases hk : bB l j [41] with
   | true =>
    rw [hk] at hr
    refine wz.i.b.a.a.B.a.E.a.G.c.d.j.o.b.a.u.z ?_
    refine eO [] rfl (ay 1 rfl rfl rL) (.tmp rfl) (.tmp rfl) sM ⟨?_, rfl⟩
    rw [hr]
    have := cF hk
    exact ⟨_, rfl, ⟨_, rfl, ht⟩, oM, oM⟩
   | false =>
    rw [hk] at hr
    refine wz.a.a.r.t.b.a.u.z ?_
    refine aO rfl rfl (Jg g1 _ l (hs.mono hle) hb j oM) ?_
    refine wz.i.b.a.a.B.a.E.a.G.c.b.a.z ?_
    refine eO [] rfl (ay 1 rfl rfl rL) (.tmp rfl) (.tmp rfl) sM ⟨?_, rfl⟩
    rw [hr]
    exact ⟨_, j + 1, t, rfl, ⟨_, rfl, ht⟩, oM⟩
end Go.Proofs.YtlnjfkfojkgiiaaGreatDoor
namespace Go.Proofs.YtlnjfkfojkgiiaaGreatDoor
attribute [local irreducible] wpList Code.wp ah bodyPost Go.aZ.Ends Exit.then Exit.inBlock dJ Wq Kq
theorem aQ.bA {g : ab} {v : Value} {t : Ty} (h : aQ g v t) : ∃ a m c, v = .agg #[.int .i64 t.kind, str t.name, .int .i64 t.id, .int .i64 t.home, .slice a m c] ∧ bx g t (aH t (.slice a m c)) := by
 obtain ⟨sl, rfl, ht⟩ := h
 obtain ⟨_, aq, _⟩ := ht.args
 obtain ⟨a, m, c, rfl⟩ := au.form aq
 exact ⟨a, m, c, rfl, ht⟩
theorem aEG {l : List Tok} (hb : TB l) (m : Nat) (hA : ∀ g v i, cg g v l → i ≤ l.length → l.length - i < m → bK prog 97 [v, .int .i64 i] g (oR l.length i (a_ l .atom i)))
  (g : ab) (v : Value) (i : Nat) (hs : cg g v l) (hi : i ≤ l.length) (hm : l.length - i < m) : bK prog 106 [v, .int .i64 i] g (oR l.length i (a_ l .fA i)) := by
 have dh := hb.1
 have hr := oX l i
 have dF := nV l i
 refine aw func106 rfl ntmps106 rfl fun E hE => ?_
 refine aS ?_
 refine aj rfl (fun b4 => ?_)
 refine wz.a.a.c.b.a.a.z ?_
 refine aB rfl rfl (hA g v i hs hi hm) ?_
 rintro w g1 hw hle
 cases hq : a_ l .atom i with
 | error p =>
  rw [hq] at hw
  have dA : a_ l .fA i = .error p := by
   rw [hr]
   cases hl : l[i]? with
   | none => exact hq
   | some t =>
    simp only
    by_cases h2 : t.kind = 2
    ·rw [hl] at dF
     simp only [h2] at dF
     rw [hq] at dF
     simp at dF
    ·rw [if_neg h2]; exact hq
  obtain ⟨tv, j, t, rfl, cO, hj⟩ := hw
  obtain ⟨a, m', c, rfl, ht⟩ := cO.bA
  unfold lL
  refine wz.a.a.a.a.z ?_
  refine aj rfl (fun b7 => ?_)
  refine wz.l.i.b.a.a.B.a.a.G.c.t.b.a.h.h.h.h.h.h.a.AZ.a.c.e.b.a.a.q.z ?_
  refine eO [] rfl (ay 1 rfl rfl rL) (.tmp rfl) (.tmp rfl) sM ⟨?_, rfl⟩
  rw [dA]
  exact ⟨_, j, t, rfl, ⟨_, rfl, ht⟩, hj⟩
 | ok q =>
  obtain ⟨t, j⟩ := q
  rw [hq] at hw
  obtain ⟨tv, rfl, cO, ik, cE⟩ := hw
  have hlt : i < l.length := by omega
  rw [eB hlt] at hr dF
  simp only at hr dF
  obtain ⟨b, off, cap, rfl, hx⟩ := hs.held hlt
  obtain ⟨a, m', c, rfl, ht⟩ := cO.bA
  refine wz.a.a.a.a.z ?_
  refine aj rfl (fun b7 => ?_)
  refine wz.k.g.k.M.k.u.u.a.Ba.a.c.e.b.a.a.q.z ?_
  refine cj rfl rfl (au.cell eP (fun k x h => hle _ _ _ (hx k x h)) hlt 0 rfl) ?_
  refine wz.b.a.u.z ?_
  refine an rfl (fun h2 => ?_) (fun h2 => ?_)
  ·have dA : a_ l .fA i = .ok (t, j) := by rw [hr, if_neg h2]; exact hq
   refine wz.l.i.b.a.a.B.a.a.G.c.z ?_
   refine eO [] rfl (ay 1 rfl rfl rL) (.tmp rfl) (.tmp rfl) sM ⟨?_, rfl⟩
   rw [dA]
   exact ⟨_, rfl, ⟨_, rfl, ht⟩, ik, cE⟩
  have ff : l[i].kind = 2 := Decidable.not_not.1 h2
  have Sg : (Except.ok (t, j) : TR) = .ok (bJ l[i].text [], i + 1) := by rw [← hq, dF, ff]; simp
  simp only [Except.ok.injEq, Prod.mk.injEq] at Sg
  obtain ⟨rfl, rfl⟩ := Sg
  rw [if_pos ff] at hr
  have eu := hs.mono hle
  clear dF hq
  refine wz.AD.p.e.b.a.c.d.j.z ?_
  refine aX (ι := Nat × List Ty × Value × List Value × ab) (fun p => [(0, .slice (some ⟨b, off, none⟩) l.length cap), (4, ptr b4 0), (7, ptr b7 0), (8, .int .i64 p.1), (10, p.2.2.1)]) (fun p => p.2.2.2.2)
   (fun p => [.row 41 5 p.2.2.1 p.2.1.length p.2.2.2.1, .ae b7 41 (aH (bJ l[i].text []) (.slice a m' c)), .ae b4 41 [.int .i64 0, str [], .int .i64 0, .int .i64 0, .slice none 0 0]])
   (fun p => i + 1 ≤ p.1 ∧ p.1 ≤ l.length ∧ p.2.1.length ≤ p.1 ∧ aV p.2.2.2.2 p.2.1 p.2.2.2.1 ∧ ab.le g1 p.2.2.2.2 ∧ a_ l .fA i = a_ l (.args l[i].text p.2.1) p.1) (fun p => l.length - p.1) (i + 1, [], .slice none 0 0, [], g1)
   ⟨Nat.le_refl _, cE, sM, cQ g1, ab.le_refl _, hr⟩ ⟨rfl, rfl, rfl, rfl, rfl, trivial⟩ rfl rfl ?_
  rintro ⟨j, ta, fG, xs, g2⟩ ⟨k1, k2, k3, k4, k5, k6⟩
  simp only at k1 k2 k3 k4 k5 k6
  try dsimp only
  have bj := eu.mono k5
  have dF := nQ l l[i].text ta j
  refine zu [(0, .slice (some ⟨b, off, none⟩) l.length cap), (4, ptr b4 0), (7, ptr b7 0), (8, .int .i64 j), (10, fG)] (gH l j = true) ?_ ?_
  ·intro bG
   have eK := r8 bG
   rw [bG] at dF
   simp only [if_true] at dF
   refine wz.c.p.z ?_
   refine aj rfl (fun dY => ?_)
   refine wz.a.a.c.e.b.z ?_
   refine aB rfl rfl (hA g2 _ j bj k2 oM) ?_
   rintro w g3 hw aF
   cases hq : a_ l .atom j with
   | error p =>
    rw [hq] at hw dF
    simp only at dF
    obtain ⟨tv, j', t', rfl, qb, dr⟩ := hw
    obtain ⟨a2, m2, c2, rfl, gZ⟩ := qb.bA
    unfold lL
    refine wz.l.x.l.x.l.i.b.a.a.Au.a.a.Af.c.t.b.AZ.a.c.b.a.a.q.a.a.a.a.z ?_
    refine eO [] rfl (ay 3 rfl rfl rL) (.tmp rfl) (.tmp rfl) sM ⟨?_, rfl⟩
    rw [k6, dF]
    exact ⟨_, j', bJ l[i].text [], rfl, ⟨_, rfl, (ht.mono k5).mono aF⟩, oM⟩
   | ok q =>
    obtain ⟨x, j'⟩ := q
    rw [hq] at hw dF
    simp only at dF
    obtain ⟨tv, rfl, qb, Jh, ph⟩ := hw
    rw [if_pos Jh] at dF
    obtain ⟨a2, m2, c2, rfl, gZ⟩ := qb.bA
    refine wz.G.a.r.d.j.o.b.Ba.a.c.b.a.a.q.a.a.a.a.z ?_
    refine bu rfl rfl rL rL rL rL rL (fun b2 => ?_)
    refine cV 2 0 rfl rfl rfl rfl rfl rL rL rfl mL oM (fun v' _ => ?_)
    refine wz.BW.d.y.N.a.z ?_
    refine aM (j', ta ++ [x], v', xs ++ aH x (.slice a2 m2 c2), g3) ⟨uM, ph, nM, aV.snoc gZ (k4.mono aF), ab.le_trans k5 aF, by simp only; rw [k6, dF]⟩ uM ⟨rfl, rfl, rfl, rfl, rfl, trivial⟩ rfl ?_
    simp [aH, dO]
  ·intro K hK
   refine wz.a.a.A.a.a.c.z ?_
   refine bw rfl rfl (fun eK => ?_) (fun eK => ?_)
   ·have mI : j < l.length := by omega
    refine wz.k.M.k.u.u.z ?_
    refine eY rfl rfl (vs := jM l[j]) (qX (fun k x h => k5 _ _ _ (hle _ _ _ (hx k x h))) mI) rfl ?_
    refine wz.k.z ?_
    refine aO rfl rfl (Gs g2 l[j]) ?_
    cases bG : kQ l[j] with
    | true =>
     refine wz.d.j.t.b.a.z ?_
     exact hK _ (by unfold gH; rw [eB mI]; exact bG) ⟨rfl, rfl, rfl, rfl, rfl, trivial⟩
    | false =>
     refine wz.a.I.g.c.d.D.m.m.C.o.b.a.z ?_
     have DW : gH l j = false := by unfold gH; rw [eB mI]; exact bG
     rw [DW] at dF
     refine bg (fun g3 d_ bY => ?_)
     skip
     refine aB rfl rfl (El g3 l[i].text fG ta xs bY (k4.mono d_) oM) ?_
     rintro w g4 hw aR
     obtain ⟨a2, m2, c2, rfl, gZ⟩ := hw.bA
     refine wz.i.b.a.a.B.a.z ?_
     refine eO [] rfl (ay 1 rfl rfl rL) (.tmp rfl) (.tmp rfl) sM ⟨?_, rfl⟩
     rw [k6, dF]
     exact ⟨_, rfl, ⟨_, rfl, gZ⟩, oM, k2⟩
   ·refine wz.a.I.g.c.d.D.m.m.C.o.b.a.h.h.h.h.h.z ?_
    have DW : gH l j = false := by unfold gH; rw [List.getElem?_eq_none oM]
    rw [DW] at dF
    refine bg (fun g3 d_ bY => ?_)
    skip
    refine aB rfl rfl (El g3 l[i].text fG ta xs bY (k4.mono d_) oM) ?_
    rintro w g4 hw aR
    obtain ⟨a2, m2, c2, rfl, gZ⟩ := hw.bA
    refine wz.i.b.a.a.B.a.z ?_
    refine eO [] rfl (ay 1 rfl rfl rL) (.tmp rfl) (.tmp rfl) sM ⟨?_, rfl⟩
    rw [k6, dF]
    exact ⟨_, rfl, ⟨_, rfl, gZ⟩, oM, k2⟩
theorem aEH {l : List Tok} (hb : TB l) (m : Nat) (hW : ∀ g v i, cg g v l → i ≤ l.length → l.length - i < m → bK prog 78 [v, .int .i64 i] g (oR l.length i (a_ l .whole i)))
  (hP : ∀ g v i, cg g v l → i ≤ l.length → l.length - i < m + 1 → bK prog 106 [v, .int .i64 i] g (oR l.length i (a_ l .fA i)))
  (g : ab) (v : Value) (i : Nat) (hs : cg g v l) (hi : i ≤ l.length) (hm : l.length - i < m + 1) : bK prog 78 [v, .int .i64 i] g (oR l.length i (a_ l .whole i)) := by
 have dh := hb.1
 have hr := qJ l i
 refine aw func78 rfl ntmps78 rfl fun E hE => ?_
 refine aS ?_
 refine aj rfl (fun b4 => ?_)
 refine wz.a.a.c.b.a.a.z ?_
 refine aB rfl rfl (hP g v i hs hi hm) ?_
 rintro w g1 hw hle
 cases hq : a_ l .fA i with
 | error p =>
  rw [hq] at hw hr
  simp only at hr
  obtain ⟨tv, j, t, rfl, cO, hj⟩ := hw
  obtain ⟨a, m', c, rfl, ht⟩ := cO.bA
  unfold lL
  refine wz.a.a.a.a.z ?_
  refine aj rfl (fun b7 => ?_)
  refine wz.l.i.b.a.a.B.a.a.G.c.t.b.a.h.h.h.h.a.AZ.a.c.e.b.a.a.q.z ?_
  refine eO [] rfl (ay 1 rfl rfl rL) (.tmp rfl) (.tmp rfl) sM ⟨?_, rfl⟩
  rw [hr]
  exact ⟨_, j, t, rfl, ⟨_, rfl, ht⟩, hj⟩
 | ok q =>
  obtain ⟨t, j⟩ := q
  rw [hq] at hw hr
  simp only at hr
  obtain ⟨tv, rfl, cO, ik, cE⟩ := hw
  obtain ⟨a, m', c, rfl, ht⟩ := cO.bA
  refine wz.a.a.a.a.z ?_
  refine aj rfl (fun b7 => ?_)
  refine wz.k.u.u.a.Ba.a.c.e.b.a.a.q.z ?_
  refine aO rfl rfl (Sf g1 v l (hs.mono hle) j eg) ?_
  cases hk : bB l j eg with
  | false =>
   rw [hk] at hr
   refine wz.l.i.b.a.a.B.a.a.G.c.t.b.a.u.z ?_
   refine eO [] rfl (ay 1 rfl rfl rL) (.tmp rfl) (.tmp rfl) sM ⟨?_, rfl⟩
   rw [hr]
   exact ⟨_, rfl, ⟨_, rfl, ht⟩, ik, cE⟩
  | true =>
   rw [hk] at hr
   have eK := cF hk
   simp only [if_true] at hr
   rw [if_pos oM] at hr
   refine wz.E.a.a.c.d.j.o.b.a.u.z ?_
   refine aB rfl (xs := _) rfl (hW g1 _ (j + 1) (hs.mono hle) oM oM) ?_
   rintro w g2 hw aD
   cases ep : a_ l .whole (j + 1) with
   | error p =>
    rw [ep] at hw hr
    simp only at hr
    obtain ⟨tv, j2, t2, rfl, uk, ph⟩ := hw
    obtain ⟨a2, m2, c2, rfl, gZ⟩ := uk.bA
    unfold lL
    refine wz.a.a.a.a.z ?_
    refine aj rfl (fun b9 => ?_)
    refine wz.G.O.c.b.a.a.q.z ?_
    refine aB rfl rfl (R6 g2 t t2 _ _ ⟨_, rfl, ht.mono aD⟩ ⟨_, rfl, gZ⟩) ?_
    rintro w g3 hw aF
    obtain ⟨a3, m3, c3, rfl, um⟩ := hw.bA
    refine wz.i.b.a.a.V.a.a.z ?_
    refine eO [] rfl (ay 2 rfl rfl rL) (.tmp rfl) (.tmp rfl) sM ⟨?_, rfl⟩
    rw [hr]
    exact ⟨_, j2, _, rfl, ⟨_, rfl, um⟩, oM⟩
   | ok q2 =>
    obtain ⟨t2, j2⟩ := q2
    rw [ep] at hw hr
    simp only at hr
    obtain ⟨tv, rfl, uk, gW, fb⟩ := hw
    obtain ⟨a2, m2, c2, rfl, gZ⟩ := uk.bA
    refine wz.a.a.a.a.z ?_
    refine aj rfl (fun b9 => ?_)
    refine wz.G.O.c.b.a.a.q.z ?_
    refine aB rfl rfl (R6 g2 t t2 _ _ ⟨_, rfl, ht.mono aD⟩ ⟨_, rfl, gZ⟩) ?_
    rintro w g3 hw aF
    obtain ⟨a3, m3, c3, rfl, um⟩ := hw.bA
    refine wz.i.b.a.a.V.a.a.z ?_
    refine eO [] rfl (ay 2 rfl rfl rL) (.tmp rfl) (.tmp rfl) sM ⟨?_, rfl⟩
    rw [hr]
    exact ⟨_, rfl, ⟨_, rfl, um⟩, oM, fb⟩
theorem Ji {l : List Tok} (hb : TB l) : ∀ m : Nat,
  (∀ g v i, cg g v l → i ≤ l.length → l.length - i < m → bK prog 78 [v, .int .i64 i] g (oR l.length i (a_ l .whole i))) ∧
  (∀ g v i, cg g v l → i ≤ l.length → l.length - i < m → bK prog 97 [v, .int .i64 i] g (oR l.length i (a_ l .atom i)))
 | 0 => ⟨fun _ _ _ _ _ h => by omega, fun _ _ _ _ _ h => by omega⟩
 | m + 1 => by
  have ih := Ji hb m
  have hA := fun g v i => aEF hb m ih.1 g v i
  exact ⟨fun g v i => aEH hb m ih.1 (fun g v i => aEG hb (m + 1) hA g v i) g v i, hA⟩
theorem U_ {l : List Tok} (hb : TB l) (g : ab) (v : Value) (i : Nat) (hs : cg g v l) (hi : i ≤ l.length) : bK prog 78 [v, .int .i64 i] g (oR l.length i (a_ l .whole i)) := (Ji hb _).1 g v i hs hi (Nat.lt_succ_self _)
theorem WC {l : List Tok} (hb : TB l) (g : ab) (v : Value) (i : Nat) (hs : cg g v l) (hi : i ≤ l.length) : bK prog 97 [v, .int .i64 i] g (oR l.length i (a_ l .atom i)) := (Ji hb _).2 g v i hs hi (Nat.lt_succ_self _)
end Go.Proofs.YtlnjfkfojkgiiaaGreatDoor

/- Texts of expressions: the walk of typedholesref8.Expr at a case. -/
import Derived.Test.YtlnjfkfojkgiiaaGreatDoorK16
open Go Go.aZ Go.Th Go.Proofs Tryz
set_option maxRecDepth 10000
set_option maxHeartbeats 4000000
attribute [local irreducible] wpList Code.wp ah bodyPost Go.aZ.Ends Exit.then Exit.inBlock dJ Wq Kq
namespace Go.Th
theorem FZ : ∀ (x y : List Ar), ig (x ++ y) = ig x ++ ig y
 | [], y => by simp [ig]
 | a :: x, y => by simp only [List.cons_append, ig, FZ x y]; simp
def pn (i : Nat) : Bytes := if 0 < i then [32, 124, 32] else []
theorem VO {aa : List Ar} {i : Nat} (h : i < aa.length) : gI (aa.take (i + 1)) = gI (aa.take i) ++ (pn i ++ iO aa[i]) := by
 rw [List.take_succ_eq_append_getElem h]
 cases i with
 | zero => simp [gI, ig, pn]
 | succ i =>
  cases aa with
  | nil => simp at h
  | cons a r =>
   have h' : i < r.length := by simpa using h
   have e : (a :: r).take (i + 1) = a :: r.take i := rfl
   rw [e]
   simp only [List.cons_append, gI, FZ, List.getElem_cons_succ]
   simp [ig, pn]
theorem VP (aa : List Ar) (i : Nat) : (gI (aa.take i)).length ≤ (gI aa).length := by
 cases aa with
 | nil => simp
 | cons a r =>
  cases i with
  | zero => simp [gI]
  | succ i =>
   have := congrArg List.length (FZ (r.take i) (r.drop i))
   rw [List.take_append_drop, List.length_append] at this
   simp only [List.take_succ_cons, gI, List.length_append]
   omega
theorem Mm {vs : List Bytes} {k : Nat} (h : k < vs.length) : eU (vs.take (k + 1)) = eU (vs.take k) ++ (32 :: vs[k]) := by
 rw [List.take_succ_eq_append_getElem h]
 unfold eU
 rw [List.flatMap_append]
 simp
theorem VQ (vs : List Bytes) (k : Nat) : (eU (vs.take k)).length ≤ (eU vs).length := by
 have : eU vs = eU (vs.take k) ++ eU (vs.drop k) := by
  unfold eU
  rw [← List.flatMap_append, List.take_append_drop]
 rw [this, List.length_append]
 omega
theorem VR (a : Ar) : iO a = a.bQ ++ (eU a.vars ++ ([46, 32] ++ bL a.body)) := by
 cases a; simp [iO, Ar.bQ, Ar.vars, Ar.body]
theorem VS {aa : List Ar} {i : Nat} (h : i < aa.length) : aN aa[i].body < bZ aa := by
 have h1 := F1 (List.getElem_mem h)
 generalize aa[i] = a at h1 ⊢
 cases a
 simp only [hY, Ar.body] at h1 ⊢
 omega
end Go.Th
namespace Go.Proofs.YtlnjfkfojkgiiaaGreatDoor
theorem zY {g : ab} {ra : List Ar} {xa : List Value} {b off : Nat} (ht : fw g ra xa) (hx : ∀ k x, xa[k]? = some x → g b (off + k) = some x) {i : Nat} (h : i < ra.length) :
  ∃ sv bc, au g 1 sv ra[i].vars.length (ra[i].vars.map str) ∧ cJ g ra[i].body bc ∧ ∀ own, Rd g own b (off + i * 14) (.int .i64 ra[i].pos :: str ra[i].bQ :: sv :: bc) := by
 obtain ⟨c, h1, h2⟩ := aL.get (fun _ _ h => h.one.1) (nK.1 ht) i h
 generalize ra[i] = a at h1 ⊢
 cases a with
 | mk p cn vs e =>
  unfold gG at h1
  obtain ⟨fG, bc, rfl, h3, h4⟩ := h1
  exact ⟨fG, bc, h3, h4, fun own => nc fun j x hj => by rw [Nat.add_assoc]; exact hx _ _ (h2 j x hj)⟩
theorem VT (g : ab) (N : Nat) (ih : ∀ (e : Ex) (v : Value), aN e < N → eQ e → (bL e).length ≤ 1000000000000000 → cT g v e → Pure prog 21 [v] g (str (bL e)))
  (p : Int) (x : Ex) (aa : List Ar) (v : Value) (h : aN (eS p x aa) < N + 1) (hx0 : eQ x) (ha : ∀ a ∈ aa, eQ a.body) (hl : (bL (eS p x aa)).length ≤ 1000000000000000) (hv : cT g v (eS p x aa)) :
  Pure prog 21 [v] g (str (bL (eS p x aa))) := by
 obtain ⟨a1, c1, a2, c2, a3, m3, c3, xk, xa, rfl, h1, h2, h3, h4, h5⟩ := hv.open
 replace h1 : au g 11 (.slice a1 1 c1) 1 xk := h1
 replace h2 : dp g [x] xk := h2
 replace h3 : au g 14 (.slice a2 aa.length c2) aa.length xa := h3
 replace h4 : fw g aa xa := h4
 obtain ⟨b0, off, cap, aq, hx⟩ := h1.held (show 0 < 1 by omega)
 cases aq
 obtain ⟨c, k1, hr⟩ := me h2 hx (i := 0) sM
 replace k1 : cJ g x c := k1
 have bN : aN x < N := by simp [eS, aN, cd] at h; omega
 have jv : bZ aa < N := by simp [eS, aN] at h; omega
 have hlen := F2 aa
 rw [sS] at hl ⊢
 have e3 : kC.length = 4 ∧ kP.length = 2 ∧ iD.length = 3 := by decide
 simp only [List.length_append, List.length_cons, List.length_nil] at hl
 obtain ⟨S0, F3⟩ : ∃ S0 : Bytes, S0 = [99, 97, 115, 101, 32] ++ bL x ++ [32, 111, 102, 32] := ⟨_, rfl⟩
 have aE1 : S0.length = (bL x).length + 9 := by rw [F3]; simp only [List.length_append, List.length_cons, List.length_nil]; omega
 show Pure prog 21 [.agg #[.int .i64 8, .int .i64 p, str [], .int .i64 0, .slice (some ⟨b0, off, none⟩) 1 c1, .slice a2 aa.length c2, .int .i64 0, str [], .int .i64 0, .int .i64 0, .slice a3 m3 c3]] g _
 refine aw func21 rfl ntmps21 rfl fun E hE => ?_
 refine aS ?_
 refine aP rfl rfl rfl (fun b1 => ?_)
 refine wz.CF.v.g.c.d.y.j.o.b.a.a.c.o.b.a.a.c.o.b.a.a.c.o.b.a.a.c.o.b.a.a.c.o.b.a.a.c.o.b.a.a.c.o.b.a.a.c.o.b.a.a.r.o.b.a.a.c.e.p.b.v.g.c.e.b.a.z ?_
 refine eY rfl rfl (hr _) k1.one.1 ?_
 refine aO rfl rfl (ih x _ bN hx0 oM ⟨c, rfl, k1⟩) ?_
 refine wz.AA.AA.z ?_
 rw [← F3]
 refine wz.p.b.a.c.e.b.a.z ?_
 refine aX (ι := Nat) (fun i => [(1, ptr b1 0), (5, str (S0 ++ gI (aa.take i))), (6, .int .i64 i)]) (fun _ => g) (fun _ => [.ae b1 47 [.int .i64 8, .int .i64 p, str [], .int .i64 0, .slice (some ⟨b0, off, none⟩) 1 c1, .slice a2 aa.length c2, .int .i64 0, str [], .int .i64 0, .int .i64 0, .slice a3 m3 c3]]) (fun i => i ≤ aa.length) (fun i => aa.length - i) 0 (Nat.zero_le _) ⟨rfl, by simp [gI]; rfl, rfl, trivial⟩ rfl rfl ?_
 intro i hi
 refine wz.b.a.A.v.g.a.c.e.z ?_
 refine an rfl (fun hlt => ?_) (fun hlt => ?_)
 ·have af : i < aa.length := by omega
  have hS := VO af
  have wY := VP aa (i + 1)
  rw [hS] at wY
  have F4 := VR aa[i]
  rw [F4] at wY
  simp only [List.length_append, List.length_cons, List.length_nil] at wY
  obtain ⟨bb, oo, cp, lz, iX⟩ := h3.held af
  cases lz
  obtain ⟨sv, bc, dh, eL, dF⟩ := zY h4 iX af
  obtain ⟨va, vc, rfl⟩ := aU dh
  have VU := VS af
  have Mn := ha _ (List.getElem_mem af)
  have hle := dh.le
  have aF := h3.le
  generalize aa[i] = ai at F4 hS dh eL dF VU Mn wY hle
  refine wz.p.e.d.j.z ?_
  refine cD (ι := Unit) (fun _ => [(1, ptr b1 0), (5, str (S0 ++ gI (aa.take i) ++ pn i)), (6, .int .i64 i)]) (fun _ => g) (fun _ => [.ae b1 47 [.int .i64 8, .int .i64 p, str [], .int .i64 0, .slice (some ⟨b0, off, none⟩) 1 c1, .slice (some ⟨bb, oo, none⟩) aa.length c2, .int .i64 0, str [], .int .i64 0, .int .i64 0, .slice a3 m3 c3]]) (fun _ => True) ?_ ?_
  ·rintro _ -
   refine wz.g.M.a.v.g.a.c.z ?_
   refine cj rfl rfl ((dF _).du 1 rfl) ?_
   refine wz.p.b.a.c.e.b.a.AA.z ?_
   obtain ⟨S1, lN⟩ : ∃ S1 : Bytes, S1 = S0 ++ gI (aa.take i) ++ pn i ++ ai.bQ := ⟨_, rfl⟩
   have Mo : S1.length = S0.length + (gI (aa.take i)).length + (pn i).length + ai.bQ.length := by rw [lN]; simp; omega
   rw [← lN]
   refine aX (ι := Nat) (fun k => [(1, ptr b1 0), (5, str (S1 ++ eU (ai.vars.take k))), (6, .int .i64 i), (7, .int .i64 k)]) (fun _ => g) (fun _ => [.ae b1 47 [.int .i64 8, .int .i64 p, str [], .int .i64 0, .slice (some ⟨b0, off, none⟩) 1 c1, .slice (some ⟨bb, oo, none⟩) aa.length c2, .int .i64 0, str [], .int .i64 0, .int .i64 0, .slice a3 m3 c3]]) (fun k => k ≤ ai.vars.length) (fun k => ai.vars.length - k) 0 (Nat.zero_le _) ⟨rfl, by simp [eU]; rfl, rfl, rfl, trivial⟩ rfl rfl ?_
   intro k hk
   refine wz.g.M.a.v.g.a.c.e.z ?_
   refine cj rfl rfl ((dF _).du 2 rfl) ?_
   refine wz.b.a.A.z ?_
   refine an rfl (fun dk => ?_) (fun dk => ?_)
   ·have fk : k < ai.vars.length := by omega
    have hV := Mm fk
    have Mp := VQ ai.vars (k + 1)
    rw [hV] at Mp
    simp only [List.length_append, List.length_cons, List.length_nil] at Mp
    obtain ⟨b5, o5, p5, F5, zZ⟩ := dh.held fk
    cases F5
    have fJ : ∀ own, Rd g own b5 (o5 + k * 1) [str ai.vars[k]] := fun own => eT (by
     rw [Nat.mul_one]
     refine zZ k _ ?_
     rw [List.getElem?_map, List.getElem?_eq_getElem fk]
     rfl)
    refine wz.g.M.a.v.g.a.r.p.e.d.j.z ?_
    refine cj rfl rfl ((dF _).du 2 rfl) ?_
    refine wz.M.a.z ?_
    refine cj rfl rfl (fJ _) ?_
    refine wz.b.a.E.a.r.d.y.N.a.AA.AA.z ?_
    exact aM (k + 1) oM oM ⟨rfl, by rw [hV]; simp; rfl, rfl, rfl, trivial⟩ rfl rfl
   ·have dj : k = ai.vars.length := by omega
    subst dj
    rw [List.take_length]
    refine wz.g.M.a.v.g.a.r.d.D.m.m.C.z ?_
    refine eY rfl rfl ((dF _).EW) eL.one.1 ?_
    refine aO rfl rfl (ih ai.body _ oM Mn oM ⟨bc, rfl, eL⟩) ?_
    refine wz.b.a.E.a.r.d.y.N.a.AA.AA.z ?_
    exact aM (i + 1) oM oM ⟨rfl, by rw [hS, F4, lN]; simp; rfl, rfl, trivial⟩ rfl rfl
  ·intro K hK
   refine wz.b.a.a.c.z ?_
   refine an rfl (fun h0 => ?_) (fun h0 => ?_)
   ·have hb : pn i = [32, 124, 32] := by unfold pn; rw [if_pos oM]
    rw [hb] at wY hK
    refine wz.b.a.AA.a.r.z ?_
    exact hK () _ trivial ⟨rfl, rfl, rfl, trivial⟩
   ·have hb : pn i = [] := by unfold pn; rw [if_neg oM]
    rw [hb, List.append_nil] at hK
    refine wz.d.j.z ?_
    exact hK () _ trivial ⟨rfl, rfl, rfl, trivial⟩
 ·have dw : i = aa.length := by omega
  subst dw
  rw [List.take_length]
  refine wz.i.b.a.AA.a.c.d.D.m.m.C.z ?_
  exact ao [] rfl rfl sM ⟨by rw [F3]; simp [kC, kP, iD], rfl, rfl⟩
theorem Mq (g : ab) : ∀ (N : Nat) (t : Ty) (v : Value), SizeOf.sizeOf t < N → cu t ≤ 1000000 → aQ g v t → Pure prog 38 [v] g (.int .i64 (cu t))
 | 0, _, _, h, _, _ => by omega
 | N + 1, t, v, h, hd, hv => by
  have ih := Mq g N
  obtain ⟨sl, rfl, h1⟩ := hv
  obtain ⟨xs, aJ, eE⟩ := h1.args
  obtain ⟨a, c, rfl⟩ := aU aJ
  have hle := aJ.le
  rw [uw] at hd ⊢
  refine aw func38 rfl ntmps38 rfl fun E hE => ?_
  refine aS ?_
  refine aP rfl rfl rfl (fun b1 => ?_)
  refine wz.BA.p.b.a.A.v.g.c.e.b.a.c.b.a.z ?_
  refine aX (ι := Nat) (fun i => [(3, .int .i64 (eX (t.args.take i))), (7, .slice a t.args.length c), (8, .int .i64 t.args.length), (9, .int .i64 i)]) (fun _ => g) (fun _ => []) (fun i => i ≤ t.args.length) (fun i => t.args.length - i) 0 (Nat.zero_le _) ⟨rfl, rfl, rfl, rfl, trivial⟩ rfl rfl ?_
  intro i hi
  refine wz.e.b.a.c.z ?_
  refine an rfl (fun hlt => ?_) (fun hlt => ?_)
  ·have af : i < t.args.length := by omega
   obtain ⟨b, off, cap, aq, hx⟩ := aJ.held af
   cases aq
   obtain ⟨cS, h2, hr⟩ := eZ eE hx af
   obtain ⟨_, hq, _⟩ := h2.args
   obtain ⟨u1, w1, rfl⟩ := aU hq
   have hm := zg (List.getElem_mem af)
   have bN : SizeOf.sizeOf t.args[i] < N := by
    have := List.sizeOf_lt_of_mem (List.getElem_mem af)
    cases t with
    | mk k n i hh ta => simp only [Ty.args] at this ⊢; simp at h; omega
   have fz := JN af
   have SQ : eX (t.args.take i) ≤ eX t.args := by
    have := wk (t.args.take i) (t.args.drop i)
    rw [List.take_append_drop] at this
    omega
   refine wz.An.M.c.p.e.d.j.z ?_
   refine aj rfl (fun b5 => ?_)
   refine wz.G.a.r.b.q.z ?_
   refine aO rfl rfl (ih t.args[i] _ bN oM ⟨_, rfl, h2⟩) ?_
   refine wz.BA.b.a.E.r.d.y.N.a.BY.E.z ?_
   refine aM (i + 1) oM oM ⟨?_, rfl, rfl, rfl, trivial⟩ rfl rfl
   rw [fz]
   refine qF rfl ?_
   omega
  ·have dw : i = t.args.length := by omega
   subst dw
   refine wz.i.b.a.a.c.d.D.m.m.C.z ?_
   exact ao [] rfl rfl sM ⟨by rw [List.take_length], rfl, rfl⟩
theorem z_ (g : ab) (t : Ty) (v : Value) (hd : cu t ≤ 1000000) (hv : aQ g v t) : Pure prog 38 [v] g (.int .i64 (cu t)) := Mq g _ t v (Nat.lt_succ_self _) hd hv
theorem VV (g : ab) (v : Value) (n : Nat) (xs : List Value) (hs : au g 11 v n xs) (h1 : ∀ u ∈ xs, fx u = true) (hn : n ≤ 1000000) : aZ.Spec prog 137 [v] g [] fun w g' own' => g' = g ∧ own' = [.row 47 11 w n xs] := by
 obtain ⟨a, m, c, rfl⟩ := au.form hs
 refine aw func137 rfl ntmps137 rfl fun E hE => ?_
 refine wz.a.c.e.b.a.c.z ?_; refine cX rfl (Mr rfl rfl) ?_; refine iV ?_
 cases a with
 | none =>
  have h0 : n = 0 ∧ xs = [] := by
   rcases hs.2 with ⟨_, h0⟩ | ⟨b, off, cap, he, _⟩
   ·have hl := hs.1
    rw [h0, Nat.zero_mul] at hl
    exact ⟨h0, List.eq_nil_of_length_eq_zero hl⟩
   ·simp at he
  obtain ⟨rfl, rfl⟩ := h0
  refine wz.Ci.l.i.b.a.c.t.z ?_
  exact ao [_] rfl rfl sR ⟨rfl, rfl⟩
 | some ad =>
  refine wz.c.d.j.o.z ?_
  refine bu rfl rfl rL rL rL rL rL (fun b2 => ?_)
  refine wz.a.z ?_
  refine jr 0 rfl rfl rfl rfl hs rL rL h1 mL oM (fun v' _ => ?_)
  rw [Nat.zero_add]
  refine wz.i.b.a.z ?_
  exact ao [_] rfl rfl sR ⟨rfl, rfl⟩
theorem F6 (g : ab) (v : Value) (e : Ex) (hv : cT g v e) (bN : aN e ≤ 1000000) : bK prog 104 [v] g fun w g' => ∃ xs, au g' 11 w (aY e).length xs ∧ dp g' (aY e) xs := by
 obtain ⟨a1, c1, a2, c2, a3, m3, c3, xk, xa, rfl, h1, h2, h3, h4, h5⟩ := hv.open
 have hlen := my e
 have gk : (aY e).length = e.kids.length + e.aK.length := by simp [aY]
 refine aw func104 rfl ntmps104 rfl fun E hE => ?_
 refine aS ?_
 refine aP rfl rfl rfl (fun b1 => ?_)
 refine wz.v.g.c.b.a.z ?_
 refine jN (lent := []) (kept := _) rfl rfl (List.Perm.refl _) (VV g _ _ _ h1 (zj h2).2 oM) ?_
 rintro w g1 own' ⟨rfl, rfl⟩ _
 refine wz.CG.p.b.a.A.I.g.c.e.b.a.z ?_
 refine aX (ι := Nat × Value × List Value) (fun p => [(3, p.2.1), (10, .slice a2 e.aK.length c2), (11, .int .i64 e.aK.length), (12, .int .i64 p.1)]) (fun _ => g1) (fun p => [.row 47 11 p.2.1 (e.kids.length + p.1) p.2.2])
  (fun p => p.1 ≤ e.aK.length ∧ dp g1 (e.kids ++ (e.aK.take p.1).map Ar.body) p.2.2) (fun p => e.aK.length - p.1) (0, w, xk) ⟨Nat.zero_le _, by simpa using h2⟩ ⟨rfl, rfl, rfl, rfl, trivial⟩ rfl sM ?_
 rintro ⟨i, sv, xs⟩ ⟨hi, hx⟩
 simp only at hi hx
 try dsimp only
 refine wz.e.b.a.c.z ?_
 refine an rfl (fun hlt => ?_) (fun hlt => ?_)
 ·have af : i < e.aK.length := by omega
  obtain ⟨b, off, cap, aq, iX⟩ := h3.held af
  cases aq
  obtain ⟨fG, bc, lk, eL, hr⟩ := zY h4 iX af
  obtain ⟨va, vc, rfl⟩ := aU lk
  obtain ⟨d1, n1, o1, d2, n2, o2, d3, n3, o3, yk, ya, rfl, _⟩ := eL.form
  refine wz.An.M.c.p.e.d.j.z ?_
  refine aj rfl (fun b5 => ?_)
  refine wz.G.g.a.r.b.q.z ?_
  refine bu rfl rfl rL rL rL rL rL (fun zo => ?_)
  refine cV 2 0 rfl rfl rfl rfl rfl rL rL rfl mL oM (fun w' _ => ?_)
  refine wz.b.a.E.r.d.y.N.a.CH.z ?_
  refine aM (i + 1, w', xs ++ [.int .i64 e.aK[i].body.kind, .int .i64 e.aK[i].body.pos, str e.aK[i].body.name, .int .i64 e.aK[i].body.num, .slice d1 n1 o1, .slice d2 n2 o2, .int .i64 e.aK[i].body.ty.kind, str e.aK[i].body.ty.name, .int .i64 e.aK[i].body.ty.id, .int .i64 e.aK[i].body.ty.home, .slice d3 n3 o3]) ⟨af, ?_⟩ uM ⟨rfl, rfl, rfl, rfl, trivial⟩ rfl ?_
  ·simp only
   rw [ET af, List.map_append, ← List.append_assoc]
   exact EU hx eL
  ·simp [dO, Nat.add_assoc]
 ·have dw : i = e.aK.length := by omega
  subst dw
  rw [List.take_length] at hx
  refine bg (fun g2 dy bj => ?_)
  refine wz.i.b.a.a.c.d.D.m.m.C.z ?_
  exact ao [] rfl rfl sM ⟨⟨_, by rw [gk]; exact bj, dp.mono dy _ _ hx⟩, rfl⟩
theorem Ms : ∀ (N : Nat) (g : ab) (e : Ex) (v : Value), aN e < N → aN e ≤ 1000000 → cT g v e → Pure prog 102 [v] g (.int .i64 (jK e))
 | 0, _, _, _, h, _, _ => by omega
 | N + 1, g, e, v, h, bN, hv => by
  have ih := Ms N
  have gk := my e
  have iB := zq e
  have ie := hv
  obtain ⟨a1, c1, a2, c2, a3, m3, c3, xk, xa, rfl, h1, h2, h3, h4, h5⟩ := hv.open
  rw [JV] at iB ⊢
  refine aw func102 rfl ntmps102 rfl fun E hE => ?_
  refine aS ?_
  refine aP rfl rfl rfl (fun b1 => ?_)
  refine wz.G.c.e.b.a.c.b.a.z ?_
  refine aB rfl rfl (F6 g _ e ie bN) ?_
  rintro w g1 ⟨xs, aJ, j9⟩ a8
  obtain ⟨sa, sc, rfl⟩ := aU aJ
  refine wz.BA.p.b.a.A.z ?_
  refine aX (ι := Nat) (fun i => [(3, .int .i64 (hJ ((aY e).take i))), (7, .slice sa (aY e).length sc), (8, .int .i64 (aY e).length), (9, .int .i64 i)]) (fun _ => g1) (fun _ => []) (fun i => i ≤ (aY e).length) (fun i => (aY e).length - i) 0 (Nat.zero_le _) ⟨rfl, rfl, rfl, rfl, trivial⟩ rfl rfl ?_
  intro i hi
  refine wz.e.b.a.c.z ?_
  refine an rfl (fun hlt => ?_) (fun hlt => ?_)
  ·have af : i < (aY e).length := by omega
   obtain ⟨b, off, cap, aq, dB⟩ := aJ.held af
   cases aq
   obtain ⟨cs, k1, hr⟩ := me j9 dB af
   have A1 := mC (List.getElem_mem af)
   have fz := JW af
   have Mt := JX (aY e) (i + 1)
   have k2 := k1
   obtain ⟨d1, n1, o1, d2, n2, o2, d3, n3, o3, yk, ya, rfl, _⟩ := k1.form
   refine wz.An.M.c.p.e.d.j.z ?_
   refine aj rfl (fun b5 => ?_)
   refine wz.G.a.r.b.q.z ?_
   refine aO rfl rfl (ih g1 (aY e)[i] _ oM oM ⟨_, rfl, k2⟩) ?_
   refine wz.BA.b.a.E.r.d.y.N.a.BY.E.z ?_
   refine aM (i + 1) oM oM ⟨?_, rfl, rfl, rfl, trivial⟩ rfl rfl
   rw [fz]
   refine qF rfl ?_
   omega
  ·have dw : i = (aY e).length := by omega
   subst dw
   refine wz.i.b.a.a.c.d.D.m.m.C.z ?_
   refine l6 hE a8 ?_
   exact ao [] rfl rfl sM ⟨by rw [List.take_length], rfl, rfl⟩
theorem VW (g : ab) (e : Ex) (v : Value) (bN : aN e ≤ 1000000) (hv : cT g v e) : Pure prog 102 [v] g (.int .i64 (jK e)) := Ms _ g e v (Nat.lt_succ_self _) bN hv
end Go.Proofs.YtlnjfkfojkgiiaaGreatDoor
namespace Go.Th
def lO {α : Type} (P : α → Bool) : Nat → List α → Int
 | _, [] => -1
 | i, a :: r => if P a then i else lO P (i + 1) r
theorem Mu {α : Type} (P : α → Bool) : ∀ (l : List α) (i : Nat), 0 ≤ lO P i l ↔ l.any P = true
 | [], i => by simp [lO]
 | a :: r, i => by
  have e : lO P i (a :: r) = if P a then (i : Int) else lO P (i + 1) r := rfl
  rw [e, List.any_cons]
  by_cases h : P a = true
  ·rw [if_pos h, h]; simp
  ·rw [if_neg h, Mu P r (i + 1)]
   simp only [Bool.not_eq_true] at h
   rw [h, Bool.false_or]
theorem Mv {α : Type} (P : α → Bool) (l : List α) (i : Nat) : decide (0 ≤ lO P i l) = l.any P := by
 rw [Bool.eq_iff_iff, decide_eq_true_eq]
 exact Mu P l i
theorem Mw {α : Type} (P : α → Bool) {l : List α} {i : Nat} (h : i < l.length) : lO P i (l.drop i) = if P l[i] then (i : Int) else lO P (i + 1) (l.drop (i + 1)) := by
 rw [List.drop_eq_getElem_cons h, lO]
theorem Mx : ∀ l : List Ex, iN l = l.any lp
 | [] => rfl
 | a :: r => by simp only [iN, List.any_cons, Mx r]
end Go.Th
namespace Go.Proofs.YtlnjfkfojkgiiaaGreatDoor
abbrev uT (f : FuncId) : Value := .func (.func f) #[] #[]
theorem VX (g : ab) (l : List Ty) (v : Value) (xs : List Value) (hs : au g 5 v l.length xs) (ht : aV g l xs) (P : Ty → Bool) (hP : ∀ t ∈ l, ∀ u, aQ g u t → Pure prog 73 [u] g (.bool (P t))) :
  Pure prog 101 [v, uT 73] g (.int .i64 (lO P 0 l)) := by
 have hle := hs.le
 obtain ⟨a, c, rfl⟩ := aU hs
 refine aw func101 rfl ntmps101 rfl fun E hE => ?_
 refine wz.p.b.a.A.a.c.e.b.a.c.z ?_
 refine aX (ι := Nat) (fun i => [(0, .slice a l.length c), (1, uT 73), (7, .int .i64 l.length), (8, .int .i64 i)]) (fun _ => g) (fun _ => []) (fun i => i ≤ l.length ∧ lO P 0 l = lO P i (l.drop i)) (fun i => l.length - i) 0 ⟨Nat.zero_le _, by rw [List.drop_zero]⟩ ⟨rfl, rfl, rfl, rfl, trivial⟩ rfl rfl ?_
 rintro i ⟨hi, hj⟩
 refine wz.e.b.a.c.z ?_
 refine an rfl (fun hlt => ?_) (fun hlt => ?_)
 ·have af : i < l.length := by omega
  obtain ⟨b, off, cap, aq, hx⟩ := hs.held af
  cases aq
  obtain ⟨cS, h2, hr⟩ := eZ ht hx af
  rw [Mw P af] at hj
  refine wz.An.M.a.a.a.c.b.a.a.c.p.e.d.j.z ?_
  refine F7 (us := []) (cs := []) (lent := []) (kept := _) rfl rfl rfl (List.Perm.refl _) (hP _ (List.getElem_mem af) _ ⟨_, rfl, h2⟩) ?_
  rintro w g1 own' ⟨rfl, rfl, rfl⟩ _
  cases hk : P l[i] with
  | true =>
   rw [hk] at hj
   refine wz.l.x.l.l.x.i.b.a.a.c.t.b.z ?_
   exact ao [] rfl rfl sM ⟨by rw [hj]; rfl, rfl, rfl⟩
  | false =>
   rw [hk] at hj
   refine wz.b.a.E.r.d.y.j.o.b.z ?_
   exact aM (i + 1) ⟨oM, hj⟩ oM ⟨rfl, rfl, rfl, rfl, trivial⟩ rfl rfl
 ·have dw : i = l.length := by omega
  rw [dw, List.drop_length] at hj
  refine wz.i.b.a.c.d.D.m.m.C.z ?_
  exact ao [] rfl rfl sM ⟨by rw [hj]; rfl, rfl, rfl⟩
theorem VY (g : ab) (l : List Ty) (v : Value) (xs : List Value) (hs : au g 5 v l.length xs) (ht : aV g l xs) (P : Ty → Bool) (hP : ∀ t ∈ l, ∀ u, aQ g u t → Pure prog 73 [u] g (.bool (P t))) :
  Pure prog 72 [v, uT 73] g (.bool (l.any P)) := by
 obtain ⟨a, c, rfl⟩ := aU hs
 refine aw func72 rfl ntmps72 rfl fun E hE => ?_
 refine wz.a.a.c.b.a.c.z ?_
 refine aO rfl rfl (VX g l _ xs hs ht P hP) ?_
 refine wz.i.b.a.a.z ?_
 exact ao [] rfl rfl sM ⟨by rw [← Mv P l 0], rfl, rfl⟩
theorem VZ (g : ab) (l : List Ex) (v : Value) (xs : List Value) (hs : au g 11 v l.length xs) (ht : dp g l xs) (P : Ex → Bool) (hP : ∀ t ∈ l, ∀ u, cT g u t → Pure prog 103 [u] g (.bool (P t))) :
  Pure prog 172 [v, uT 103] g (.int .i64 (lO P 0 l)) := by
 have hle := hs.le
 obtain ⟨a, c, rfl⟩ := aU hs
 refine aw func172 rfl ntmps172 rfl fun E hE => ?_
 refine wz.p.b.a.A.a.c.e.b.a.c.z ?_
 refine aX (ι := Nat) (fun i => [(0, .slice a l.length c), (1, uT 103), (7, .int .i64 l.length), (8, .int .i64 i)]) (fun _ => g) (fun _ => []) (fun i => i ≤ l.length ∧ lO P 0 l = lO P i (l.drop i)) (fun i => l.length - i) 0 ⟨Nat.zero_le _, by rw [List.drop_zero]⟩ ⟨rfl, rfl, rfl, rfl, trivial⟩ rfl rfl ?_
 rintro i ⟨hi, hj⟩
 refine wz.e.b.a.c.z ?_
 refine an rfl (fun hlt => ?_) (fun hlt => ?_)
 ·have af : i < l.length := by omega
  obtain ⟨b, off, cap, aq, hx⟩ := hs.held af
  cases aq
  obtain ⟨cs, h2, hr⟩ := me ht hx af
  rw [Mw P af] at hj
  refine wz.M.a.a.a.c.b.a.a.c.p.e.d.j.z ?_
  refine eY rfl rfl (hr _) h2.one.1 ?_
  refine F7 (us := []) (cs := []) (lent := []) (kept := _) rfl rfl rfl (List.Perm.refl _) (hP _ (List.getElem_mem af) _ ⟨_, rfl, h2⟩) ?_
  rintro w g1 own' ⟨rfl, rfl, rfl⟩ _
  cases hk : P l[i] with
  | true =>
   rw [hk] at hj
   refine wz.l.x.l.l.x.i.b.a.a.c.t.b.z ?_
   exact ao [] rfl rfl sM ⟨by rw [hj]; rfl, rfl, rfl⟩
  | false =>
   rw [hk] at hj
   refine wz.b.a.E.r.d.y.j.o.b.z ?_
   exact aM (i + 1) ⟨oM, hj⟩ oM ⟨rfl, rfl, rfl, rfl, trivial⟩ rfl rfl
 ·have dw : i = l.length := by omega
  rw [dw, List.drop_length] at hj
  refine wz.i.b.a.c.d.D.m.m.C.z ?_
  exact ao [] rfl rfl sM ⟨by rw [hj]; rfl, rfl, rfl⟩
theorem V0 (g : ab) (l : List Ex) (v : Value) (xs : List Value) (hs : au g 11 v l.length xs) (ht : dp g l xs) (P : Ex → Bool) (hP : ∀ t ∈ l, ∀ u, cT g u t → Pure prog 103 [u] g (.bool (P t))) :
  Pure prog 136 [v, uT 103] g (.bool (l.any P)) := by
 obtain ⟨a, c, rfl⟩ := aU hs
 refine aw func136 rfl ntmps136 rfl fun E hE => ?_
 refine wz.a.a.c.b.a.c.z ?_
 refine aO rfl rfl (VZ g l _ xs hs ht P hP) ?_
 refine wz.i.b.a.a.z ?_
 exact ao [] rfl rfl sM ⟨by rw [← Mv P l 0], rfl, rfl⟩
theorem V1 (g : ab) (t : Ty) (v : Value) (hd : cu t ≤ 1000000) (hv : aQ g v t) : Pure prog 73 [v] g (.bool (decide (40 < cu t))) := by
 have ie := hv
 obtain ⟨sl, rfl, h1⟩ := hv
 obtain ⟨xs, aJ, _⟩ := h1.args
 obtain ⟨a, c, rfl⟩ := aU aJ
 refine aw func73 rfl ntmps73 rfl fun E hE => ?_
 refine aS ?_
 refine aP rfl rfl rfl (fun b1 => ?_)
 refine wz.G.c.b.a.z ?_
 refine aO rfl rfl (z_ g t _ hd ie) ?_
 refine wz.i.b.a.a.z ?_
 exact ao [] rfl rfl sM ⟨by congr 1; rw [decide_eq_decide]; omega, rfl, rfl⟩
theorem My (M : Nat) (hM : M ≤ 1000000) : ∀ (N : Nat) (g : ab) (e : Ex) (v : Value), aN e < N → aN e ≤ 1000000 → dP M e → cT g v e → Pure prog 103 [v] g (.bool (lp e))
 | 0, _, _, _, h, _, _, _ => by omega
 | N + 1, g, e, v, h, bN, lP, hv => by
  have ih := My M hM N
  have ie := hv
  have lQ := lP.p2
  obtain ⟨a1, c1, a2, c2, a3, m3, c3, xk, xa, rfl, h1, h2, h3, h4, h5⟩ := hv.open
  rw [J2, Mx]
  refine aw func103 rfl ntmps103 rfl fun E hE => ?_
  refine aS ?_
  refine aP rfl rfl rfl (fun b1 => ?_)
  refine wz.G.g.c.b.a.z ?_
  refine aO rfl rfl (z_ g e.ty _ oM ⟨_, rfl, h5⟩) ?_
  refine wz.a.a.z ?_
  refine bw rfl rfl (fun hd => ?_) (fun hd => ?_)
  ·have hb : decide (40 < cu e.ty) = true := decide_eq_true oM
   rw [hb]
   refine wz.i.b.a.a.h.h.h.z ?_
   exact ao [] rfl rfl sM ⟨rfl, rfl, rfl⟩
  ·have hb : decide (40 < cu e.ty) = false := decide_eq_false oM
   rw [hb]
   refine wz.k.G.k.z ?_
   refine aB rfl rfl (F6 g _ e ie bN) ?_
   rintro w g1 ⟨xs, aJ, j9⟩ a8
   obtain ⟨sa, sc, rfl⟩ := aU aJ
   refine wz.k.z ?_
   refine aO rfl rfl (V0 g1 (aY e) _ xs aJ j9 lp (fun t ht u hu => ih g1 t u (by have := mC ht; omega) (by have := mC ht; omega) (lP.p3 t ht) hu)) ?_
   refine wz.i.b.a.a.z ?_
   refine l6 hE a8 ?_
   exact ao [] rfl rfl sM ⟨by rw [Bool.false_or], rfl, rfl⟩
theorem V2 {M : Nat} (hM : M ≤ 1000000) (g : ab) (e : Ex) (v : Value) (bN : aN e ≤ 1000000) (lP : dP M e) (hv : cT g v e) : Pure prog 103 [v] g (.bool (lp e)) := My M hM _ g e v (Nat.lt_succ_self _) bN lP hv
theorem V3 {M : Nat} (hM : M ≤ 1000000) (g : ab) (e : Ex) (v : Value) (bN : aN e ≤ 1000000) (lP : dP M e) (hv : cT g v e) : Pure prog 74 [v] g (.bool (kT e)) := by
 have ie := hv
 obtain ⟨a1, c1, a2, c2, a3, m3, c3, xk, xa, rfl, h1, h2, h3, h4, h5⟩ := hv.open
 unfold kT
 refine aw func74 rfl ntmps74 rfl fun E hE => ?_
 refine aS ?_
 refine aP rfl rfl rfl (fun b1 => ?_)
 refine wz.G.c.b.a.z ?_
 refine aO rfl rfl (VW g e _ bN ie) ?_
 refine wz.a.a.z ?_
 refine bw rfl rfl (fun hd => ?_) (fun hd => ?_)
 ·have hb : decide (40 < jK e) = true := decide_eq_true oM
  rw [hb]
  refine wz.i.b.a.a.h.h.z ?_
  exact ao [] rfl rfl sM ⟨rfl, rfl, rfl⟩
 ·have hb : decide (40 < jK e) = false := decide_eq_false oM
  rw [hb]
  refine wz.k.G.k.z ?_
  refine aO rfl rfl (V2 hM g e _ bN lP ie) ?_
  refine wz.i.b.a.a.z ?_
  exact ao [] rfl rfl sM ⟨by rw [Bool.false_or], rfl, rfl⟩
def V4 (p : Int) (v : Value) : Prop := ∃ (c : Bytes) (a : Option Addr) (m k : Nat) (y1 y2 : Int) (y3 : Bytes) (y4 : Int) (a1 : Option Addr) (m1 c1 : Nat) (a2 : Option Addr) (m2 c2 : Nat) (z1 : Int) (z2 : Bytes) (z3 z4 : Int) (a3 : Option Addr) (m3 c3 : Nat),
 v = .agg #[.int .i64 p, str c, .slice a m k, .int .i64 y1, .int .i64 y2, str y3, .int .i64 y4, .slice a1 m1 c1, .slice a2 m2 c2, .int .i64 z1, str z2, .int .i64 z3, .int .i64 z4, .slice a3 m3 c3]
def Mz (o : Option Int) (v : Value) : Prop := ∃ p av, V4 p av ∧ v = .tuple #[av, .bool o.isSome] ∧ ∀ q, o = some q → p = q
theorem MA : ∀ (N : Nat) (g : ab) (e : Ex) (v : Value), aN e < N → aN e ≤ 1000000 → cT g v e → bK prog 75 [v] g fun w g' => g' = g ∧ Mz (hO e) w
 | 0, _, _, _, h, _, _ => by omega
 | N + 1, g, e, v, h, bN, hv => by
  have ih := MA N
  have ie := hv
  have gk := my e
  obtain ⟨a1, c1, a2, c2, a3, m3, c3, xk, xa, rfl, h1, h2, h3, h4, h5⟩ := hv.open
  have aF := h3.le
  rw [J5]
  refine aw func75 rfl ntmps75 rfl fun E hE => ?_
  refine aS ?_
  refine aP rfl rfl rfl (fun b1 => ?_)
  refine aj rfl (fun b2 => ?_)
  refine wz.p.b.a.A.I.g.c.e.b.a.z ?_
  refine aX (ι := Nat) (fun i => [(1, ptr b1 0), (2, ptr b2 0), (11, .slice a2 e.aK.length c2), (12, .int .i64 e.aK.length), (13, .int .i64 i)]) (fun _ => g) (fun _ => [.ae b2 111 (kp 0 [] (.slice none 0 0) dK), .ae b1 47 [.int .i64 e.kind, .int .i64 e.pos, str e.name, .int .i64 e.num, .slice a1 e.kids.length c1, .slice a2 e.aK.length c2, .int .i64 e.ty.kind, str e.ty.name, .int .i64 e.ty.id, .int .i64 e.ty.home, .slice a3 m3 c3]]) (fun i => i ≤ e.aK.length ∧ kv e.aK = kv (e.aK.drop i)) (fun i => e.aK.length - i) 0 ⟨Nat.zero_le _, by rw [List.drop_zero]⟩ ⟨rfl, rfl, rfl, rfl, rfl, trivial⟩ rfl rfl ?_
  rintro i ⟨hi, hj⟩
  refine wz.e.b.a.c.z ?_
  refine an rfl (fun hlt => ?_) (fun hlt => ?_)
  ·have af : i < e.aK.length := by omega
   obtain ⟨b, off, cap, aq, iX⟩ := h3.held af
   cases aq
   obtain ⟨fG, bc, lk, eL, hr⟩ := zY h4 iX af
   obtain ⟨va, vc, rfl⟩ := aU lk
   obtain ⟨d1, n1, o1, d2, n2, o2, d3, n3, o3, yk, ya, rfl, _⟩ := eL.form
   rw [J7 af] at hj
   refine wz.An.M.c.p.e.d.j.z ?_
   refine aj rfl (fun b5 => ?_)
   refine wz.b.a.A.v.g.c.b.q.z ?_
   refine an rfl (fun hw => ?_) (fun hw => ?_)
   ·rw [if_pos oM] at hj
    rw [hj]
    refine wz.l.x.l.l.x.i.b.a.B.G.c.z ?_
    exact cB [] rfl (ay 1 rfl rfl rL) (.tmp rfl) sM ⟨⟨rfl, _, _, ⟨_, _, _, _, _, _, _, _, _, _, _, _, _, _, _, _, _, _, _, _, _, rfl⟩, rfl, fun q hq => by simpa using hq⟩, rfl⟩
   ·rw [if_neg oM] at hj
    refine wz.Bi.b.a.E.r.d.y.j.z ?_
    exact aM (i + 1) ⟨oM, hj⟩ oM ⟨rfl, rfl, rfl, rfl, rfl, trivial⟩ rfl rfl
  ·have dw : i = e.aK.length := by omega
   rw [dw, List.drop_length] at hj
   rw [hj, show kv [] = none from rfl, Option.none_or]
   refine wz.O.c.e.d.D.m.m.C.z ?_
   refine aB rfl rfl (F6 g _ e ie bN) ?_
   rintro w g1 ⟨xs, aJ, j9⟩ a8
   obtain ⟨sa, sc, rfl⟩ := aU aJ
   refine wz.CG.p.b.a.A.z ?_
   refine aX (ι := Nat) (fun i => [(2, ptr b2 0), (24, .slice sa (aY e).length sc), (25, .int .i64 (aY e).length), (26, .int .i64 i)]) (fun _ => g1) (fun _ => [.ae b2 111 (kp 0 [] (.slice none 0 0) dK)]) (fun i => i ≤ (aY e).length ∧ gU (aY e) = gU ((aY e).drop i)) (fun i => (aY e).length - i) 0 ⟨Nat.zero_le _, by rw [List.drop_zero]⟩ ⟨rfl, rfl, rfl, rfl, trivial⟩ rfl rfl ?_
   rintro i ⟨hi, hj⟩
   refine wz.e.b.a.c.z ?_
   refine an rfl (fun dk => ?_) (fun dk => ?_)
   ·have af : i < (aY e).length := by omega
    obtain ⟨b, off, cap, aq, dB⟩ := aJ.held af
    cases aq
    obtain ⟨cs, k1, hr⟩ := me j9 dB af
    have A1 := mC (List.getElem_mem af)
    have k2 := k1
    obtain ⟨d1, n1, o1, d2, n2, o2, d3, n3, o3, yk, ya, rfl, _⟩ := k1.form
    rw [J6 af] at hj
    refine wz.An.M.c.p.e.d.j.z ?_
    refine aj rfl (fun b7 => ?_)
    refine wz.G.c.b.q.z ?_
    refine aB rfl rfl (ih g1 (aY e)[i] _ oM oM ⟨_, rfl, k2⟩) ?_
    rintro w g2 ⟨rfl, p, av, F8, rfl, td⟩ _
    obtain ⟨u1, u2, u3, u4, u5, u6, u7, u8, u9, V5, V6, V7, V8, V9, V_, u16, Wa, Wb, Wc, Wd, We, rfl⟩ := F8
    refine wz.a.a.a.z ?_
    refine aj rfl (fun b8 => ?_)
    refine wz.b.a.c.b.a.q.z ?_
    generalize hO (aY e)[i] = o at hj td
    cases o with
    | some q =>
     obtain rfl := td q rfl
     rw [hj]
     refine wz.l.x.l.l.x.i.b.a.V.G.c.t.z ?_
     refine l6 hE a8 ?_
     exact cB [] rfl (ay 2 rfl rfl rL) (.tmp rfl) sM ⟨⟨rfl, _, _, ⟨_, _, _, _, _, _, _, _, _, _, _, _, _, _, _, _, _, _, _, _, _, rfl⟩, rfl, fun q hq => by simpa using hq⟩, rfl⟩
    | none =>
     rw [Option.none_or] at hj
     refine wz.CH.b.a.E.r.d.y.j.o.z ?_
     exact aM (i + 1) ⟨oM, hj⟩ oM ⟨rfl, rfl, rfl, rfl, trivial⟩ rfl rfl
   ·have dw : i = (aY e).length := by omega
    rw [dw, List.drop_length] at hj
    rw [hj, show gU [] = none from by simp [gU]]
    refine wz.i.b.a.q.K.c.d.D.m.m.C.z ?_
    refine l6 hE a8 ?_
    exact cB [] rfl (ay 0 rfl rfl rL) (.tmp rfl) sM ⟨⟨rfl, _, _, ⟨_, _, _, _, _, _, _, _, _, _, _, _, _, _, _, _, _, _, _, _, _, rfl⟩, rfl, fun q hq => by cases hq⟩, rfl⟩
theorem Wf (g : ab) (e : Ex) (v : Value) (bN : aN e ≤ 1000000) (hv : cT g v e) : bK prog 75 [v] g fun w g' => g' = g ∧ Mz (hO e) w := MA _ g e v (Nat.lt_succ_self _) bN hv
abbrev pq (x : Int × Int) : Value := .agg #[.int .i64 x.1, .int .i64 x.2]
def mK (p : Pg) : Int × Int := match jL p with
 | some q => (5, q)
 | none => (0, 0)
theorem iQ.form {g : ab} {x : Bi} {cs : List Value} (h : iQ g x cs) : ∃ (a : Option Addr) (m c : Nat) (a1 : Option Addr) (m1 c1 : Nat) (a2 : Option Addr) (m2 c2 : Nat) (a3 : Option Addr) (m3 c3 : Nat),
  cs = [.int .i64 x.pos, .bool x.isRec, str x.name, .bool x.fD, .int .i64 x.sig.kind, str x.sig.name, .int .i64 x.sig.id, .int .i64 x.sig.home, .slice a m c, .int .i64 x.body.kind, .int .i64 x.body.pos, str x.body.name, .int .i64 x.body.num, .slice a1 m1 c1, .slice a2 m2 c2, .int .i64 x.body.ty.kind, str x.body.ty.name, .int .i64 x.body.ty.id, .int .i64 x.body.ty.home, .slice a3 m3 c3] ∧
  bx g x.sig (aH x.sig (.slice a m c)) ∧ cJ g x.body [.int .i64 x.body.kind, .int .i64 x.body.pos, str x.body.name, .int .i64 x.body.num, .slice a1 m1 c1, .slice a2 m2 c2, .int .i64 x.body.ty.kind, str x.body.ty.name, .int .i64 x.body.ty.id, .int .i64 x.body.ty.home, .slice a3 m3 c3] := by
 obtain ⟨tc, ec, rfl, h1, h2⟩ := h
 have h3 := h2
 obtain ⟨a1, m1, c1, a2, m2, c2, a3, m3, c3, xk, xa, rfl, _⟩ := h2.form
 obtain ⟨sl, rfl⟩ := h1.cells
 obtain ⟨_, hq, _⟩ := h1.args
 obtain ⟨u, w, rfl⟩ := aU hq
 exact ⟨_, _, _, _, _, _, _, _, _, _, _, _, rfl, h1, h3⟩
theorem MB {l : List Bi} {i : Nat} (h : i < l.length) : EX l i = l[i].pos := by unfold EX; rw [List.getElem?_eq_getElem h]
structure wZ (p : Pg) : Prop where
 d : ∀ d ∈ p.al, ∀ c ∈ d.cons, ∀ t ∈ c.fields, cu t ≤ 1000000
 b : ∀ b ∈ p.binds, (b.fD = false → cu b.sig ≤ 40) ∧ cu b.sig ≤ 1000000 ∧ aN b.body ≤ 1000000 ∧ dP 1000000 b.body
theorem Wg (g : ab) (p : Pg) (v : Value) (hv : ll g v p) : Pure prog 71 [v] g (pq (mK p)) := by
 obtain ⟨cs, rfl, sd, xd, sb, xb, rfl, h1, h2, h3, h4⟩ := hv
 obtain ⟨da, dc, rfl⟩ := aU h1
 obtain ⟨ba, bc, rfl⟩ := aU h3
 have te := h1.le
 refine aw func71 rfl ntmps71 rfl fun E hE => ?_
 refine aS ?_
 refine aP rfl rfl rfl (fun b1 => ?_)
 refine aj rfl (fun b2 => ?_)
 refine wz.p.b.a.A.I.g.c.e.b.z ?_
 refine aX (ι := Nat) (fun i => [(1, ptr b1 0), (2, ptr b2 0), (8, .slice da p.al.length dc), (9, .int .i64 p.al.length), (10, .int .i64 i)]) (fun _ => g) (fun _ => [.ae b2 33 [.int .i64 0, .int .i64 0], .ae b1 28 [.slice da p.al.length dc, .slice ba p.binds.length bc]]) (fun i => i ≤ p.al.length ∧ i ≤ 8 ∧ l0 0 p.al = l0 i (p.al.drop i)) (fun i => p.al.length - i) 0 ⟨Nat.zero_le _, oM, by rw [List.drop_zero]⟩ ⟨rfl, rfl, rfl, rfl, rfl, trivial⟩ rfl rfl ?_
 rintro i ⟨hi, hi8, hj⟩
 refine wz.e.b.a.c.z ?_
 refine an rfl (fun hlt => ?_) (fun hlt => ?_)
 ·have af : i < p.al.length := by omega
  obtain ⟨b, off, cap, aq, hx⟩ := h1.held af
  cases aq
  obtain ⟨c, e1, hr⟩ := dt (fun _ _ h => h.one.1) h2 hx af
  obtain ⟨a1, c1, a2, c2, xc, rfl, _, e3, e4⟩ := e1.form
  have A2 := e3.le
  rw [J9 af] at hj
  have found : (8 ≤ i ∨ 4 < p.al[i].params.length ∨ 6 < p.al[i].cons.length) → mK p = (5, p.al[i].pos) := fun h => by
   rw [if_pos h] at hj
   unfold mK jL
   rw [hj]; rfl
  refine wz.An.M.a.c.p.e.d.j.z ?_
  refine aj rfl (fun b4 => ?_)
  refine wz.a.a.a.c.e.b.q.a.z ?_
  refine bw rfl rfl (fun h8 => ?_) (fun h8 => ?_)
  ·rw [found oM]
   refine wz.l.x.l.l.x.l.i.b.B.K.v.g.c.t.b.a.h.h.h.h.a.a.h.h.h.h.z ?_
   exact bp [] rfl (ay 1 rfl rfl rL) sM ⟨rfl, rfl, rfl⟩
  ·refine wz.a.a.u.A.k.v.k.g.k.z ?_
   refine bw rfl rfl (fun hp => ?_) (fun hp => ?_)
   ·rw [found oM]
    refine wz.l.x.l.l.x.l.i.b.B.K.v.g.c.t.b.a.h.h.h.h.z ?_
    exact bp [] rfl (ay 1 rfl rfl rL) sM ⟨rfl, rfl, rfl⟩
   ·refine wz.b.a.u.A.k.v.k.g.k.z ?_
    refine an rfl (fun hc => ?_) (fun hc => ?_)
    ·rw [found oM]
     refine wz.l.x.l.l.x.l.i.b.B.K.v.g.c.z ?_
     exact bp [] rfl (ay 1 rfl rfl rL) sM ⟨rfl, rfl, rfl⟩
    ·rw [if_neg oM] at hj
     refine wz.p.b.a.A.v.g.c.d.j.z ?_
     refine aX (ι := Nat) (fun k => [(1, ptr b1 0), (2, ptr b2 0), (8, .slice (some ⟨b, off, none⟩) p.al.length dc), (9, .int .i64 p.al.length), (10, .int .i64 i), (33, .slice a2 p.al[i].cons.length c2), (34, .int .i64 p.al[i].cons.length), (35, .int .i64 k)]) (fun _ => g) (fun _ => [.ae b4 60 [.int .i64 p.al[i].pos, str p.al[i].name, .slice a1 p.al[i].params.length c1, .slice a2 p.al[i].cons.length c2], .ae b2 33 [.int .i64 0, .int .i64 0], .ae b1 28 [.slice (some ⟨b, off, none⟩) p.al.length dc, .slice ba p.binds.length bc]]) (fun k => k ≤ p.al[i].cons.length ∧ lq p.al[i].cons = lq (p.al[i].cons.drop k)) (fun k => p.al[i].cons.length - k) 0 ⟨Nat.zero_le _, by rw [List.drop_zero]⟩ ⟨rfl, rfl, rfl, rfl, rfl, rfl, rfl, rfl, trivial⟩ rfl rfl ?_
     rintro k ⟨hk, fO⟩
     refine wz.e.b.a.c.z ?_
     refine an rfl (fun dk => ?_) (fun dk => ?_)
     ·have fk : k < p.al[i].cons.length := by omega
      obtain ⟨b', fo, jZ, fq, db⟩ := e3.held fk
      cases fq
      obtain ⟨cc, f1, dA⟩ := dt (fun _ _ h => h.one.1) e4 db fk
      obtain ⟨a3, c3, xf, rfl, _, _⟩ := f1.form
      rw [J8 fk] at fO
      refine wz.M.c.p.e.d.j.z ?_; refine eY rfl rfl (dA _) rfl ?_
      refine aj rfl (fun b6 => ?_)
      refine wz.b.a.A.v.g.c.b.q.z ?_
      refine an rfl (fun hf => ?_) (fun hf => ?_)
      ·have lR : mK p = (5, p.al[i].cons[k].pos) := by
        rw [if_pos oM] at fO
        unfold mK jL
        rw [hj, fO]; rfl
       rw [lR]
       refine wz.l.x.l.l.x.x.l.l.x.i.b.V.K.v.g.c.z ?_
       exact bp [] rfl (ay 2 rfl rfl rL) sM ⟨rfl, rfl, rfl⟩
      ·rw [if_neg oM] at fO
       refine wz.Bp.b.a.E.r.d.y.j.z ?_
       exact aM (k + 1) ⟨oM, fO⟩ oM ⟨rfl, rfl, rfl, rfl, rfl, rfl, rfl, rfl, trivial⟩ rfl rfl
     ·have dj : k = p.al[i].cons.length := by omega
      rw [dj, List.drop_length] at fO
      rw [fO, show lq [] = none from rfl, Option.none_or] at hj
      refine wz.Bi.b.a.E.r.d.y.D.m.m.C.z ?_
      exact aM (i + 1) ⟨oM, oM, hj⟩ oM ⟨rfl, rfl, rfl, rfl, rfl, trivial⟩ rfl rfl
 ·have dw : i = p.al.length := by omega
  rw [dw, List.drop_length] at hj
  have dr : l0 0 p.al = none := hj
  refine wz.b.a.A.I.g.c.e.d.D.m.m.C.z ?_
  refine an rfl (fun F9 => ?_) (fun F9 => ?_)
  ·have qc : 16 < p.binds.length := by omega
   obtain ⟨b, off, cap, aq, hx⟩ := h3.held qc
   cases aq
   obtain ⟨c, e1, hr⟩ := dt (fun _ _ h => h.one.1) h4 hx qc
   obtain ⟨y1, y2, y3, y4, y5, y6, y7, y8, y9, tf, tg, th, rfl, _⟩ := e1.form
   have lR : mK p = ((5 : Int), p.binds[16].pos) := by
    unfold mK jL
    rw [dr, Option.none_or, if_pos qc, MB qc]
   rw [lR]
   refine wz.g.M.I.g.c.z ?_
   refine cj rfl rfl ((hr _).du 0 rfl) ?_
   refine wz.l.i.b.q.K.z ?_
   exact bp [] rfl (ay 0 rfl rfl rL) sM ⟨rfl, rfl, rfl⟩
  ·have lR : mK p = (0, 0) := by
    unfold mK jL
    rw [dr, Option.none_or, if_neg oM]
   rw [lR]
   refine wz.i.b.q.K.c.d.j.z ?_
   exact bp [] rfl (ay 0 rfl rfl rL) sM ⟨rfl, rfl, rfl⟩
theorem MC {p : Pg} (h : jL p = none) : fH p = match kx p.al with
  | some q => (4, q)
  | none => (iz p.binds).getD (0, 0) := by unfold fH; rw [h]; rfl
theorem Wh (g : ab) (p : Pg) (v : Value) (hw : wZ p) (hv : ll g v p) : Pure prog 33 [v] g (pq (fH p)) := by
 have ie := hv
 obtain ⟨cs, rfl, sd, xd, sb, xb, rfl, h1, h2, h3, h4⟩ := hv
 obtain ⟨da, dc, rfl⟩ := aU h1
 obtain ⟨ba, bc, rfl⟩ := aU h3
 have te := h1.le
 have A2 := h3.le
 refine aw func33 rfl ntmps33 rfl fun E hE => ?_
 refine aS ?_
 refine aP rfl rfl rfl (fun b1 => ?_)
 refine aj rfl (fun b2 => ?_)
 refine wz.O.c.e.b.z ?_
 refine aO rfl rfl (Wg g p _ ie) ?_
 skip
 refine aj rfl (fun b3 => ?_)
 refine wz.b.a.v.g.c.b.q.z ?_
 cases hm : jL p with
 | some q =>
  have e1 : mK p = (5, q) := by unfold mK; rw [hm]
  have e2 : fH p = (5, q) := by unfold fH; rw [hm]
  rw [e1, e2]
  refine wz.l.i.b.B.G.c.t.z ?_
  exact bp [] rfl (ay 1 rfl rfl rL) sM ⟨rfl, rfl, rfl⟩
 | none =>
  have e1 : mK p = (0, 0) := by unfold mK; rw [hm]
  have e2 := MC hm
  rw [e1]
  refine wz.Bi.p.b.a.A.Ag.g.c.e.d.j.o.z ?_
  refine aX (ι := Nat) (fun i => [(1, ptr b1 0), (2, ptr b2 0), (19, .slice da p.al.length dc), (20, .int .i64 p.al.length), (21, .int .i64 i)]) (fun _ => g) (fun _ => [.ae b2 33 [.int .i64 0, .int .i64 0], .ae b1 28 [.slice da p.al.length dc, .slice ba p.binds.length bc]]) (fun i => i ≤ p.al.length ∧ kx p.al = kx (p.al.drop i)) (fun i => p.al.length - i) 0 ⟨Nat.zero_le _, by rw [List.drop_zero]⟩ ⟨rfl, rfl, rfl, rfl, rfl, trivial⟩ rfl rfl ?_
  rintro i ⟨hi, hj⟩
  refine wz.e.b.a.c.z ?_
  refine an rfl (fun hlt => ?_) (fun hlt => ?_)
  ·have af : i < p.al.length := by omega
   obtain ⟨b, off, cap, aq, hx⟩ := h1.held af
   cases aq
   obtain ⟨c, mv, hr⟩ := dt (fun _ _ h => h.one.1) h2 hx af
   obtain ⟨a1, c1, a2, c2, xc, rfl, _, e3, e4⟩ := mv.form
   have A2 := e3.le
   have F_ := hw.d _ (List.getElem_mem af)
   rw [J_ af] at hj
   refine wz.An.M.c.p.e.d.j.z ?_
   refine aj rfl (fun b5 => ?_)
   refine wz.p.b.a.A.v.g.c.b.q.z ?_
   refine aX (ι := Nat) (fun k => [(1, ptr b1 0), (2, ptr b2 0), (5, ptr b5 0), (19, .slice (some ⟨b, off, none⟩) p.al.length dc), (20, .int .i64 p.al.length), (21, .int .i64 i), (26, .slice a2 p.al[i].cons.length c2), (27, .int .i64 p.al[i].cons.length), (28, .int .i64 k)]) (fun _ => g) (fun _ => [.ae b5 60 [.int .i64 p.al[i].pos, str p.al[i].name, .slice a1 p.al[i].params.length c1, .slice a2 p.al[i].cons.length c2], .ae b2 33 [.int .i64 0, .int .i64 0], .ae b1 28 [.slice (some ⟨b, off, none⟩) p.al.length dc, .slice ba p.binds.length bc]]) (fun k => k ≤ p.al[i].cons.length ∧ l3 p.al[i].cons = l3 (p.al[i].cons.drop k)) (fun k => p.al[i].cons.length - k) 0 ⟨Nat.zero_le _, by rw [List.drop_zero]⟩ ⟨rfl, rfl, rfl, rfl, rfl, rfl, rfl, rfl, rfl, trivial⟩ rfl rfl ?_
   rintro k ⟨hk, fO⟩
   refine wz.e.b.a.c.z ?_
   refine an rfl (fun dk => ?_) (fun dk => ?_)
   ·have fk : k < p.al[i].cons.length := by omega
    obtain ⟨b', fo, jZ, fq, db⟩ := e3.held fk
    cases fq
    obtain ⟨cc, f1, dA⟩ := dt (fun _ _ h => h.one.1) e4 db fk
    obtain ⟨a3, c3, xf, rfl, f2, f3⟩ := f1.form
    have Ga := F_ _ (List.getElem_mem fk)
    rw [Ka fk] at fO
    refine wz.M.c.p.e.d.j.z ?_; refine eY rfl rfl (dA _) rfl ?_
    refine aj rfl (fun b7 => ?_)
    refine wz.v.g.c.b.q.z ?_
    refine aO rfl rfl (VY g p.al[i].cons[k].fields _ xf f2 f3 (fun t => decide (40 < cu t)) (fun t ht u hu => V1 g t u (Ga t ht) hu)) ?_
    rw [show (p.al[i].cons[k].fields.any fun t => decide (40 < cu t)) = oW p.al[i].cons[k].fields from rfl]
    cases hd : oW p.al[i].cons[k].fields with
    | true =>
     rw [hd, Bool.true_or] at fO
     rw [fO, if_pos rfl] at hj
     rw [hj] at e2
     rw [e2]
     refine wz.l.x.l.l.x.x.l.l.x.i.b.V.K.I.g.c.t.b.z ?_
     exact bp [] rfl (ay 2 rfl rfl rL) sM ⟨rfl, rfl, rfl⟩
    | false =>
     rw [hd, Bool.false_or] at fO
     refine wz.Bp.b.a.E.r.d.y.j.o.b.z ?_
     exact aM (k + 1) ⟨oM, fO⟩ oM ⟨rfl, rfl, rfl, rfl, rfl, rfl, rfl, rfl, rfl, trivial⟩ rfl rfl
   ·have dj : k = p.al[i].cons.length := by omega
    rw [dj, List.drop_length] at fO
    rw [fO, if_neg (by simp [l3])] at hj
    refine wz.Bi.b.a.E.r.d.y.D.m.m.C.z ?_
    exact aM (i + 1) ⟨oM, hj⟩ oM ⟨rfl, rfl, rfl, rfl, rfl, trivial⟩ rfl rfl
  ·have dw : i = p.al.length := by omega
   rw [dw, List.drop_length] at hj
   have dr : kx p.al = none := hj
   rw [dr] at e2
   simp only at e2
   refine wz.CG.p.b.a.A.I.g.c.e.d.D.m.m.C.z ?_
   refine aX (ι := Nat) (fun i => [(2, ptr b2 0), (41, .slice ba p.binds.length bc), (42, .int .i64 p.binds.length), (43, .int .i64 i)]) (fun _ => g) (fun _ => [.ae b2 33 [.int .i64 0, .int .i64 0]]) (fun i => i ≤ p.binds.length ∧ iz p.binds = iz (p.binds.drop i)) (fun i => p.binds.length - i) 0 ⟨Nat.zero_le _, by rw [List.drop_zero]⟩ ⟨rfl, rfl, rfl, rfl, trivial⟩ rfl rfl ?_
   rintro i ⟨hi, eR⟩
   refine wz.e.b.a.c.z ?_
   refine an rfl (fun w_ => ?_) (fun w_ => ?_)
   ·have af : i < p.binds.length := by omega
    obtain ⟨b, off, cap, aq, hx⟩ := h3.held af
    cases aq
    obtain ⟨c, mv, hr⟩ := dt (fun _ _ h => h.one.1) h4 hx af
    obtain ⟨y1, y2, y3, y4, y5, y6, y7, y8, y9, tf, tg, th, rfl, e3, e4⟩ := mv.form
    obtain ⟨w1, w2, w3, w4⟩ := hw.b _ (List.getElem_mem af)
    rw [Kb af] at eR
    refine wz.An.M.c.p.e.d.j.z ?_
    refine aj rfl (fun b9 => ?_)
    refine wz.G.g.c.e.b.q.z ?_
    refine aO rfl rfl (z_ g p.binds[i].sig _ w2 ⟨_, rfl, e3⟩) ?_
    refine wz.a.a.z ?_
    refine bw rfl rfl (fun hd => ?_) (fun hd => ?_)
    ·have hb : (decide (40 < cu p.binds[i].sig) || kT p.binds[i].body) = true := by rw [decide_eq_true oM, Bool.true_or]
     rw [if_pos hb] at eR
     rw [eR] at e2
     rw [e2]
     refine wz.l.x.l.l.x.l.i.b.B.K.v.g.c.t.b.a.h.h.h.z ?_
     exact bp [] rfl (ay 1 rfl rfl rL) sM ⟨rfl, rfl, rfl⟩
    ·have hb : (decide (40 < cu p.binds[i].sig) || kT p.binds[i].body) = kT p.binds[i].body := by rw [decide_eq_false oM, Bool.false_or]
     rw [hb] at eR
     refine wz.k.G.k.g.k.z ?_
     refine aO rfl rfl (V3 (Nat.le_refl _) g p.binds[i].body _ w3 w4 ⟨_, rfl, e4⟩) ?_
     cases qZ : kT p.binds[i].body with
     | true =>
      rw [qZ, if_pos rfl] at eR
      rw [eR] at e2
      rw [e2]
      refine wz.l.x.l.l.x.l.i.b.B.K.v.g.c.t.b.a.z ?_
      exact bp [] rfl (ay 1 rfl rfl rL) sM ⟨rfl, rfl, rfl⟩
     | false =>
      rw [qZ, if_neg dC] at eR
      refine wz.G.g.c.d.j.o.b.a.z ?_
      refine aB rfl rfl (Wf g p.binds[i].body _ w3 ⟨_, rfl, e4⟩) ?_
      rintro w g2 ⟨rfl, q, av, F8, rfl, td⟩ _
      obtain ⟨u1, u2, u3, u4, u5, u6, u7, u8, u9, V5, V6, V7, V8, V9, V_, u16, Wa, Wb, Wc, Wd, We, rfl⟩ := F8
      generalize hO p.binds[i].body = o at eR td
      refine wz.a.a.a.z ?_
      refine aj rfl (fun bh => ?_)
      refine wz.b.a.c.b.a.q.z ?_
      cases o with
      | some q' =>
       obtain rfl := td q' rfl
       rw [eR] at e2
       rw [e2]
       refine wz.l.x.l.l.x.i.b.V.K.v.g.c.t.z ?_
       exact bp [] rfl (ay 2 rfl rfl rL) sM ⟨rfl, rfl, rfl⟩
      | none =>
       rw [Option.map_none, Option.none_or] at eR
       refine wz.CH.b.a.E.r.d.y.j.o.z ?_
       exact aM (i + 1) ⟨oM, eR⟩ oM ⟨rfl, rfl, rfl, rfl, trivial⟩ rfl rfl
   ·have dw : i = p.binds.length := by omega
    rw [dw, List.drop_length] at eR
    have Gb : iz p.binds = none := eR
    rw [Gb] at e2
    rw [e2]
    refine wz.i.b.q.K.c.d.D.m.m.C.z ?_
    exact bp [] rfl (ay 0 rfl rfl rL) sM ⟨rfl, rfl, rfl⟩
end Go.Proofs.YtlnjfkfojkgiiaaGreatDoor

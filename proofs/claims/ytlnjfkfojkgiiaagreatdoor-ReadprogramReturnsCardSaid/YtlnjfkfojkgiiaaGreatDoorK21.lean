/- The walk of typedholesref4.EqualProgram. -/
import Derived.Test.YtlnjfkfojkgiiaaGreatDoorK20
open Go Go.aZ Go.Th Go.Proofs Tryz
set_option maxRecDepth 10000
set_option maxHeartbeats 4000000
attribute [local irreducible] wpList Code.wp ah bodyPost Go.aZ.Ends Exit.then Exit.inBlock dJ Wq Kq
namespace Go.Proofs.YtlnjfkfojkgiiaaGreatDoor
theorem XE (g : ab) (p q : Pg) (td : xD p q) (u v : Value) (hu : ll g u p) (hv : ll g v q) : Pure prog 10 [u, v] g (.bool true) := by
 obtain ⟨r_, tx, hd, hb⟩ := td
 obtain ⟨cs, rfl, sd, xd, sb, xb, rfl, h1, h2, h3, h4⟩ := hu
 obtain ⟨cs', rfl, vj, vl, vk, vn, rfl, g1, g2, g3, g4⟩ := hv
 rw [← r_] at g1
 rw [← tx] at g3
 obtain ⟨da, dc, rfl⟩ := aU h1
 obtain ⟨ba, bc, rfl⟩ := aU h3
 obtain ⟨B5, vp, rfl⟩ := aU g1
 obtain ⟨xE, sI, rfl⟩ := aU g3
 have te := h1.le
 have A2 := h3.le
 refine aw func10 rfl ntmps10 rfl fun E hE => ?_
 refine aS ?_
 refine aP rfl rfl rfl (fun b2 => ?_)
 refine aP rfl rfl rfl (fun b3 => ?_)
 refine wz.a.a.A.v.g.A.I.g.c.e.b.a.z ?_
 refine bw rfl rfl (fun h => absurd rfl h) (fun _ => ?_)
 refine wz.b.a.u.A.k.v.k.g.k.A.k.I.k.g.k.z ?_
 refine an rfl (fun h => absurd rfl h) (fun _ => ?_)
 refine wz.p.b.a.c.e.d.j.z ?_
 refine aX (ι := Nat) (fun i => [(2, ptr b2 0), (3, ptr b3 0), (5, .int .i64 i)]) (fun _ => g) (fun _ => [.ae b3 28 [.slice B5 p.al.length vp, .slice xE p.binds.length sI], .ae b2 28 [.slice da p.al.length dc, .slice ba p.binds.length bc]]) (fun i => i ≤ p.al.length) (fun i => p.al.length - i) 0 (Nat.zero_le _) ⟨rfl, rfl, rfl, trivial⟩ rfl rfl ?_
 intro i hi
 refine wz.b.a.A.I.g.a.c.e.z ?_
 refine an rfl (fun hlt => ?_) (fun hlt => ?_)
 ·have af : i < p.al.length := by omega
  obtain ⟨hn, NF, gk, XF⟩ := hd i af oM
  obtain ⟨b, off, cap, aq, hx⟩ := h1.held af
  cases aq
  obtain ⟨b', fo, jZ, fq, db⟩ := g1.held af
  cases fq
  obtain ⟨c, e1, hr⟩ := dt (fun _ _ h => h.one.1) h2 hx af
  obtain ⟨a1, c1, a2, c2, xc, rfl, e2, e3, e4⟩ := e1.form
  obtain ⟨c', f1, dA⟩ := dt (fun _ _ h => h.one.1) g2 db (show i < q.al.length by omega)
  obtain ⟨NG, NH, NI, NJ, xc', rfl, f2, f3, f4⟩ := f1.form
  have aF := e3.le
  rw [← hn, ← NF, ← gk] at dA
  rw [← NF] at f2
  rw [← gk] at f3
  refine wz.p.e.d.j.z ?_
  refine cD (ι := Nat × Nat) (fun o => [(2, ptr b2 0), (3, ptr b3 0), (5, .int .i64 i), (6, ptr o.1 0), (7, ptr o.2 0)]) (fun _ => g)
   (fun o => [.ae o.2 60 [.int .i64 q.al[i].pos, str p.al[i].name, .slice NG p.al[i].params.length NH, .slice NI p.al[i].cons.length NJ], .ae o.1 60 [.int .i64 p.al[i].pos, str p.al[i].name, .slice a1 p.al[i].params.length c1, .slice a2 p.al[i].cons.length c2], .ae b3 28 [.slice (some ⟨b', fo, none⟩) p.al.length vp, .slice xE p.binds.length sI], .ae b2 28 [.slice (some ⟨b, off, none⟩) p.al.length dc, .slice ba p.binds.length bc]]) (fun _ => True) ?_ ?_
  ·rintro ⟨b6, b7⟩ -
   try dsimp only
   refine wz.a.a.v.g.I.g.c.e.z ?_
   refine bw rfl rfl (fun h => absurd rfl h) (fun _ => ?_)
   refine wz.k.v.k.g.k.I.k.g.k.z ?_
   refine aO rfl rfl (JT g _ _ p.al[i].params e2 f2) ?_
   refine wz.b.a.u.A.k.v.k.g.k.A.k.I.k.g.k.a.a.u.z ?_
   refine an rfl (fun h => absurd rfl h) (fun _ => ?_)
   refine wz.p.b.a.c.d.j.z ?_
   refine aX (ι := Nat) (fun k => [(2, ptr b2 0), (3, ptr b3 0), (5, .int .i64 i), (6, ptr b6 0), (7, ptr b7 0), (8, .int .i64 k)]) (fun _ => g) (fun _ => [.ae b7 60 [.int .i64 q.al[i].pos, str p.al[i].name, .slice NG p.al[i].params.length NH, .slice NI p.al[i].cons.length NJ], .ae b6 60 [.int .i64 p.al[i].pos, str p.al[i].name, .slice a1 p.al[i].params.length c1, .slice a2 p.al[i].cons.length c2], .ae b3 28 [.slice (some ⟨b', fo, none⟩) p.al.length vp, .slice xE p.binds.length sI], .ae b2 28 [.slice (some ⟨b, off, none⟩) p.al.length dc, .slice ba p.binds.length bc]]) (fun k => k ≤ p.al[i].cons.length) (fun k => p.al[i].cons.length - k) 0 (Nat.zero_le _) ⟨rfl, rfl, rfl, rfl, rfl, rfl, trivial⟩ rfl rfl ?_
   intro k hk
   refine wz.b.a.A.I.g.a.c.e.z ?_
   refine an rfl (fun dk => ?_) (fun dk => ?_)
   ·have fk : k < p.al[i].cons.length := by omega
    obtain ⟨pN, B6⟩ := XF k fk oM
    obtain ⟨y, yo, yc, ou, hy⟩ := e3.held fk
    cases ou
    obtain ⟨y', yo', yc', XG, gJ⟩ := f3.held fk
    cases XG
    obtain ⟨cc, k1, kr⟩ := dt (fun _ _ h => h.one.1) e4 hy fk
    obtain ⟨a3, c3, xf, rfl, k2, k3⟩ := k1.form
    obtain ⟨cc', XH, GA⟩ := dt (fun _ _ h => h.one.1) f4 gJ (show k < q.al[i].cons.length by omega)
    obtain ⟨a3', c3', XI, rfl, zO, NK⟩ := XH.form
    rw [← pN, ← B6] at GA
    rw [← B6] at zO NK
    refine wz.J.Aj.s.BQ.J.Ab.e.p.e.d.j.z ?_
    refine bR rfl (cU rfl ((kr _).du 1 rfl)) ?_
    refine wz.J.Aj.s.Q.J.z ?_
    refine bR rfl (cU rfl ((GA _).du 1 rfl)) ?_
    refine wz.s.s.z ?_
    refine lC rfl rfl (fun h => absurd rfl h) (fun _ => ?_)
    refine wz.H.J.H.Aj.H.L.BQ.H.J.H.z ?_
    refine bR rfl (cU rfl ((kr _).du 2 rfl)) ?_
    refine wz.H.J.H.Aj.H.L.Q.H.J.H.z ?_
    refine bR rfl (cU rfl ((GA _).du 2 rfl)) ?_
    refine wz.H.z ?_
    refine iy rfl rfl (XC g p.al[i].cons[k].fields _ _ xf XI k2 k3 zO NK) ?_
    refine wz.b.a.E.a.r.d.y.j.o.d.T.s.L.z ?_
    exact aM (k + 1) oM oM ⟨rfl, rfl, rfl, rfl, rfl, rfl, trivial⟩ rfl rfl
   ·refine wz.BS.b.a.E.a.r.d.y.D.m.m.C.z ?_
    exact aM (i + 1) oM oM ⟨rfl, rfl, rfl, trivial⟩ rfl rfl
  ·intro K hK
   refine bO [] mixed (fun hG => ?_)
   refine wz.P.z ?_; refine ⟨_, (aI rfl), ?_⟩; refine wz.R.z ?_; refine ⟨_, (a7 1 rfl rfl rfl), ?_⟩; refine wz.S.z ?_; refine ⟨_, (ag rfl), ?_⟩
   refine wz.Ad.Dm.Dl.z ?_; refine ⟨_, (aI rfl), ?_⟩; refine wz.Ak.z ?_; refine ⟨_, (a7 0 rfl rfl rfl), ?_⟩; refine wz.Aa.z ?_; refine ⟨_, (ag rfl), ?_⟩
   refine wz.Do.Dn.z ?_
   refine eH 10 11 kR rfl rfl ?_ ?_
   ·refine aj rfl (fun b6 => ?_)
    refine wz.Bf.f.b.z ?_
    refine aj rfl (fun b7 => ?_)
    refine wz.d.F.f.b.q.AJ.f.b.B.Bd.f.b.z ?_
    exact hK (b6, b7) _ trivial ⟨rfl, rfl, rfl, rfl, rfl, trivial⟩
   ·refine aj rfl (fun b7 => ?_)
    refine wz.AW.f.b.z ?_
    refine aj rfl (fun b6 => ?_)
    refine wz.AP.d.F.f.b.B.AJ.f.b.q.Bd.f.b.z ?_
    exact hK (b6, b7) _ trivial ⟨rfl, rfl, rfl, rfl, rfl, trivial⟩
 ·refine wz.p.b.a.c.e.d.D.m.m.C.z ?_
  refine aX (ι := Nat) (fun i => [(2, ptr b2 0), (3, ptr b3 0), (9, .int .i64 i)]) (fun _ => g) (fun _ => [.ae b3 28 [.slice B5 p.al.length vp, .slice xE p.binds.length sI], .ae b2 28 [.slice da p.al.length dc, .slice ba p.binds.length bc]]) (fun i => i ≤ p.binds.length) (fun i => p.binds.length - i) 0 (Nat.zero_le _) ⟨rfl, rfl, rfl, trivial⟩ rfl rfl ?_
  intro i hi
  refine wz.b.a.A.I.g.a.c.e.z ?_
  refine an rfl (fun w_ => ?_) (fun w_ => ?_)
  ·have af : i < p.binds.length := by omega
   obtain ⟨mv, XJ, XK, NL, heq, aJ, bj⟩ := hb i af oM
   obtain ⟨b, off, cap, aq, hx⟩ := h3.held af
   cases aq
   obtain ⟨b', fo, jZ, fq, db⟩ := g3.held af
   cases fq
   obtain ⟨c, e1, hr⟩ := dt (fun _ _ h => h.one.1) h4 hx af
   obtain ⟨y1, y2, y3, y4, y5, y6, y7, y8, y9, tf, tg, th, rfl, xA, xB⟩ := e1.form
   obtain ⟨c', f1, dA⟩ := dt (fun _ _ h => h.one.1) g4 db (show i < q.binds.length by omega)
   obtain ⟨z1, z2, z3, z4, z5, z6, z7, z8, z9, XL, NM, z12, rfl, vq, B7⟩ := f1.form
   rw [← mv, ← XJ, ← XK, ← NL] at dA
   rw [← NL] at vq
   generalize p.binds[i].isRec = rb at hr dA
   generalize p.binds[i].fD = sb at hr dA
   generalize p.binds[i].name = nm at hr dA
   refine wz.p.e.d.j.z ?_
   refine cD (ι := Nat × Nat) (fun o => [(2, ptr b2 0), (3, ptr b3 0), (9, .int .i64 i), (10, ptr o.1 0), (11, ptr o.2 0)]) (fun _ => g)
    (fun o => [.ae o.2 49 [.int .i64 q.binds[i].pos, .bool rb, str nm, .bool sb, .int .i64 p.binds[i].sig.kind, str p.binds[i].sig.name, .int .i64 p.binds[i].sig.id, .int .i64 p.binds[i].sig.home, .slice z1 z2 z3, .int .i64 q.binds[i].body.kind, .int .i64 q.binds[i].body.pos, str q.binds[i].body.name, .int .i64 q.binds[i].body.num, .slice z4 z5 z6, .slice z7 z8 z9, .int .i64 q.binds[i].body.ty.kind, str q.binds[i].body.ty.name, .int .i64 q.binds[i].body.ty.id, .int .i64 q.binds[i].body.ty.home, .slice XL NM z12], .ae o.1 49 [.int .i64 p.binds[i].pos, .bool rb, str nm, .bool sb, .int .i64 p.binds[i].sig.kind, str p.binds[i].sig.name, .int .i64 p.binds[i].sig.id, .int .i64 p.binds[i].sig.home, .slice y1 y2 y3, .int .i64 p.binds[i].body.kind, .int .i64 p.binds[i].body.pos, str p.binds[i].body.name, .int .i64 p.binds[i].body.num, .slice y4 y5 y6, .slice y7 y8 y9, .int .i64 p.binds[i].body.ty.kind, str p.binds[i].body.ty.name, .int .i64 p.binds[i].body.ty.id, .int .i64 p.binds[i].body.ty.home, .slice tf tg th], .ae b3 28 [.slice B5 p.al.length vp, .slice (some ⟨b', fo, none⟩) p.binds.length sI], .ae b2 28 [.slice da p.al.length dc, .slice (some ⟨b, off, none⟩) p.binds.length bc]]) (fun _ => True) ?_ ?_
   ·rintro ⟨bh, dY⟩ -
    try dsimp only
    cases rb with
    | true =>
     cases sb with
     | true =>
      refine wz.a.a.u.v.k.g.k.I.k.g.k.a.BC.v.g.I.g.c.z ?_
      refine bw rfl rfl (fun h => absurd rfl h) (fun _ => ?_)
      refine wz.k.G.k.g.k.O.k.g.k.a.a.BC.k.v.k.g.k.I.k.g.k.z ?_
      refine aO rfl rfl (sH g p.binds[i].sig _ _ ⟨_, rfl, xA⟩ ⟨_, rfl, vq⟩) ?_
      refine wz.k.G.k.g.k.O.k.g.k.a.a.u.z ?_
      refine aO rfl rfl (zG g p.binds[i].body q.binds[i].body _ _ aJ bj heq ⟨_, rfl, xB⟩ ⟨_, rfl, B7⟩) ?_
      refine wz.BS.b.a.E.a.r.d.y.j.o.b.a.u.z ?_
      exact aM (i + 1) oM oM ⟨rfl, rfl, rfl, trivial⟩ rfl rfl
     | false =>
      refine wz.a.a.u.v.k.g.k.I.k.g.k.a.BC.v.g.I.g.c.z ?_
      refine bw rfl rfl (fun h => absurd rfl h) (fun _ => ?_)
      refine wz.k.G.k.g.k.O.k.g.k.a.a.BC.k.v.k.g.k.I.k.g.k.z ?_
      refine aO rfl rfl (sH g p.binds[i].sig _ _ ⟨_, rfl, xA⟩ ⟨_, rfl, vq⟩) ?_
      refine wz.k.G.k.g.k.O.k.g.k.a.a.u.z ?_
      refine aO rfl rfl (zG g p.binds[i].body q.binds[i].body _ _ aJ bj heq ⟨_, rfl, xB⟩ ⟨_, rfl, B7⟩) ?_
      refine wz.BS.b.a.E.a.r.d.y.j.o.b.a.u.z ?_
      exact aM (i + 1) oM oM ⟨rfl, rfl, rfl, trivial⟩ rfl rfl
    | false =>
     cases sb with
     | true =>
      refine wz.a.a.u.v.k.g.k.I.k.g.k.a.BC.v.g.I.g.c.z ?_
      refine bw rfl rfl (fun h => absurd rfl h) (fun _ => ?_)
      refine wz.k.G.k.g.k.O.k.g.k.a.a.BC.k.v.k.g.k.I.k.g.k.z ?_
      refine aO rfl rfl (sH g p.binds[i].sig _ _ ⟨_, rfl, xA⟩ ⟨_, rfl, vq⟩) ?_
      refine wz.k.G.k.g.k.O.k.g.k.a.a.u.z ?_
      refine aO rfl rfl (zG g p.binds[i].body q.binds[i].body _ _ aJ bj heq ⟨_, rfl, xB⟩ ⟨_, rfl, B7⟩) ?_
      refine wz.BS.b.a.E.a.r.d.y.j.o.b.a.u.z ?_
      exact aM (i + 1) oM oM ⟨rfl, rfl, rfl, trivial⟩ rfl rfl
     | false =>
      refine wz.a.a.u.v.k.g.k.I.k.g.k.a.BC.v.g.I.g.c.z ?_
      refine bw rfl rfl (fun h => absurd rfl h) (fun _ => ?_)
      refine wz.k.G.k.g.k.O.k.g.k.a.a.BC.k.v.k.g.k.I.k.g.k.z ?_
      refine aO rfl rfl (sH g p.binds[i].sig _ _ ⟨_, rfl, xA⟩ ⟨_, rfl, vq⟩) ?_
      refine wz.k.G.k.g.k.O.k.g.k.a.a.u.z ?_
      refine aO rfl rfl (zG g p.binds[i].body q.binds[i].body _ _ aJ bj heq ⟨_, rfl, xB⟩ ⟨_, rfl, B7⟩) ?_
      refine wz.BS.b.a.E.a.r.d.y.j.o.b.a.u.z ?_
      exact aM (i + 1) oM oM ⟨rfl, rfl, rfl, trivial⟩ rfl rfl
   ·intro K hK
    refine bO [] mixed (fun hG => ?_)
    refine wz.P.z ?_; refine ⟨_, (aI rfl), ?_⟩; refine wz.R.z ?_; refine ⟨_, (a7 1 rfl rfl rfl), ?_⟩; refine wz.S.z ?_; refine ⟨_, (ag rfl), ?_⟩
    refine wz.Ad.Dm.Dl.z ?_; refine ⟨_, (aI rfl), ?_⟩; refine wz.Ak.z ?_; refine ⟨_, (a7 0 rfl rfl rfl), ?_⟩; refine wz.Aa.z ?_; refine ⟨_, (ag rfl), ?_⟩
    refine wz.Do.Dn.z ?_
    refine eH 10 11 kR rfl rfl ?_ ?_
    ·refine aj rfl (fun bh => ?_)
     refine wz.Bf.f.b.z ?_
     refine aj rfl (fun dY => ?_)
     refine wz.d.F.f.b.q.AJ.f.b.B.Bd.f.b.z ?_
     exact hK (bh, dY) _ trivial ⟨rfl, rfl, rfl, rfl, rfl, trivial⟩
    ·refine aj rfl (fun dY => ?_)
     refine wz.AW.f.b.z ?_
     refine aj rfl (fun bh => ?_)
     refine wz.AP.d.F.f.b.B.AJ.f.b.q.Bd.f.b.z ?_
     exact hK (bh, dY) _ trivial ⟨rfl, rfl, rfl, rfl, rfl, trivial⟩
  ·refine wz.i.b.a.c.d.D.m.m.C.z ?_
   exact ao [] rfl rfl sM ⟨rfl, rfl, rfl⟩
end Go.Proofs.YtlnjfkfojkgiiaaGreatDoor
namespace Go.Th
mutual
def kY : Ty → Ty → Bool
 | .mk k n i h a, .mk k' n' i' h' a' => decide (k = k') && (decide (n = n') && (decide (i = i') && (decide (h = h') && lS a a')))
def lS : List Ty → List Ty → Bool
 | [], [] => true
 | a :: r, b :: s => kY a b && lS r s
 | _, _ => false
end
mutual
theorem NN : ∀ (t u : Ty), kY t u = true → t = u
 | .mk k n i h a, .mk k' n' i' h' a', e => by
  simp only [kY, Bool.and_eq_true, decide_eq_true_eq] at e
  obtain ⟨rfl, rfl, rfl, rfl, e⟩ := e
  rw [GC a a' e]
theorem GC : ∀ (l m : List Ty), lS l m = true → l = m
 | [], [], _ => rfl
 | [], _ :: _, e => by simp [lS] at e
 | _ :: _, [], e => by simp [lS] at e
 | a :: r, b :: s, e => by
  simp only [lS, Bool.and_eq_true] at e
  rw [NN a b e.1, GC r s e.2]
end
theorem XM {l m : List Ty} (h : l.length ≠ m.length) : lS l m = false := by
 cases e : lS l m with
 | false => rfl
 | true => exact absurd (congrArg List.length (GC l m e)) h
theorem XN {l m : List Ty} {k : Nat} (h : k < l.length) (h' : k < m.length) : lS (l.drop k) (m.drop k) = (kY l[k] m[k] && lS (l.drop (k + 1)) (m.drop (k + 1))) := by
 rw [List.drop_eq_getElem_cons h, List.drop_eq_getElem_cons h', lS]
theorem XO (t u : Ty) : kY t u = (decide (t.kind = u.kind) && (decide (t.name = u.name) && (decide (t.id = u.id) && (decide (t.home = u.home) && lS t.args u.args)))) := by
 cases t; cases u; rw [kY]; rfl
mutual
def kZ (k : Int) : Ty → Bool
 | .mk k' _ _ _ a => decide (k' = k) || ov k a
def ov (k : Int) : List Ty → Bool
 | [] => false
 | a :: r => kZ k a || ov k r
end
theorem XP {k : Int} {l : List Ty} {i : Nat} (h : i < l.length) : ov k (l.drop i) = (kZ k l[i] || ov k (l.drop (i + 1))) := by
 rw [List.drop_eq_getElem_cons h, ov]
theorem XQ (k : Int) (t : Ty) : kZ k t = (decide (t.kind = k) || ov k t.args) := by cases t; rw [kZ]; rfl
mutual
def aE : Ty → Nat
 | .mk _ _ _ _ a => 1 + bM a
def bM : List Ty → Nat
 | [] => 0
 | a :: r => aE a + bM r
end
theorem XR (t : Ty) : 1 ≤ aE t := by cases t; simp only [aE]; omega
theorem pt : ∀ l : List Ty, l.length ≤ bM l
 | [] => Nat.le_refl _
 | a :: r => by have := pt r; have := XR a; simp only [bM, List.length_cons]; omega
theorem mN : ∀ {l : List Ty} {a : Ty}, a ∈ l → aE a ≤ bM l
 | b :: r, a, h => by
  simp only [bM]
  rcases List.mem_cons.1 h with rfl | h
  ·omega
  ·have := mN h; omega
theorem jA (t : Ty) : aE t = 1 + bM t.args := by cases t; simp only [aE, Ty.args]
theorem vr : ∀ (x y : List Ty), bM (x ++ y) = bM x + bM y
 | [], y => by simp [bM]
 | a :: x, y => by simp only [List.cons_append, bM, vr x y]; omega
end Go.Th
namespace Go.Proofs.YtlnjfkfojkgiiaaGreatDoor
theorem XS (g : ab) (ta tb : List Ty) (wo : ∀ t ∈ ta, ∀ t' u v, aQ g u t → aQ g v t' → Pure prog 12 [u, v] g (.bool (kY t t'))) (u v : Value) (xs ys : List Value)
  (hu : au g 5 u ta.length xs) (hx : aV g ta xs) (hv : au g 5 v tb.length ys) (hy : aV g tb ys) : Pure prog 35 [u, v] g (.bool (lS ta tb)) := by
 have hle := hu.le
 have aE3 := hv.le
 obtain ⟨ua, uc, rfl⟩ := aU hu
 obtain ⟨va, vc, rfl⟩ := aU hv
 refine aw func35 rfl ntmps35 rfl fun E hE => ?_
 refine wz.b.a.A.a.A.a.c.e.b.a.c.z ?_
 refine an rfl (fun h => ?_) (fun hl => ?_)
 ·refine wz.l.i.b.a.c.z ?_
  exact ao [] rfl rfl sM ⟨vb (by rw [XM oM]), rfl, rfl⟩
 replace hl : ta.length = tb.length := by simp at hl; omega
 refine wz.p.b.a.c.e.d.j.z ?_
 refine aX (ι := Nat) (fun k => [(0, .slice ua ta.length uc), (1, .slice va tb.length vc), (5, .int .i64 k)]) (fun _ => g) (fun _ => []) (fun k => k ≤ ta.length ∧ lS (ta.drop k) (tb.drop k) = lS ta tb) (fun k => ta.length - k) 0 ⟨oM, rfl⟩ ⟨rfl, rfl, rfl, trivial⟩ rfl rfl ?_
 rintro k ⟨hk, hq⟩
 refine wz.b.a.A.a.a.c.e.z ?_
 refine an rfl (fun hlt => ?_) (fun hlt => ?_)
 ·have af : k < ta.length := by omega
  have dk : k < tb.length := by omega
  rw [XN af dk] at hq
  obtain ⟨b, off, cap, aq, dB⟩ := hu.held af
  cases aq
  obtain ⟨b', fo, jZ, fq, oV⟩ := hv.held dk
  cases fq
  obtain ⟨sl, h1, g_⟩ := hx.rd (own := []) dB af
  obtain ⟨cS, h2, eM⟩ := hy.rd (own := []) oV dk
  refine wz.Aj.s.s.Ab.e.p.e.d.j.z ?_
  refine bR rfl (dL rfl g_ rfl) ?_
  refine wz.Aj.s.s.z ?_
  refine bR rfl (dL rfl eM rfl) ?_
  refine iy rfl rfl (wo _ (List.getElem_mem af) _ _ _ ⟨sl, rfl, h1⟩ ⟨cS, rfl, h2⟩) ?_
  refine wz.d.T.s.z ?_
  cases he : kY ta[k] tb[k] with
  | true =>
   rw [he, Bool.true_and] at hq
   refine wz.b.a.E.a.r.d.y.j.o.z ?_
   exact aM (k + 1) ⟨oM, hq⟩ oM ⟨rfl, rfl, rfl, trivial⟩ rfl rfl
  | false =>
   rw [he, Bool.false_and] at hq
   refine wz.l.x.l.l.x.i.b.a.c.t.z ?_
   exact ao [] rfl rfl sM ⟨vb (by rw [← hq]), rfl, rfl⟩
 ·obtain rfl : k = ta.length := by omega
  rw [List.drop_length, hl, List.drop_length] at hq
  refine wz.i.b.a.c.d.D.m.m.C.z ?_
  exact ao [] rfl rfl sM ⟨vb (by rw [← hq]; rfl), rfl, rfl⟩
theorem NO (g : ab) : ∀ (N : Nat) (t t' : Ty) (u v : Value), SizeOf.sizeOf t < N → aQ g u t → aQ g v t' → Pure prog 12 [u, v] g (.bool (kY t t'))
 | 0, _, _, _, _, h, _, _ => by omega
 | N + 1, t, t', u, v, h, hu, hv => by
  have ih := NO g N
  obtain ⟨sl, rfl, h1⟩ := hu
  obtain ⟨cS, rfl, h2⟩ := hv
  obtain ⟨xs, aJ, eE⟩ := h1.args
  obtain ⟨ys, bj, gZ⟩ := h2.args
  have hall := XS g t.args t'.args (fun t1 eE t2 u v h1 h2 => ih t1 t2 u v (by
   have := List.sizeOf_lt_of_mem eE
   cases t with
   | mk k n i hh ta => simp only [Ty.args] at this; simp at h; omega) h1 h2) sl cS xs ys aJ eE bj gZ
  obtain ⟨ua, uc, rfl⟩ := aU aJ
  obtain ⟨va, vc, rfl⟩ := aU bj
  have gi := XO t t'
  refine aw func12 rfl ntmps12 rfl fun E hE => ?_
  refine aS ?_
  refine aP rfl rfl rfl (fun b2 => ?_)
  refine aP rfl rfl rfl (fun b3 => ?_)
  refine wz.a.a.v.g.I.g.c.e.b.a.z ?_
  refine bw rfl rfl (fun h => ?_) (fun h0 => ?_)
  ·refine wz.l.i.b.a.c.t.b.a.h.h.h.h.h.a.a.h.h.h.h.h.a.a.h.h.h.h.h.z ?_
   exact ao [] rfl rfl sM ⟨vb (by rw [gi]; simp [h]), rfl, rfl⟩
  replace h0 := Decidable.not_not.1 h0
  refine wz.a.a.u.v.k.g.k.I.k.g.k.z ?_
  refine bw rfl rfl (fun h => ?_) (fun hn => ?_)
  ·refine wz.l.i.b.a.c.t.b.a.h.h.h.h.h.a.a.h.h.h.h.h.z ?_
   exact ao [] rfl rfl sM ⟨vb (by rw [gi]; simp [h]), rfl, rfl⟩
  replace hn := Decidable.not_not.1 hn
  refine wz.a.a.u.v.k.g.k.I.k.g.k.z ?_
  refine bw rfl rfl (fun h => ?_) (fun h3 => ?_)
  ·refine wz.l.i.b.a.c.t.b.a.h.h.h.h.h.z ?_
   exact ao [] rfl rfl sM ⟨vb (by rw [gi]; simp [h]), rfl, rfl⟩
  replace h3 := Decidable.not_not.1 h3
  refine wz.b.a.u.v.k.g.k.I.k.g.k.z ?_
  refine an rfl (fun h => ?_) (fun h4 => ?_)
  ·refine wz.l.i.b.a.c.z ?_
   exact ao [] rfl rfl sM ⟨vb (by rw [gi]; simp [h]), rfl, rfl⟩
  replace h4 := Decidable.not_not.1 h4
  refine wz.v.g.I.g.c.d.j.z ?_
  refine aO rfl rfl hall ?_
  refine wz.i.b.a.z ?_
  exact ao [] rfl rfl sM ⟨vb (by rw [gi, h0, hn, h3, h4]; simp), rfl, rfl⟩
theorem GD (g : ab) (t t' : Ty) (u v : Value) (hu : aQ g u t) (hv : aQ g v t') : Pure prog 12 [u, v] g (.bool (kY t t')) := NO g _ t t' u v (Nat.lt_succ_self _) hu hv
theorem B8 (g : ab) (v : Value) (l : List Int) (hs : au g 1 v l.length (ints l)) (m : Int) : Pure prog 187 [v, .int .i64 m] g (.bool (decide (m ∈ l))) := by
 have hle := hs.le
 obtain ⟨va, vc, rfl⟩ := aU hs
 refine aw func187 rfl ntmps187 rfl fun E hE => ?_
 refine wz.p.b.a.c.e.b.a.c.z ?_
 refine aX (ι := Nat) (fun k => [(0, .slice va l.length vc), (1, .int .i64 m), (5, .int .i64 k)]) (fun _ => g) (fun _ => []) (fun k => k ≤ l.length ∧ m ∉ l.take k) (fun k => l.length - k) 0 ⟨oM, sM⟩ ⟨rfl, rfl, rfl, trivial⟩ rfl rfl ?_
 rintro k ⟨hk, hq⟩
 refine wz.b.a.A.a.a.c.e.z ?_
 refine an rfl (fun hlt => ?_) (fun hlt => ?_)
 ·have af : k < l.length := by omega
  obtain ⟨b, off, cap, aq, hx⟩ := hs.held af
  cases aq
  refine wz.M.a.a.c.p.e.d.j.z ?_
  refine cj rfl rfl (v := .int .i64 l[k]) (eT (hx (k * 1) _ (by simp [ints, af]))) ?_
  refine wz.b.a.a.z ?_
  refine an rfl (fun he => ?_) (fun he => ?_)
  ·refine wz.l.x.l.l.x.i.b.a.c.z ?_
   exact ao [] rfl rfl sM ⟨vb (by have := List.getElem_mem af; rw [he] at this; simp [this]), rfl, rfl⟩
  ·refine wz.b.a.E.a.r.d.y.j.z ?_
   exact aM (k + 1) ⟨oM, by rw [List.take_succ_eq_append_getElem af, List.mem_append, List.mem_singleton]; exact fun h => h.elim hq (fun e => he e.symm)⟩ oM ⟨rfl, rfl, rfl, trivial⟩ rfl rfl
 ·obtain rfl : k = l.length := by omega
  rw [List.take_length] at hq
  refine wz.i.b.a.c.d.D.m.m.C.z ?_
  exact ao [] rfl rfl sM ⟨vb (by simp [hq]), rfl, rfl⟩
theorem NQ (g : ab) (k : Int) : ∀ (N : Nat) (t : Ty) (u : Value), SizeOf.sizeOf t < N → aQ g u t → Pure prog 85 [u, .int .i64 k] g (.bool (kZ k t))
 | 0, _, _, h, _ => by omega
 | N + 1, t, u, h, hu => by
  have ih := NQ g k N
  obtain ⟨sl, rfl, h1⟩ := hu
  obtain ⟨xs, aJ, eE⟩ := h1.args
  have hle := aJ.le
  obtain ⟨ua, uc, rfl⟩ := aU aJ
  have gi := XQ k t
  have XT : ∀ t' ∈ t.args, ∀ u, aQ g u t' → Pure prog 85 [u, .int .i64 k] g (.bool (kZ k t')) := fun t' eF u hu => ih t' u (by
   have := List.sizeOf_lt_of_mem eF
   cases t with
   | mk k n i hh ta => simp only [Ty.args] at this; simp at h; omega) hu
  refine aw func85 rfl ntmps85 rfl fun E hE => ?_
  refine aS ?_
  refine aP rfl rfl rfl (fun b2 => ?_)
  refine wz.b.a.a.v.g.c.e.b.a.z ?_
  refine an rfl (fun h0 => ?_) (fun h0 => ?_)
  ·refine wz.l.i.b.a.c.z ?_
   exact ao [] rfl rfl sM ⟨vb (by rw [gi]; simp [h0]), rfl, rfl⟩
  refine wz.p.b.a.c.e.d.j.z ?_
  refine aX (ι := Nat) (fun j => [(1, .int .i64 k), (2, ptr b2 0), (5, .int .i64 j)]) (fun _ => g) (fun _ => [.ae b2 41 (aH t (.slice ua t.args.length uc))]) (fun j => j ≤ t.args.length ∧ ov k (t.args.drop j) = ov k t.args) (fun j => t.args.length - j) 0 ⟨oM, rfl⟩ ⟨rfl, rfl, rfl, trivial⟩ rfl rfl ?_
  rintro j ⟨hj, hq⟩
  refine wz.b.a.A.v.g.a.c.e.z ?_
  refine an rfl (fun hlt => ?_) (fun hlt => ?_)
  ·have af : j < t.args.length := by omega
   rw [XP af] at hq
   obtain ⟨b, off, cap, aq, dB⟩ := aJ.held af
   cases aq
   obtain ⟨cS, h2, eM⟩ := eE.rd (own := [.ae b2 41 (aH t (.slice (some ⟨b, off, none⟩) t.args.length uc))]) dB af
   refine wz.M.a.v.g.c.p.e.d.j.z ?_
   refine eY rfl rfl eM rfl ?_
   refine wz.a.z ?_
   refine aO rfl rfl (XT _ (List.getElem_mem af) _ ⟨cS, rfl, h2⟩) ?_
   refine iV ?_
   cases he : kZ k t.args[j] with
   | true =>
    rw [he, Bool.true_or] at hq
    refine wz.l.x.l.l.x.i.b.a.c.t.z ?_
    exact ao [] rfl rfl sM ⟨vb (by rw [gi, ← hq]; simp), rfl, rfl⟩
   | false =>
    rw [he, Bool.false_or] at hq
    refine wz.b.a.E.a.r.d.y.j.o.z ?_
    exact aM (j + 1) ⟨oM, hq⟩ oM ⟨rfl, rfl, rfl, trivial⟩ rfl rfl
  ·obtain rfl : j = t.args.length := by omega
   rw [List.drop_length] at hq
   refine wz.i.b.a.c.d.D.m.m.C.z ?_
   exact ao [] rfl rfl sM ⟨vb (by rw [gi, ← hq]; simp [h0, ov]), rfl, rfl⟩
theorem NR (g : ab) (k : Int) (t : Ty) (u : Value) (hu : aQ g u t) : Pure prog 85 [u, .int .i64 k] g (.bool (kZ k t)) := NQ g k _ t u (Nat.lt_succ_self _) hu
def B9 (k i h : Int) : Value := .agg #[.int .i64 k, str [], .int .i64 i, .int .i64 h, .slice none 0 0]
theorem NS (g : ab) (k i h : Int) : aQ g (B9 k i h) (.mk k [] i h []) := ⟨_, rfl, bx.mk (t := .mk k [] i h []) (cP g 5) (cQ g)⟩
theorem B_ (g : ab) (i : Int) : Pure prog 188 [.int .i64 i] g (B9 1 i 0) := by
 refine aw func188 rfl ntmps188 rfl fun E hE => ?_
 refine aS ?_
 refine aj rfl (fun b2 => ?_)
 refine wz.i.b.q.K.a.c.b.z ?_
 exact bp [] rfl (ay 0 rfl rfl rL) sZ ⟨rfl, rfl, rfl⟩
theorem GF (g : ab) (i : Int) : Pure prog 118 [.int .i64 i] g (B9 2 i 0) := by
 refine aw func118 rfl ntmps118 rfl fun E hE => ?_
 refine aS ?_
 refine aj rfl (fun b2 => ?_)
 refine wz.i.b.q.K.a.c.b.z ?_
 exact bp [] rfl (ay 0 rfl rfl rL) sZ ⟨rfl, rfl, rfl⟩
theorem GG (g : ab) (h i : Int) : Pure prog 89 [.int .i64 h, .int .i64 i] g (B9 3 i h) := by
 refine aw func89 rfl ntmps89 rfl fun E hE => ?_
 refine aS ?_
 refine aj rfl (fun b2 => ?_)
 refine wz.i.b.q.K.a.a.c.b.z ?_
 exact bp [] rfl (ay 0 rfl rfl rL) sZ ⟨rfl, rfl, rfl⟩
end Go.Proofs.YtlnjfkfojkgiiaaGreatDoor
namespace Go.Th
mutual
def c7 (f : Ty → Option Ty) : Ty → Ty
 | .mk k n i h a => match f (.mk k n i h a) with
  | some u => u
  | none => .mk k n i h (C0 f a)
def C0 (f : Ty → Option Ty) : List Ty → List Ty
 | [] => []
 | a :: r => c7 f a :: C0 f r
end
theorem NT (f : Ty → Option Ty) : ∀ l : List Ty, C0 f l = l.map (c7 f)
 | [] => rfl
 | a :: r => by rw [C0, NT f r]; rfl
theorem mO {f : Ty → Option Ty} {t u : Ty} (h : f t = some u) : c7 f t = u := by
 cases t; rw [c7, h]
theorem ow {f : Ty → Option Ty} {t : Ty} (h : f t = none) : c7 f t = .mk t.kind t.name t.id t.home (t.args.map (c7 f)) := by
 cases t; rw [c7, h, ← NT]; rfl
mutual
def fE (p : Ty → Bool) : Ty → Bool
 | .mk k n i h a => p (.mk k n i h a) && tz p a
def tz (p : Ty → Bool) : List Ty → Bool
 | [] => true
 | a :: r => fE p a && tz p r
end
theorem GH {p : Ty → Bool} : ∀ {l : List Ty}, tz p l = true → ∀ a ∈ l, fE p a = true
 | b :: r, h, a, ha => by
  simp only [tz, Bool.and_eq_true] at h
  rcases List.mem_cons.1 ha with rfl | ha
  ·exact h.1
  ·exact GH h.2 a ha
theorem C1 {p : Ty → Bool} {t : Ty} (h : fE p t = true) : p t = true ∧ tz p t.args = true := by
 cases t; rw [fE, Bool.and_eq_true] at h; exact h
def vt (t : Ty) : Bool := decide (0 ≤ t.id ∧ t.id ≤ 1000000)
def lT (az : List Ty) (t : Ty) : Option Ty := if t.kind = 2 ∧ 0 ≤ t.id ∧ t.id < az.length then az[t.id.toNat]? else none
def tA (l : List (Int × Ty)) (i : Int) : Option Ty := (l.find? fun x => decide (x.1 = i)).map (·.2)
def gN (l : List (Int × Ty)) (t : Ty) : Option Ty := if t.kind = 1 then some ((tA l t.id).getD t) else none
def mP (w : Bytes) (l : List Bytes) : Int := match l.findIdx? (fun x => decide (x = w)) with
 | some i => i
 | none => -1
def iH (ns : List Bytes) (t : Ty) : Option Ty := if t.kind = 5 then some (if 0 ≤ mP t.name ns then .mk 2 [] (mP t.name ns) 0 [] else t) else none
def mQ (t : Ty) : Option Ty := if t.kind = 3 ∧ t.home = 99 then some (.mk 1 [] (900 + t.id) 0 []) else none
theorem XU {α : Type} {p : α → Bool} {l : List α} {k : Nat} (h : k < l.length) (hp : p l[k] = true) (hq : ∀ j (hj : j < k), p (l[j]'oM) = false) : l.find? p = some l[k] := by
 rw [List.find?_eq_some_iff_getElem]
 exact ⟨hp, k, h, rfl, fun j hj => by rw [hq j hj]; rfl⟩
theorem XV {α : Type} {p : α → Bool} {l : List α} (hq : ∀ j (hj : j < l.length), p l[j] = false) : l.find? p = none := by
 rw [List.find?_eq_none]
 intro x hx
 obtain ⟨j, hj, rfl⟩ := List.mem_iff_getElem.1 hx
 rw [hq j hj]; decide
end Go.Th
namespace Go.Proofs.YtlnjfkfojkgiiaaGreatDoor
theorem NU (g : ab) (v : Value) (l : List Bytes) (hs : au g 1 v l.length (l.map str)) (w : Bytes) : Pure prog 117 [v, str w] g (.int .i64 (mP w l)) := by
 have hle := hs.le
 obtain ⟨va, vc, rfl⟩ := aU hs
 refine aw func117 rfl ntmps117 rfl fun E hE => ?_
 refine wz.p.b.a.c.e.b.a.c.z ?_
 refine aX (ι := Nat) (fun k => [(0, .slice va l.length vc), (1, str w), (5, .int .i64 k)]) (fun _ => g) (fun _ => []) (fun k => k ≤ l.length ∧ ∀ j (h : j < l.length), j < k → l[j] ≠ w) (fun k => l.length - k) 0 ⟨oM, fun j _ h => by omega⟩ ⟨rfl, rfl, rfl, trivial⟩ rfl rfl ?_
 rintro k ⟨hk, hq⟩
 refine wz.b.a.A.a.a.c.e.z ?_
 refine an rfl (fun hlt => ?_) (fun hlt => ?_)
 ·have af : k < l.length := by omega
  obtain ⟨b, off, cap, aq, hx⟩ := hs.held af
  cases aq
  refine wz.M.a.a.c.p.e.d.j.z ?_
  refine cj rfl rfl (v := str l[k]) (eT (hx (k * 1) _ (by simp [af]))) ?_
  refine wz.b.a.a.z ?_
  refine an rfl (fun he => ?_) (fun he => ?_)
  ·refine wz.l.x.l.l.x.i.b.a.a.c.z ?_
   have e : l.findIdx? (fun x => decide (x = w)) = some k := List.findIdx?_eq_some_iff_getElem.2 ⟨af, by simpa using he, fun j hj => by simpa using hq j oM hj⟩
   exact ao [] rfl rfl sM ⟨vi (by unfold mP; rw [e]), rfl, rfl⟩
  ·refine wz.b.a.E.a.r.d.y.j.z ?_
   exact aM (k + 1) ⟨oM, fun j h hj => by
    by_cases fK : j = k
    ·subst fK; exact he
    ·exact hq j h oM⟩ oM ⟨rfl, rfl, rfl, trivial⟩ rfl rfl
 ·obtain rfl : k = l.length := by omega
  have e : l.findIdx? (fun x => decide (x = w)) = none := by
   rw [List.findIdx?_eq_none_iff]
   intro x hx
   obtain ⟨j, hj, rfl⟩ := List.mem_iff_getElem.1 hx
   simpa using hq j hj hj
  refine wz.i.b.a.c.d.D.m.m.C.z ?_
  exact ao [] rfl rfl sM ⟨vi (by unfold mP; rw [e]), rfl, rfl⟩
theorem bx.slice {g : ab} {t : Ty} {sl : Value} (h : bx g t (aH t sl)) : ∃ (a : Option Addr) (c : Nat), sl = .slice a t.args.length c := by
 obtain ⟨_, h1, _⟩ := h.args
 exact aU h1
abbrev k_ : List Value := [.int .i64 0, str [], .int .i64 0, .int .i64 0, .slice none 0 0]
def ox (g : ab) (x : Int × Ty) (cs : List Value) : Prop := ∃ sl, cs = .int .i64 x.1 :: aH x.2 sl ∧ bx g x.2 (aH x.2 sl)
theorem ox.mono {g g' : ab} (hle : ab.le g g') {x : Int × Ty} {cs : List Value} (h : ox g x cs) : ox g' x cs := by
 obtain ⟨sl, h1, h2⟩ := h
 exact ⟨sl, h1, h2.mono hle⟩
theorem ox.one {g : ab} {x : Int × Ty} {cs : List Value} (h : ox g x cs) : cs.length = 6 ∧ ∀ u ∈ cs, fx u = true := by
 obtain ⟨sl, rfl, h2⟩ := h
 have h3 := h2.one
 refine ⟨rfl, fun u hu => ?_⟩
 rcases List.mem_cons.1 hu with rfl | hu
 ·rfl
 ·exact h3.2 u hu
theorem NV (az : List Ty) (hz : az.length ≤ 1000000) : ∀ (N : Nat) (g : ab) (t : Ty) (u : Value), aE t < N → aE t ≤ 1000000 → aQ g u t → ∀ va xa, au g 5 va az.length xa → aV g az xa → bK prog 90 [u, va] g fun v g' => aQ g' v (c7 ((lT az)) t)
 | 0, _, _, _, h, _, _, _, _, _, _ => by omega
 | N + 1, g, t, u, h, hn, hu, va, xa, jv, xF => by
  have ih := NV az hz N
  have lD := jA t
  have nt := pt t.args
  have bN : ∀ t' ∈ t.args, aE t' < N ∧ aE t' ≤ 1000000 := fun t' eF => by have := mN eF; omega
  obtain ⟨sl, rfl, h1⟩ := hu
  obtain ⟨xs, aJ, eE⟩ := h1.args
  have hle := aJ.le
  obtain ⟨ua, uc, rfl⟩ := aU aJ
  obtain ⟨aa, ac, rfl⟩ := aU jv
  refine aw func90 rfl ntmps90 rfl fun E hE => ?_
  refine aS ?_
  refine aP rfl rfl rfl (fun b2 => ?_)
  skip
  refine aj rfl (fun b4 => ?_)
  refine iV ?_
  refine cD (ι := Unit) (fun _ => [(1, .slice aa az.length ac), (2, ptr b2 0), (4, ptr b4 0)]) (fun _ => g) (fun _ => [.ae b4 41 k_, .ae b2 41 (aH t (.slice ua t.args.length uc))]) (fun _ => (lT az) t = none) ?_ ?_
  case refine_2 =>
   intro K hK
   refine wz.a.a.I.g.c.z ?_
   refine bw rfl rfl (fun fb => ?_) (fun fb => ?_)
   ·refine wz.a.a.u.I.k.g.k.z ?_
    refine bw rfl rfl (fun h0 => ?_) (fun h0 => ?_)
    ·refine wz.b.a.u.A.k.u.I.k.g.k.z ?_
     refine an rfl (fun hl => ?_) (fun hl => ?_)
     ·have kB : t.id.toNat < az.length := by omega
      have hid : t.id = (t.id.toNat : Int) := by omega
      obtain ⟨b, off, cap, aq, dB⟩ := jv.held kB
      cases aq
      obtain ⟨cS, h2, hr⟩ := eZ xF dB kB
      have hf : lT az t = some az[t.id.toNat] := by
       unfold lT
       rw [if_pos ⟨fb, h0, hl⟩]
       exact List.getElem?_eq_getElem kB
      refine wz.I.g.a.c.z ?_
      refine gV (j := t.id.toNat) rfl rfl rfl hid kB ?_
      refine wz.An.z ?_
      obtain ⟨q1, q2, q3⟩ := h2.slice
      subst q3
      refine wz.l.i.b.q.z ?_
      refine bp [] rfl (ay 0 rfl rfl rL) sZ ⟨?_, rfl⟩
      rw [mO hf]
      exact ⟨_, rfl, h2⟩
     ·refine wz.d.j.z ?_
      exact hK () _ (if_neg fun h => hl h.2.2) ⟨rfl, rfl, rfl, trivial⟩
    ·refine wz.d.j.o.b.a.h.h.h.h.h.z ?_
     exact hK () _ (if_neg fun h => h0 h.2.1) ⟨rfl, rfl, rfl, trivial⟩
   ·refine wz.d.j.o.b.a.h.h.h.h.h.a.a.h.h.h.z ?_
    exact hK () _ (if_neg fun h => fb h.1) ⟨rfl, rfl, rfl, trivial⟩
  rintro _ hf
  try dsimp only
  refine wz.O.c.z ?_
  refine aj rfl (fun b6 => ?_)
  refine wz.AD.p.b.a.c.e.b.Ac.g.c.b.q.z ?_
  skip
  refine aX (ι := Nat × ab × Option Addr × Nat × List Value) (fun o => [(1, .slice aa az.length ac), (2, ptr b2 0), (4, ptr b4 0), (5, ptr b6 0), (6, .int .i64 o.1)]) (fun o => o.2.1) (fun o => [.row 41 5 (.slice o.2.2.1 o.1 o.2.2.2.1) o.1 o.2.2.2.2, .ae b6 41 [.int .i64 t.kind, str t.name, .int .i64 t.id, .int .i64 t.home, .slice o.2.2.1 o.1 o.2.2.2.1], .ae b4 41 k_, .ae b2 41 (aH t (.slice ua t.args.length uc))]) (fun o => o.1 ≤ t.args.length ∧ ab.le g o.2.1 ∧ aV o.2.1 ((t.args.take o.1).map (c7 ((lT az)))) o.2.2.2.2) (fun o => t.args.length - o.1) (0, g, none, 0, []) ⟨oM, ab.le_refl _, cQ g⟩ ⟨rfl, rfl, rfl, rfl, rfl, trivial⟩ rfl rfl ?_
  rintro ⟨k, g1, z1, z3, ys⟩ ⟨hk, a8, hy⟩
  simp only at hk a8 hy
  try dsimp only
  refine wz.b.a.A.AN.g.a.c.e.z ?_
  refine an rfl (fun hlt => ?_) (fun hlt => ?_)
  ·have af : k < t.args.length := by omega
   obtain ⟨b, off, cap, aq, dB⟩ := (aJ.mono a8).held af
   cases aq
   obtain ⟨cS, h2, hr⟩ := eZ (eE.mono a8) dB af
   refine wz.p.e.d.j.z ?_
   refine fQ 11 [0] mixed kR (fun hG => ?_)
   refine wz.Ar.z ?_; refine ⟨_, (aI rfl), ?_⟩; refine wz.Ax.z ?_; refine ⟨_, (a7 0 rfl rfl rfl), ?_⟩; refine wz.Ay.z ?_; refine ⟨_, (aI rfl), ?_⟩; refine wz.AS.z ?_; refine ⟨_, (a7 2 rfl rfl rfl), ?_⟩; refine wz.AT.z ?_; refine ⟨_, (ag rfl), ?_⟩
   refine di 5 rfl kR rfl hG ⟨_, (bU (j := k) rfl rfl rfl af), ?_⟩
   refine wz.Bo.Ce.z ?_; refine ⟨_, (ag rfl), ?_⟩
   refine wz.Bx.z ?_
   refine aB rfl rfl (ih g1 _ _ (bN _ (List.getElem_mem af)).1 (bN _ (List.getElem_mem af)).2 ⟨cS, rfl, h2⟩ _ _ (jv.mono a8) (xF.mono a8)) ?_
   rintro w g2 hw aD
   obtain ⟨wa, wm, wc, rfl, jT⟩ := hw.bA
   refine wz.BD.f.b.z ?_
   skip
   refine bu rfl rfl rL rL rL rL rL (fun y0 => ?_)
   refine wz.BE.f.b.z ?_
   skip
   refine cV 1 0 rfl rfl rfl rfl rfl rL rL rfl mL oM (fun v' _ => ?_)
   refine wz.AC.z ?_
   rintro ⟨q1, q3, rfl⟩
   refine wz.b.a.E.a.r.d.y.N.Ah.g.Bb.Am.f.b.z ?_
   exact aM (k + 1, g2, q1, q3, _) ⟨oM, ab.le_trans a8 aD, by rw [List.take_succ_eq_append_getElem af, List.map_append]; exact aV.snoc jT (hy.mono aD)⟩ uM ⟨rfl, rfl, rfl, rfl, rfl, trivial⟩ rfl rfl
  ·obtain rfl : k = t.args.length := by omega
   rw [List.take_length] at hy
   refine bg (fun g2 aD bj => ?_)
   refine wz.i.b.B.G.c.d.D.m.m.C.z ?_
   refine bp [] rfl (ay 1 rfl rfl rL) sZ ⟨?_, rfl⟩
   rw [ow hf]
   exact ⟨_, rfl, bx.mk (t := .mk t.kind t.name t.id t.home (t.args.map (c7 ((lT az))))) (by show au g2 5 _ (t.args.map _).length _; rw [List.length_map]; exact bj) (hy.mono aD)⟩
theorem NW (l : List (Int × Ty)) : ∀ (N : Nat) (g : ab) (t : Ty) (u : Value), aE t < N → aE t ≤ 1000000 → aQ g u t → ∀ va xa, au g 6 va l.length xa → aL (ox g) l xa → bK prog 154 [u, va] g fun v g' => aQ g' v (c7 ((gN l)) t)
 | 0, _, _, _, h, _, _, _, _, _, _ => by omega
 | N + 1, g, t, u, h, hn, hu, va, xa, jv, xF => by
  have ih := NW l N
  have lD := jA t
  have nt := pt t.args
  have bN : ∀ t' ∈ t.args, aE t' < N ∧ aE t' ≤ 1000000 := fun t' eF => by have := mN eF; omega
  obtain ⟨sl, rfl, h1⟩ := hu
  obtain ⟨xs, aJ, eE⟩ := h1.args
  have hle := aJ.le
  obtain ⟨ua, uc, rfl⟩ := aU aJ
  obtain ⟨aa, ac, rfl⟩ := aU jv
  have GI := jv.le
  refine aw func154 rfl ntmps154 rfl fun E hE => ?_
  refine aS ?_
  refine aP rfl rfl rfl (fun b2 => ?_)
  skip
  refine aj rfl (fun b4 => ?_)
  refine iV ?_
  refine cD (ι := Unit) (fun _ => [(1, .slice aa l.length ac), (2, ptr b2 0), (4, ptr b4 0)]) (fun _ => g) (fun _ => [.ae b4 41 k_, .ae b2 41 (aH t (.slice ua t.args.length uc))]) (fun _ => (gN l) t = none) ?_ ?_
  case refine_2 =>
   intro K hK
   refine wz.b.a.I.g.c.z ?_
   refine an rfl (fun hk => ?_) (fun hk => ?_)
   ·refine wz.p.b.a.c.e.z ?_
    refine aX (ι := Nat) (fun k => [(1, .slice aa l.length ac), (2, ptr b2 0), (4, ptr b4 0), (5, .int .i64 k)]) (fun _ => g) (fun _ => [.ae b4 41 k_, .ae b2 41 (aH t (.slice ua t.args.length uc))]) (fun k => k ≤ l.length ∧ ∀ j (h : j < l.length), j < k → l[j].1 ≠ t.id) (fun k => l.length - k) 0 ⟨oM, fun j _ h => by omega⟩ ⟨rfl, rfl, rfl, rfl, trivial⟩ rfl rfl ?_
    rintro k ⟨c_, hq⟩
    refine wz.b.a.A.a.a.c.e.z ?_
    refine an rfl (fun hlt => ?_) (fun hlt => ?_)
    ·have af : k < l.length := by omega
     obtain ⟨b, off, cap, aq, dB⟩ := jv.held af
     cases aq
     obtain ⟨c, h2, hr⟩ := dt (fun _ _ h => h.one.1) xF dB af
     obtain ⟨cS, hc, h3⟩ := id h2
     obtain ⟨q1, q2, q3⟩ := h3.slice
     subst q3
     subst hc
     refine wz.J.Aj.s.s.Ab.e.p.e.d.j.z ?_
     refine bR rfl (cU rfl ((hr _).du 0 rfl)) ?_
     refine wz.d.T.s.BQ.J.z ?_
     refine an rfl (fun he => ?_) (fun he => ?_)
     ·have hf : gN l t = some l[k].2 := by
       unfold gN tA
       rw [if_pos hk, XU af (by simpa using he) (fun j hj => by simpa using hq j oM hj)]
       rfl
      refine wz.g.M.a.a.c.z ?_
      refine eY rfl rfl (((hr _).part 1 (vs := aH l[k].2 _) (fun j x h => by rw [Nat.add_comm]; exact h))) rfl ?_
      refine wz.l.l.x.l.l.x.i.b.q.z ?_
      refine bp [] rfl (ay 0 rfl rfl rL) sZ ⟨?_, rfl⟩
      rw [mO hf]
      exact ⟨_, rfl, h3⟩
     ·refine wz.b.a.E.a.r.d.y.j.z ?_
      exact aM (k + 1) ⟨oM, fun j h hj => by
       by_cases fK : j = k
       ·subst fK; exact he
       ·exact hq j h oM⟩ oM ⟨rfl, rfl, rfl, rfl, trivial⟩ rfl rfl
    ·obtain rfl : k = l.length := by omega
     have hf : gN l t = some t := by
      unfold gN tA
      rw [if_pos hk, XV (fun j hj => by simpa using hq j hj hj)]
      rfl
     refine wz.l.i.b.q.O.c.d.D.m.m.C.z ?_
     refine bp [] rfl (ay 0 rfl rfl rL) sZ ⟨?_, rfl⟩
     rw [mO hf]
     exact ⟨_, rfl, h1⟩
   ·refine wz.d.j.z ?_
    exact hK () _ (if_neg hk) ⟨rfl, rfl, rfl, trivial⟩
  rintro _ hf
  try dsimp only
  refine wz.O.c.z ?_
  refine aj rfl (fun b6 => ?_)
  refine wz.AD.p.b.a.c.e.b.Ac.g.c.b.q.z ?_
  skip
  refine aX (ι := Nat × ab × Option Addr × Nat × List Value) (fun o => [(1, .slice aa l.length ac), (2, ptr b2 0), (4, ptr b4 0), (6, ptr b6 0), (7, .int .i64 o.1)]) (fun o => o.2.1) (fun o => [.row 41 5 (.slice o.2.2.1 o.1 o.2.2.2.1) o.1 o.2.2.2.2, .ae b6 41 [.int .i64 t.kind, str t.name, .int .i64 t.id, .int .i64 t.home, .slice o.2.2.1 o.1 o.2.2.2.1], .ae b4 41 k_, .ae b2 41 (aH t (.slice ua t.args.length uc))]) (fun o => o.1 ≤ t.args.length ∧ ab.le g o.2.1 ∧ aV o.2.1 ((t.args.take o.1).map (c7 ((gN l)))) o.2.2.2.2) (fun o => t.args.length - o.1) (0, g, none, 0, []) ⟨oM, ab.le_refl _, cQ g⟩ ⟨rfl, rfl, rfl, rfl, rfl, trivial⟩ rfl rfl ?_
  rintro ⟨k, g1, z1, z3, ys⟩ ⟨hk, a8, hy⟩
  simp only at hk a8 hy
  try dsimp only
  refine wz.b.a.A.AN.g.a.c.e.z ?_
  refine an rfl (fun hlt => ?_) (fun hlt => ?_)
  ·have af : k < t.args.length := by omega
   obtain ⟨b, off, cap, aq, dB⟩ := (aJ.mono a8).held af
   cases aq
   obtain ⟨cS, h2, hr⟩ := eZ (eE.mono a8) dB af
   refine wz.p.e.d.j.z ?_
   refine fQ 11 [0] mixed kR (fun hG => ?_)
   refine wz.Ar.z ?_; refine ⟨_, (aI rfl), ?_⟩; refine wz.Ax.z ?_; refine ⟨_, (a7 0 rfl rfl rfl), ?_⟩; refine wz.Ay.z ?_; refine ⟨_, (aI rfl), ?_⟩; refine wz.AS.z ?_; refine ⟨_, (a7 2 rfl rfl rfl), ?_⟩; refine wz.AT.z ?_; refine ⟨_, (ag rfl), ?_⟩
   refine di 5 rfl kR rfl hG ⟨_, (bU (j := k) rfl rfl rfl af), ?_⟩
   refine wz.Bo.Ce.z ?_; refine ⟨_, (ag rfl), ?_⟩
   refine wz.Bx.z ?_
   refine aB rfl rfl (ih g1 _ _ (bN _ (List.getElem_mem af)).1 (bN _ (List.getElem_mem af)).2 ⟨cS, rfl, h2⟩ _ _ (jv.mono a8) (aL.mono (fun _ _ h => h.mono a8) xF)) ?_
   rintro w g2 hw aD
   obtain ⟨wa, wm, wc, rfl, jT⟩ := hw.bA
   refine wz.BD.f.b.z ?_
   skip
   refine bu rfl rfl rL rL rL rL rL (fun y0 => ?_)
   refine wz.BE.f.b.z ?_
   skip
   refine cV 1 0 rfl rfl rfl rfl rfl rL rL rfl mL oM (fun v' _ => ?_)
   refine wz.AC.z ?_
   rintro ⟨q1, q3, rfl⟩
   refine wz.b.a.E.a.r.d.y.N.Ah.g.Bb.Am.f.b.z ?_
   exact aM (k + 1, g2, q1, q3, _) ⟨oM, ab.le_trans a8 aD, by rw [List.take_succ_eq_append_getElem af, List.map_append]; exact aV.snoc jT (hy.mono aD)⟩ uM ⟨rfl, rfl, rfl, rfl, rfl, trivial⟩ rfl rfl
  ·obtain rfl : k = t.args.length := by omega
   rw [List.take_length] at hy
   refine bg (fun g2 aD bj => ?_)
   refine wz.i.b.B.G.c.d.D.m.m.C.z ?_
   refine bp [] rfl (ay 1 rfl rfl rL) sZ ⟨?_, rfl⟩
   rw [ow hf]
   exact ⟨_, rfl, bx.mk (t := .mk t.kind t.name t.id t.home (t.args.map (c7 ((gN l))))) (by show au g2 5 _ (t.args.map _).length _; rw [List.length_map]; exact bj) (hy.mono aD)⟩
theorem NX (ns : List Bytes) : ∀ (N : Nat) (g : ab) (t : Ty) (u : Value), aE t < N → aE t ≤ 1000000 → aQ g u t → ∀ va, au g 1 va ns.length (ns.map str) → bK prog 88 [u, va] g fun v g' => aQ g' v (c7 ((iH ns)) t)
 | 0, _, _, _, h, _, _, _, _ => by omega
 | N + 1, g, t, u, h, hn, hu, va, jv => by
  have ih := NX ns N
  have lD := jA t
  have nt := pt t.args
  have bN : ∀ t' ∈ t.args, aE t' < N ∧ aE t' ≤ 1000000 := fun t' eF => by have := mN eF; omega
  obtain ⟨sl, rfl, h1⟩ := hu
  obtain ⟨xs, aJ, eE⟩ := h1.args
  have hle := aJ.le
  obtain ⟨ua, uc, rfl⟩ := aU aJ
  obtain ⟨aa, ac, rfl⟩ := aU jv
  refine aw func88 rfl ntmps88 rfl fun E hE => ?_
  refine aS ?_
  refine aP rfl rfl rfl (fun b2 => ?_)
  skip
  refine aj rfl (fun b4 => ?_)
  refine iV ?_
  refine cD (ι := Unit) (fun _ => [(1, .slice aa ns.length ac), (2, ptr b2 0), (4, ptr b4 0)]) (fun _ => g) (fun _ => [.ae b4 41 k_, .ae b2 41 (aH t (.slice ua t.args.length uc))]) (fun _ => (iH ns) t = none) ?_ ?_
  case refine_2 =>
   intro K hK
   refine wz.b.a.I.g.c.z ?_
   refine an rfl (fun hk => ?_) (fun hk => ?_)
   ·refine wz.I.g.a.c.e.z ?_
    refine aO rfl rfl (NU g _ ns jv t.name) ?_
    refine wz.b.a.a.c.b.a.z ?_
    refine an rfl (fun h0 => ?_) (fun h0 => ?_)
    ·have hf : iH ns t = some (.mk 2 [] (mP t.name ns) 0 []) := by
      unfold iH
      rw [if_pos hk, if_pos h0]
     refine wz.a.c.z ?_
     refine aO rfl rfl (GF g _) ?_
     refine wz.l.l.i.b.q.z ?_
     refine bp [] rfl (ay 0 rfl rfl rL) sZ ⟨?_, rfl⟩
     rw [mO hf]
     exact NS g 2 _ 0
    ·have hf : iH ns t = some t := by
      unfold iH
      rw [if_pos hk, if_neg h0]
     refine wz.l.i.b.q.O.c.d.j.z ?_
     refine bp [] rfl (ay 0 rfl rfl rL) sZ ⟨?_, rfl⟩
     rw [mO hf]
     exact ⟨_, rfl, h1⟩
   ·refine wz.d.j.z ?_
    exact hK () _ (if_neg hk) ⟨rfl, rfl, rfl, trivial⟩
  rintro _ hf
  try dsimp only
  refine wz.O.c.z ?_
  refine aj rfl (fun b6 => ?_)
  refine wz.AD.p.b.a.c.e.b.Ac.g.c.b.q.z ?_
  skip
  refine aX (ι := Nat × ab × Option Addr × Nat × List Value) (fun o => [(1, .slice aa ns.length ac), (2, ptr b2 0), (4, ptr b4 0), (6, ptr b6 0), (7, .int .i64 o.1)]) (fun o => o.2.1) (fun o => [.row 41 5 (.slice o.2.2.1 o.1 o.2.2.2.1) o.1 o.2.2.2.2, .ae b6 41 [.int .i64 t.kind, str t.name, .int .i64 t.id, .int .i64 t.home, .slice o.2.2.1 o.1 o.2.2.2.1], .ae b4 41 k_, .ae b2 41 (aH t (.slice ua t.args.length uc))]) (fun o => o.1 ≤ t.args.length ∧ ab.le g o.2.1 ∧ aV o.2.1 ((t.args.take o.1).map (c7 ((iH ns)))) o.2.2.2.2) (fun o => t.args.length - o.1) (0, g, none, 0, []) ⟨oM, ab.le_refl _, cQ g⟩ ⟨rfl, rfl, rfl, rfl, rfl, trivial⟩ rfl rfl ?_
  rintro ⟨k, g1, z1, z3, ys⟩ ⟨hk, a8, hy⟩
  simp only at hk a8 hy
  try dsimp only
  refine wz.b.a.A.AN.g.a.c.e.z ?_
  refine an rfl (fun hlt => ?_) (fun hlt => ?_)
  ·have af : k < t.args.length := by omega
   obtain ⟨b, off, cap, aq, dB⟩ := (aJ.mono a8).held af
   cases aq
   obtain ⟨cS, h2, hr⟩ := eZ (eE.mono a8) dB af
   refine wz.p.e.d.j.z ?_
   refine fQ 11 [0] mixed kR (fun hG => ?_)
   refine wz.Ar.z ?_; refine ⟨_, (aI rfl), ?_⟩; refine wz.Ax.z ?_; refine ⟨_, (a7 0 rfl rfl rfl), ?_⟩; refine wz.Ay.z ?_; refine ⟨_, (aI rfl), ?_⟩; refine wz.AS.z ?_; refine ⟨_, (a7 2 rfl rfl rfl), ?_⟩; refine wz.AT.z ?_; refine ⟨_, (ag rfl), ?_⟩
   refine di 5 rfl kR rfl hG ⟨_, (bU (j := k) rfl rfl rfl af), ?_⟩
   refine wz.Bo.Ce.z ?_; refine ⟨_, (ag rfl), ?_⟩
   refine wz.Bx.z ?_
   refine aB rfl rfl (ih g1 _ _ (bN _ (List.getElem_mem af)).1 (bN _ (List.getElem_mem af)).2 ⟨cS, rfl, h2⟩ _ (jv.mono a8)) ?_
   rintro w g2 hw aD
   obtain ⟨wa, wm, wc, rfl, jT⟩ := hw.bA
   refine wz.BD.f.b.z ?_
   skip
   refine bu rfl rfl rL rL rL rL rL (fun y0 => ?_)
   refine wz.BE.f.b.z ?_
   skip
   refine cV 1 0 rfl rfl rfl rfl rfl rL rL rfl mL oM (fun v' _ => ?_)
   refine wz.AC.z ?_
   rintro ⟨q1, q3, rfl⟩
   refine wz.b.a.E.a.r.d.y.N.Ah.g.Bb.Am.f.b.z ?_
   exact aM (k + 1, g2, q1, q3, _) ⟨oM, ab.le_trans a8 aD, by rw [List.take_succ_eq_append_getElem af, List.map_append]; exact aV.snoc jT (hy.mono aD)⟩ uM ⟨rfl, rfl, rfl, rfl, rfl, trivial⟩ rfl rfl
  ·obtain rfl : k = t.args.length := by omega
   rw [List.take_length] at hy
   refine bg (fun g2 aD bj => ?_)
   refine wz.i.b.B.G.c.d.D.m.m.C.z ?_
   refine bp [] rfl (ay 1 rfl rfl rL) sZ ⟨?_, rfl⟩
   rw [ow hf]
   exact ⟨_, rfl, bx.mk (t := .mk t.kind t.name t.id t.home (t.args.map (c7 ((iH ns))))) (by show au g2 5 _ (t.args.map _).length _; rw [List.length_map]; exact bj) (hy.mono aD)⟩
theorem NY  : ∀ (N : Nat) (g : ab) (t : Ty) (u : Value), aE t < N → aE t ≤ 1000000 → aQ g u t → fE vt t = true → bK prog 151 [u] g fun v g' => aQ g' v (c7 (mQ) t)
 | 0, _, _, _, h, _, _, _ => by omega
 | N + 1, g, t, u, h, hn, hu, NZ => by
  have ih := NY N
  have lD := jA t
  have nt := pt t.args
  have bN : ∀ t' ∈ t.args, aE t' < N ∧ aE t' ≤ 1000000 := fun t' eF => by have := mN eF; omega
  obtain ⟨sl, rfl, h1⟩ := hu
  obtain ⟨xs, aJ, eE⟩ := h1.args
  have hle := aJ.le
  obtain ⟨ua, uc, rfl⟩ := aU aJ
  have hid := (C1 NZ).1
  simp only [vt, decide_eq_true_eq] at hid
  refine aw func151 rfl ntmps151 rfl fun E hE => ?_
  refine aS ?_
  refine aP rfl rfl rfl (fun b2 => ?_)
  skip
  refine aj rfl (fun b4 => ?_)
  refine iV ?_
  refine cD (ι := Unit) (fun _ => [(1, ptr b2 0), (2, ptr b4 0)]) (fun _ => g) (fun _ => [.ae b4 41 k_, .ae b2 41 (aH t (.slice ua t.args.length uc))]) (fun _ => mQ t = none) ?_ ?_
  case refine_2 =>
   intro K hK
   refine wz.a.a.I.g.c.z ?_
   refine bw rfl rfl (fun hk => ?_) (fun hk => ?_)
   ·refine wz.b.a.u.I.k.g.k.z ?_
    refine an rfl (fun h0 => ?_) (fun h0 => ?_)
    ·have hf : mQ t = some (.mk 1 [] (900 + t.id) 0 []) := by
      unfold mQ
      rw [if_pos ⟨hk, h0⟩]
     refine wz.E.I.g.c.z ?_
     refine aO rfl rfl (B_ g _) ?_
     refine wz.l.i.b.q.z ?_
     refine bp [] rfl (ay 0 rfl rfl rL) sZ ⟨?_, rfl⟩
     rw [mO hf]
     exact NS g 1 _ 0
    ·refine wz.d.j.z ?_
     exact hK () _ (if_neg fun h => h0 h.2) ⟨rfl, rfl, trivial⟩
   ·refine wz.d.j.o.b.a.h.h.h.z ?_
    exact hK () _ (if_neg fun h => hk h.1) ⟨rfl, rfl, trivial⟩
  rintro _ hf
  try dsimp only
  refine wz.O.c.z ?_
  refine aj rfl (fun b6 => ?_)
  refine wz.AD.p.b.a.c.e.b.Ac.g.c.b.q.z ?_
  skip
  refine aX (ι := Nat × ab × Option Addr × Nat × List Value) (fun o => [(1, ptr b2 0), (2, ptr b4 0), (3, ptr b6 0), (4, .int .i64 o.1)]) (fun o => o.2.1) (fun o => [.row 41 5 (.slice o.2.2.1 o.1 o.2.2.2.1) o.1 o.2.2.2.2, .ae b6 41 [.int .i64 t.kind, str t.name, .int .i64 t.id, .int .i64 t.home, .slice o.2.2.1 o.1 o.2.2.2.1], .ae b4 41 k_, .ae b2 41 (aH t (.slice ua t.args.length uc))]) (fun o => o.1 ≤ t.args.length ∧ ab.le g o.2.1 ∧ aV o.2.1 ((t.args.take o.1).map (c7 (mQ))) o.2.2.2.2) (fun o => t.args.length - o.1) (0, g, none, 0, []) ⟨oM, ab.le_refl _, cQ g⟩ ⟨rfl, rfl, rfl, rfl, trivial⟩ rfl rfl ?_
  rintro ⟨k, g1, z1, z3, ys⟩ ⟨hk, a8, hy⟩
  simp only at hk a8 hy
  try dsimp only
  refine wz.b.a.A.AN.g.a.c.e.z ?_
  refine an rfl (fun hlt => ?_) (fun hlt => ?_)
  ·have af : k < t.args.length := by omega
   obtain ⟨b, off, cap, aq, dB⟩ := (aJ.mono a8).held af
   cases aq
   obtain ⟨cS, h2, hr⟩ := eZ (eE.mono a8) dB af
   refine wz.p.e.d.j.z ?_
   refine fQ 10 [0] mixed kR (fun hG => ?_)
   refine wz.Ar.z ?_; refine ⟨_, (aI rfl), ?_⟩; refine wz.Ax.z ?_; refine ⟨_, (a7 0 rfl rfl rfl), ?_⟩; refine wz.Ay.z ?_; refine ⟨_, (aI rfl), ?_⟩; refine wz.AS.z ?_; refine ⟨_, (a7 2 rfl rfl rfl), ?_⟩; refine wz.AT.z ?_; refine ⟨_, (ag rfl), ?_⟩
   refine di 5 rfl kR rfl hG ⟨_, (bU (j := k) rfl rfl rfl af), ?_⟩
   refine wz.BK.Ce.z ?_
   refine aB rfl rfl (ih g1 _ _ (bN _ (List.getElem_mem af)).1 (bN _ (List.getElem_mem af)).2 ⟨cS, rfl, h2⟩ (GH (C1 NZ).2 _ (List.getElem_mem af))) ?_
   rintro w g2 hw aD
   obtain ⟨wa, wm, wc, rfl, jT⟩ := hw.bA
   refine wz.Bx.f.b.z ?_
   skip
   refine bu rfl rfl rL rL rL rL rL (fun y0 => ?_)
   refine wz.BD.f.b.z ?_
   skip
   refine cV 1 0 rfl rfl rfl rfl rfl rL rL rfl mL oM (fun v' _ => ?_)
   refine wz.AC.z ?_
   rintro ⟨q1, q3, rfl⟩
   refine wz.b.a.E.a.r.d.y.N.Ah.g.Bb.Am.f.b.z ?_
   exact aM (k + 1, g2, q1, q3, _) ⟨oM, ab.le_trans a8 aD, by rw [List.take_succ_eq_append_getElem af, List.map_append]; exact aV.snoc jT (hy.mono aD)⟩ uM ⟨rfl, rfl, rfl, rfl, trivial⟩ rfl rfl
  ·obtain rfl : k = t.args.length := by omega
   rw [List.take_length] at hy
   refine bg (fun g2 aD bj => ?_)
   refine wz.i.b.B.G.c.d.D.m.m.C.z ?_
   refine bp [] rfl (ay 1 rfl rfl rL) sZ ⟨?_, rfl⟩
   rw [ow hf]
   exact ⟨_, rfl, bx.mk (t := .mk t.kind t.name t.id t.home (t.args.map (c7 (mQ)))) (by show au g2 5 _ (t.args.map _).length _; rw [List.length_map]; exact bj) (hy.mono aD)⟩
theorem GJ (g : ab) (az : List Ty) (hz : az.length ≤ 1000000) (t : Ty) (hn : aE t ≤ 1000000) (u va : Value) (xa : List Value) (hu : aQ g u t) (hs : au g 5 va az.length xa) (ht : aV g az xa) : bK prog 90 [u, va] g fun v g' => aQ g' v (c7 (lT az) t) := NV az hz _ g t u (Nat.lt_succ_self _) hn hu va xa hs ht
theorem xG (g : ab) (l : List (Int × Ty)) (t : Ty) (hn : aE t ≤ 1000000) (u va : Value) (xa : List Value) (hu : aQ g u t) (hs : au g 6 va l.length xa) (ht : aL (ox g) l xa) : bK prog 154 [u, va] g fun v g' => aQ g' v (c7 (gN l) t) := NW l _ g t u (Nat.lt_succ_self _) hn hu va xa hs ht
theorem GK (g : ab) (ns : List Bytes) (t : Ty) (hn : aE t ≤ 1000000) (u va : Value) (hu : aQ g u t) (hs : au g 1 va ns.length (ns.map str)) : bK prog 88 [u, va] g fun v g' => aQ g' v (c7 (iH ns) t) := NX ns _ g t u (Nat.lt_succ_self _) hn hu va hs
theorem XW (g : ab) (t : Ty) (hn : aE t ≤ 1000000) (hi : fE vt t = true) (u : Value) (hu : aQ g u t) : bK prog 151 [u] g fun v g' => aQ g' v (c7 mQ t) := NY _ g t u (Nat.lt_succ_self _) hn hu hi
end Go.Proofs.YtlnjfkfojkgiiaaGreatDoor

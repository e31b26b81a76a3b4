/- Expressions that often have a type: the walk of typedholesmake's Tape.Typed. -/
import Derived.Test.YtlnjfkfojkgiiaaGreatDoorK28
open Go Go.aZ Go.Th Go.Proofs Tryz
set_option maxRecDepth 10000
set_option maxHeartbeats 4000000
attribute [local irreducible] wpList Code.wp ah bodyPost Go.aZ.Ends Exit.then Exit.inBlock dJ Wq Kq
namespace Go.Proofs.YtlnjfkfojkgiiaaGreatDoor
theorem Qc (k p : Int) (n : Bytes) (a : Ex) : aN (bC k p n [a]) = 1 + aN a := by simp [bC, aN, cd, bZ]
theorem aAY (p : Int) (a : Ex) (t : Ty) : aN (h_ p a t) = 1 + aN a := by simp [h_, aN, cd, bZ]
theorem Qd (ar : List Int) (b d : Nat) (hd : d ≤ 3) (hI : ∀ d', d = d' + 1 → vK ar b d') : vK ar b d := by
 intro g i lv ds dv ctx cv goal gv hM hl hg iu lX hi
 obtain ⟨ga, gc, rfl, cG⟩ := hg.dQ
 obtain ⟨va, vb, x, y, z, q1, q2, q3, q4, -⟩ := ye g iu hg
 obtain ⟨x1, x2, rfl, hx⟩ := q1.dQ
 obtain ⟨y1, y2, rfl, hy⟩ := q2.dQ
 refine aw func47 rfl ntmps47 rfl fun E hE => ?_
 refine aS ?_
 refine aP rfl rfl rfl (fun b8 => ?_)
 skip
 refine aj rfl (fun bh => ?_)
 refine iV ?_
 refine cD (ι := Nat) (fun _ => [(0, ptr b 0), (1, dv), (2, cv), (4, .int .i64 d), (8, ptr b8 0), (10, ptr bh 0)]) (fun _ => g) (fun j => [.ae bh 47 dK, .ae b8 41 (aH goal (.slice ga goal.args.length gc)), c8 b lv j]) (fun j => j ≤ ar.length ∧ 1 ≤ d) ?_ ?_
 case refine_2 =>
  intro K hK
  refine wz.a.a.a.c.z ?_
  refine bw rfl rfl (fun h1 => ?_) (fun h1 => ?_)
  ·refine wz.O.a.a.a.c.t.b.a.h.h.h.z ?_
   refine aG 2 rfl rfl rfl (DQ ar b d g i lv ds _ ctx _ goal _ hM oM ⟨_, rfl, cG⟩ hi) ?_
   rintro w g2 r' ⟨e, i2, he, ge, se, rfl, cL⟩ aD
   obtain ⟨a1, m1, c1, a2, m2, c2, a3, m3, c3, rfl, b_⟩ := he.form
   refine wz.l.i.b.q.z ?_
   exact bp [_] rfl (ay 0 rfl rfl rL) sB ⟨_, rfl, e, i2, ⟨_, rfl, b_⟩, ge, se, rfl, cL⟩
  ·refine wz.k.u.z ?_
   refine aG 2 rfl rfl rfl (e_ g ar hM.hc lv hM.c b i hi 9 oM) ?_
   rintro v g1 r' ⟨rfl, q, i1, rfl, gp, ep, rfl, de⟩ _
   refine wz.b.a.u.z ?_
   refine an rfl (fun h2 => ?_) (fun h2 => ?_)
   ·refine wz.O.a.a.a.c.z ?_
    refine aG 2 rfl rfl rfl (DQ ar b d g1 i1 lv ds _ ctx _ goal _ hM oM ⟨_, rfl, cG⟩ de) ?_
    rintro w g2 r' ⟨e, i2, he, ge, se, rfl, cL⟩ aD
    obtain ⟨a1, m1, c1, a2, m2, c2, a3, m3, c3, rfl, b_⟩ := he.form
    refine wz.l.i.b.q.z ?_
    exact bp [_] rfl (ay 0 rfl rfl rL) sB ⟨_, rfl, e, i2, ⟨_, rfl, b_⟩, ge, se, rfl, cL⟩
   ·refine wz.d.j.z ?_
    exact hK i1 _ ⟨de, oM⟩ ⟨rfl, rfl, rfl, rfl, rfl, rfl, trivial⟩
 rintro i1 ⟨de, gm⟩
 obtain ⟨d', rfl⟩ : ∃ d', d = d' + 1 := ⟨d - 1, oM⟩
 have ih := hI d' rfl
 have DR := yA d'
 have Ig : sQ (d' + 1) = 20 + 4 * sQ d' := rfl
 try dsimp only
 refine wz.O.c.z ?_
 refine aO rfl rfl q3 ?_
 refine wz.a.a.a.a.z ?_
 refine aj rfl (fun dY => ?_)
 skip
 refine aj rfl (fun kW => ?_)
 refine wz.a.c.b.a.q.B.z ?_
 refine aG 4 rfl rfl rfl (e_ g ar hM.hc lv hM.c b i1 de 10 oM) ?_
 rintro v g1 r' ⟨rfl, k, i2, rfl, gW, fb, rfl, cL⟩ _
 refine wz.p.e.b.a.z ?_
 refine cD (ι := Bool) (fun p => [(0, ptr b 0), (1, dv), (2, cv), (4, .int .i64 (d' + 1 : Nat)), (8, ptr b8 0), (10, ptr bh 0), (11, ptr dY 0), (12, ptr kW 0), (14, .int .i64 k), (38, .bool p)]) (fun _ => g1) (fun _ => [.ae kW 41 (aH y (.slice y1 y.args.length y2)), .ae dY 41 (aH x (.slice x1 x.args.length x2)), .ae bh 47 dK, .ae b8 41 (aH goal (.slice ga goal.args.length gc)), c8 b lv i2]) (fun p => p = true → z = true) ?_ ?_
 case refine_2 =>
  intro K hK
  refine wz.a.a.r.z ?_
  cases z with
  | true =>
   refine wz.b.a.a.u.u.z ?_
   refine iJ 38 rfl (fun h => ?_) (fun h => ?_)
   ·exact hK true _ (fun _ => rfl) ⟨rfl, rfl, rfl, rfl, rfl, rfl, rfl, rfl, rfl, rfl, trivial⟩
   ·exact hK false _ (fun h => by cases h) ⟨rfl, rfl, rfl, rfl, rfl, rfl, rfl, rfl, rfl, rfl, trivial⟩
  | false =>
   refine wz.b.a.a.h.h.z ?_
   exact hK false _ (fun h => by cases h) ⟨rfl, rfl, rfl, rfl, rfl, rfl, rfl, rfl, rfl, rfl, trivial⟩
 intro p hp
 try dsimp only
 cases p with
 | true =>
  obtain rfl := q4 (hp rfl)
  have yv := oB iu
  have hox : OK 0 0 false x := yv x (by simp [cZ, bJ, Ty.args])
  have hoy : OK 0 0 false y := yv y (by simp [cZ, bJ, Ty.args])
  have lD := DM x y
  refine wz.a.c.t.z ?_
  refine aG 4 rfl rfl rfl (qP g1 ar hM.hc lv hM.c b i2 cL) ?_
  rintro v g1 r' ⟨rfl, n, i3, rfl, n1, n2, rfl, dE⟩ _
  refine wz.e.b.a.z ?_
  refine bO [4, 2] mixed (fun hG => ?_)
  refine wz.P.z ?_; refine ⟨_, (ag rfl), ?_⟩; refine wz.R.z ?_; refine ⟨_, (ag rfl), ?_⟩; refine wz.S.z ?_; refine ⟨_, (ag rfl), ?_⟩; refine wz.X.z ?_; refine ⟨_, (ag rfl), ?_⟩; refine wz.Z.z ?_; refine ⟨_, (ag rfl), ?_⟩; refine wz.Ad.z ?_; refine ⟨_, (bP 1 rfl rfl rL), ?_⟩
  refine wz.AV.z ?_; refine ⟨_, (bP 0 rfl rfl rL), ?_⟩; refine wz.Av.z ?_; refine ⟨_, (ag rfl), ?_⟩
  refine bn 10 rfl kR rfl hG ⟨_, (mA rfl rfl oM), ?_⟩; refine wz.Ao.z ?_
  refine aB rfl rfl (rk g1 x _ ⟨_, rfl, hx⟩) ?_
  rintro w2 g2 ⟨rfl, ez⟩ _
  obtain ⟨s1, s2, rfl, oL⟩ := ez.agg
  refine wz.AM.f.b.z ?_
  refine aB rfl rfl (vx g2 ctx _ _ n 0 x hM.x ⟨_, rfl, oL⟩ oM) ?_
  rintro w3 g3 pj aF
  refine wz.Bf.f.b.z ?_
  rw [show ((d' + 1 : Nat) : Int) - 1 = (d' : Int) by omega]
  have jW := hM.mono aF
  have tS : kK g3 ar lv ds dv (ctx ++ [⟨n, 0, x⟩]) w3 := ⟨jW.c, jW.hc, jW.d, pj, fun e he => by
   rcases List.mem_append.1 he with he | he
   ·exact hM.xo e he
   ·rw [List.mem_singleton.1 he]; exact ⟨⟨hox, uM, Nat.zero_le _⟩, n1, n2⟩⟩
  refine aG 4 rfl rfl rfl (ih g3 i3 lv ds _ _ _ y _ tS nM ⟨_, rfl, hy.mono aF⟩ hoy oM dE) ?_
  rintro w4 g4 r' ⟨u, i4, hu, gu, su, rfl, ib⟩ aR
  obtain ⟨e1, f1, h1, e2, f2, h2, e3, f3, h3, rfl, gq⟩ := hu.form
  have ju := ab.le_trans aF aR
  refine wz.Bd.f.b.z ?_
  refine bu rfl rfl rL rL rL rL rL (fun fX => ?_)
  refine bg (fun g5 cC qy => ?_)
  have wU := ab.le_trans ju cC
  refine wz.l.x.i.d.F.f.b.V.AO.f.b.K.AJ.f.b.z ?_
  exact bp [_] rfl (ay 2 rfl rfl rL) sD ⟨_, rfl, bC 4 0 n [u], i4, jR g5 4 0 n qy (na (gq.mono cC)), .lam 0 n u n1 oM gu, by rw [Qc]; omega, rfl, ib⟩
 | false =>
  clear hp
  refine wz.b.a.a.a.c.o.z ?_
  refine an rfl (fun c1 => ?_) (fun c1 => ?_)
  ·
   refine wz.a.a.c.z ?_
   refine aG 4 rfl rfl rfl (pT Ie ar b 1 oM g1 i2 lv ds _ [] _ (hM.tp ⟨[], cP g1 5, cQ g1⟩ sM (fun _ h => by cases h)) cL) ?_
   rintro w3 g3 r' ⟨t, i3, ht, ⟨Qe, OF⟩, rfl, dE⟩ aF
   have aFD : aE t ≤ 3 := OF
   obtain ⟨ya, yc, rfl, eF⟩ := ht.dQ
   skip
   refine aj rfl (fun lG => ?_)
   refine wz.Cf.G.a.a.a.c.b.q.z ?_
   refine aB rfl rfl (sj g3 t goal _ _ ⟨_, rfl, eF⟩ ⟨_, rfl, cG.mono aF⟩) ?_
   rintro w4 g4 fZ aR
   obtain ⟨za, zc, rfl, hz⟩ := fZ.dQ
   have lj := (hM.mono aF).mono aR
   have lD := DM t goal
   refine wz.AE.a.z ?_
   rw [show ((d' + 1 : Nat) : Int) - 1 = (d' : Int) by omega]
   refine aG 5 rfl rfl rfl (ih g4 i3 lv ds _ ctx _ (cZ t goal) _ lj oM ⟨_, rfl, hz⟩ (C4 Qe iu) oM dE) ?_
   rintro w5 g5 r' ⟨f, i5, hf, gf, sf, rfl, o9⟩ cC
   obtain ⟨a1, m1, c1, a2, m2, c2, a3, m3, c3, rfl, vN⟩ := hf.form
   skip
   refine aj rfl (fun ru => ?_)
   refine wz.e.b.q.z ?_
   refine bO [6, 4] mixed (fun hG => ?_)
   refine wz.P.z ?_; refine ⟨_, (bP 0 rfl rfl rL), ?_⟩; refine wz.R.z ?_; refine ⟨_, (ag rfl), ?_⟩; refine wz.S.z ?_; refine ⟨_, (ag rfl), ?_⟩; refine wz.X.z ?_; refine ⟨_, (ag rfl), ?_⟩; refine wz.Z.z ?_; refine ⟨_, (bP 1 rfl rfl rL), ?_⟩; refine wz.Ad.z ?_; refine ⟨_, (ag rfl), ?_⟩
   refine bn 6 rfl kR rfl hG ⟨_, (mA rfl rfl oM), ?_⟩; refine wz.AM.z ?_
   rw [show ((d' + 1 : Nat) : Int) - 1 = (d' : Int) by omega]
   refine aG 6 rfl rfl rfl (ih g5 i5 lv ds _ ctx _ t _ (lj.mono cC) oM ⟨_, rfl, (eF.mono aR).mono cC⟩ Qe oM o9) ?_
   rintro w6 g6 r' ⟨u, i6, hu, gu, su, rfl, Ij⟩ dT
   obtain ⟨e1, f1, h1, e2, f2, h2, e3, f3, h3, rfl, gq⟩ := hu.form
   refine wz.Ae.f.b.z ?_
   refine bu rfl rfl rL rL rL rL rL (fun fX => ?_)
   refine bg (fun g7 fC iE => ?_)
   have lh := ab.le_trans dT fC
   refine wz.l.x.i.d.F.f.b.Bw.AW.f.b.K.Ai.f.b.z ?_
   exact bp [_] rfl (ay 4 rfl rfl rL) sF ⟨_, rfl, bC 5 0 [] [f, u], i6, jR g7 5 0 [] iE (o8 ((vN.mono dT).mono fC) (gq.mono fC)), .app 0 f u gf gu, by rw [P0]; omega, rfl, Ij⟩
  ·refine wz.b.a.a.a.c.z ?_
   refine an rfl (fun c2 => ?_) (fun c2 => ?_)
   ·refine wz.a.Y.a.a.a.c.z ?_
    refine aG 4 rfl rfl rfl (aAL ar b d' oM ih g1 i2 lv ds _ ctx _ goal _ hM hl ⟨_, rfl, cG⟩ iu lX cL) ?_
    rintro w g2 r' ⟨e, i3, he, ge, se, rfl, dE⟩ aD
    obtain ⟨a1, m1, c1, a2, m2, c2, a3, m3, c3, rfl, b_⟩ := he.form
    refine wz.l.x.i.b.V.z ?_
    exact bp [_] rfl (ay 2 rfl rfl rL) sD ⟨_, rfl, e, i3, ⟨_, rfl, b_⟩, ge, se, rfl, dE⟩
   ·refine wz.b.a.a.a.c.z ?_
    refine an rfl (fun c3 => ?_) (fun c3 => ?_)
    ·refine wz.a.Y.a.a.a.c.z ?_
     refine aG 4 rfl rfl rfl (aAR ar b d' ih g1 i2 lv ds _ ctx _ goal _ hM hl ⟨_, rfl, cG⟩ iu lX cL) ?_
     rintro w g2 r' ⟨e, i3, he, ge, se, rfl, dE⟩ aD
     obtain ⟨a1, m1, c1, a2, m2, c2, a3, m3, c3, rfl, b_⟩ := he.form
     refine wz.l.x.i.b.V.z ?_
     exact bp [_] rfl (ay 2 rfl rfl rL) sD ⟨_, rfl, e, i3, ⟨_, rfl, b_⟩, ge, se, rfl, dE⟩
    ·skip
     refine cD (ι := Bool) (fun p => [(0, ptr b 0), (1, dv), (2, cv), (4, .int .i64 (d' + 1 : Nat)), (8, ptr b8 0), (10, ptr bh 0), (11, ptr dY 0), (12, ptr kW 0), (14, .int .i64 k), (103, .bool p)]) (fun _ => g1) (fun _ => [.ae kW 41 (aH y (.slice y1 y.args.length y2)), .ae dY 41 (aH x (.slice x1 x.args.length x2)), .ae bh 47 dK, .ae b8 41 (aH goal (.slice ga goal.args.length gc)), c8 b lv i2]) (fun p => p = true → kZ 3 goal = false) ?_ ?_
     case refine_2 =>
      intro K hK
      refine wz.a.a.a.r.z ?_
      refine bw rfl rfl (fun c4 => ?_) (fun c4 => ?_)
      ·refine wz.k.Y.k.z ?_
       refine aO rfl rfl (NR g1 3 goal _ ⟨_, rfl, cG⟩) ?_
       cases ob : kZ 3 goal with
       | true =>
        refine wz.b.a.a.h.h.h.a.a.u.z ?_
        exact hK false _ (fun h => by cases h) ⟨rfl, rfl, rfl, rfl, rfl, rfl, rfl, rfl, rfl, rfl, trivial⟩
       | false =>
        refine wz.k.Y.k.a.a.u.z ?_
        refine aO rfl rfl (NR g1 1 goal _ ⟨_, rfl, cG⟩) ?_
        cases kZ 1 goal with
        | true =>
         refine wz.b.a.a.u.z ?_
         exact hK false _ (fun h => by cases h) ⟨rfl, rfl, rfl, rfl, rfl, rfl, rfl, rfl, rfl, rfl, trivial⟩
        | false =>
         refine wz.b.a.a.u.z ?_
         exact hK true _ (fun _ => ob) ⟨rfl, rfl, rfl, rfl, rfl, rfl, rfl, rfl, rfl, rfl, trivial⟩
      ·refine wz.b.a.a.h.h.h.a.a.h.h.h.z ?_
       exact hK false _ (fun h => by cases h) ⟨rfl, rfl, rfl, rfl, rfl, rfl, rfl, rfl, rfl, rfl, trivial⟩
     intro p hp
     try dsimp only
     cases p with
     | true =>
      obtain ⟨aAZ, hlen⟩ := aAF goal iu (hp rfl)
      have aA0 : (cK goal).length ≤ 6000000 := by
       have : aE goal * 1010 ≤ 5000 * 1010 := Nat.mul_le_mul_right _ oM
       omega
      refine wz.e.t.z ?_
      refine bO [4, 2] mixed (fun hG => ?_)
      refine wz.P.z ?_; refine ⟨_, (ag rfl), ?_⟩; refine wz.R.z ?_; refine ⟨_, (ag rfl), ?_⟩; refine wz.S.z ?_; refine ⟨_, (ag rfl), ?_⟩; refine wz.X.z ?_; refine ⟨_, (bP 2 rfl rfl rL), ?_⟩; refine wz.Z.z ?_; refine ⟨_, (ag rfl), ?_⟩
      refine bn 5 rfl kR rfl hG ⟨_, (mA rfl rfl oM), ?_⟩; refine wz.AV.z ?_; refine ⟨_, (bP 2 rfl rfl rL), ?_⟩
      refine wz.Ao.z ?_
      rw [show ((d' + 1 : Nat) : Int) - 1 = (d' : Int) by omega]
      refine aG 4 rfl rfl rfl (ih g1 i2 lv ds _ ctx _ goal _ hM oM ⟨_, rfl, cG⟩ iu oM cL) ?_
      rintro w4 g4 r' ⟨u, i4, hu, gu, su, rfl, ib⟩ aR
      obtain ⟨e1, f1, h1, e2, f2, h2, e3, f3, h3, rfl, gq⟩ := hu.form
      refine wz.AM.f.b.z ?_
      refine bu rfl rfl rL rL rL rL rL (fun fX => ?_)
      refine bg (fun g5 cC qy => ?_)
      have oC := ab.le_trans aR cC
      refine wz.l.x.i.d.F.f.b.V.AW.f.b.K.Ai.f.b.z ?_
      exact bp [_] rfl (ay 2 rfl rfl rL) sD ⟨_, rfl, h_ 0 u goal, i4, FE g5 0 goal qy (gq.mono cC) ((cG.mono aR).mono cC), .iY 0 u goal gu aAZ aA0, by rw [aAY]; omega, rfl, ib⟩
     | false =>
      clear hp
      refine wz.b.a.a.a.c.o.z ?_
      refine an rfl (fun c5 => ?_) (fun c5 => ?_)
      ·refine wz.AE.a.Y.a.a.a.c.z ?_
       rw [show ((d' + 1 : Nat) : Int) - 1 = (d' : Int) by omega]
       refine aG 4 rfl rfl rfl (ih g1 i2 lv ds _ ctx _ goal _ hM oM ⟨_, rfl, cG⟩ iu oM cL) ?_
       rintro w4 g4 r' ⟨u, i4, hu, gu, su, rfl, ib⟩ aR
       obtain ⟨e1, f1, h1, e2, f2, h2, e3, f3, h3, rfl, gq⟩ := hu.form
       skip
       refine bu rfl rfl rL rL rL rL rL (fun fX => ?_)
       refine bg (fun g5 cC qy => ?_)
       refine wz.l.x.i.b.V.K.z ?_
       exact bp [_] rfl (ay 2 rfl rfl rL) sD ⟨_, rfl, bC 11 0 [] [u], i4, jR g5 11 0 [] qy (na (gq.mono cC)), .held 0 u gu, by rw [Qc]; omega, rfl, ib⟩
      ·refine wz.a.Y.a.a.a.c.d.y.j.z ?_
       refine aG 4 rfl rfl rfl (aAH ar b d' ih g1 i2 lv ds _ ctx _ goal _ hM hl ⟨_, rfl, cG⟩ iu lX cL) ?_
       rintro w g2 r' ⟨e, i3, he, ge, se, rfl, dE⟩ aD
       obtain ⟨a1, m1, c1, a2, m2, c2, a3, m3, c3, rfl, b_⟩ := he.form
       refine wz.i.b.V.z ?_
       exact bp [_] rfl (ay 2 rfl rfl rL) sD ⟨_, rfl, e, i3, ⟨_, rfl, b_⟩, ge, se, rfl, dE⟩
theorem Qf (ar : List Int) (b : Nat) : ∀ d : Nat, d ≤ 3 → vK ar b d
 | 0, h => Qd ar b 0 h (fun d' h => by omega)
 | d + 1, h => Qd ar b (d + 1) h (fun d' hd => by
   obtain rfl : d' = d := by omega
   exact Qf ar b d' oM)
theorem Qg (g : ab) : bK prog 43 [] g fun v g' => ∃ xl, au g' 5 v 3 xl ∧ aV g' so xl := by
 refine aw func43 rfl ntmps43 rfl fun E hE => ?_
 refine wz.c.b.a.c.z ?_
 refine aO rfl rfl (xC g [97]) ?_
 refine aO rfl rfl (xC g [98]) ?_
 refine aO rfl rfl (xC g [99]) ?_
 refine bu rfl rfl rL rL rL rL rL (fun b4 => ?_)
 refine wz.i.b.a.z ?_
 refine bg (fun g5 cC qy => ?_)
 exact ao [] rfl rfl sM ⟨⟨_, qy, ⟨_, _, rfl, bx.mk (t := fY [97]) (cP g5 5) (cQ g5), ⟨_, _, rfl, bx.mk (t := fY [98]) (cP g5 5) (cQ g5), ⟨_, _, rfl, bx.mk (t := fY [99]) (cP g5 5) (cQ g5), rfl⟩⟩⟩⟩, rfl⟩
end Go.Proofs.YtlnjfkfojkgiiaaGreatDoor
namespace Go.Th
structure GB (Z : Nat) (b : Bi) : Prop where
 n : kindOf b.name = 1
 nl : b.name.length ≤ 2
 s : b.fD = true → fr b.sig ∧ (cK b.sig).length ≤ 1000
 o : b.fD = false → b.sig = bX
 e : GE b.body
 z : aN b.body ≤ Z
structure qz (Z : Nat) (p : Pg) : Prop where
 dl : p.al.length ≤ 8
 d : ∀ d ∈ p.al, d ∈ ja
 bl : p.binds.length ≤ 4
 b : ∀ b ∈ p.binds, GB Z b
def aA1 : List Bytes := [[112], [113], [114], [115]]
end Go.Th
namespace Go.Proofs.YtlnjfkfojkgiiaaGreatDoor
theorem Ir {g : ab} {ar : List Int} {lv : Value} {ds : List Da} {dv : Value} {ctx : List En} {cv fv : Value} (h : kK g ar lv ds dv ctx cv) (hf : ∃ xl, au g 5 fv 3 xl ∧ aV g so xl) : o4 Fg g ar lv ds dv so fv :=
 h.tp hf dC (fun t ht => by
  simp only [so, List.mem_cons, List.not_mem_nil, or_false] at ht
  rcases ht with rfl | rfl | rfl
  ·exact ⟨.name _ dC, dC⟩
  ·exact ⟨.name _ dC, dC⟩
  ·exact ⟨.name _ dC, dC⟩)
theorem aA2 (g : ab) (bits : Int) (ar : List Int) (lv : Value) (hc : ar.length ≤ 1000000) (gA : au g 1 lv ar.length (ar.map (Value.int .i64))) :
  bK prog 16 [.int .i64 bits, lv] g fun v g' => ∃ p, ll g' v p ∧ qz 2000 p := by
 obtain ⟨ca, cc, rfl⟩ := aU gA
 refine aw func16 rfl ntmps16 rfl fun E hE => ?_
 refine aS ?_
 refine aj rfl (fun b4 => ?_)
 refine wz.K.a.c.b.z ?_
 refine aP rfl rfl rfl (fun b5 => ?_)
 refine wz.a.c.b.a.z ?_
 refine aB rfl rfl (Tv g bits) ?_
 rintro w1 gb ⟨ds, xd, gm, jO, nj, rB⟩ a8
 obtain ⟨da, dc, rfl⟩ := aU gm
 refine wz.K.z ?_
 refine aj rfl (fun b6 => ?_)
 refine wz.a.c.b.a.c.b.q.z ?_
 have DU : pw gb ds (.slice da ds.length dc) := ⟨⟨xd, gm, jO⟩, nj, fun d hd => ⟨KA d (rB d hd), KF d (rB d hd), X9 d (rB d hd)⟩⟩
 have eV := gA.mono a8
 generalize Qh : (Value.slice ca ar.length cc) = lv at gA eV ⊢
 refine aG 1 rfl rfl rfl (e_ gb ar hc lv eV b5 0 (Nat.zero_le _) 4 oM) ?_
 rintro v gb r' ⟨rfl, q0, j0, rfl, gp, ep, rfl, hj0⟩ _
 obtain ⟨nn, qn⟩ : ∃ nn : Int, nn = 1 + q0 := ⟨_, rfl⟩
 refine wz.p.b.a.c.e.b.a.E.z ?_
 rw [← qn]
 refine fW 49 20 <| ko (own' := [_, _, _, _]) (.cons _ (.cons _ (.swap _ _ _))) ?_
 refine aX (ι := Nat × ab × Nat × List En × Value × List Bi × List Value × Option Addr × Nat) (fun o => [(4, ptr b4 0), (5, ptr b5 0), (6, ptr b6 0), (7, o.2.2.2.2.1), (8, .int .i64 nn), (9, .int .i64 o.1)]) (fun o => o.2.1)
  (fun o => [.row 49 20 (.slice o.2.2.2.2.2.2.2.1 o.2.2.2.2.2.1.length o.2.2.2.2.2.2.2.2) o.2.2.2.2.2.1.length o.2.2.2.2.2.2.1, .ae b6 28 [.slice da ds.length dc, .slice o.2.2.2.2.2.2.2.1 o.2.2.2.2.2.1.length o.2.2.2.2.2.2.2.2], .ae b4 28 [.slice none 0 0, .slice none 0 0], c8 b5 lv o.2.2.1])
  (fun o => o.1 ≤ 4 ∧ (o.1 : Int) ≤ nn ∧ ab.le gb o.2.1 ∧ o.2.2.1 ≤ ar.length ∧ ld o.2.1 o.2.2.2.2.1 o.2.2.2.1 ∧ o.2.2.2.1.length ≤ o.1 ∧ (∀ e ∈ o.2.2.2.1, vI e) ∧ o.2.2.2.2.2.1.length = o.1 ∧ aL (iQ o.2.1) o.2.2.2.2.2.1 o.2.2.2.2.2.2.1 ∧ ∀ b ∈ o.2.2.2.2.2.1, GB 2000 b) (fun o => 4 - o.1)
  (0, gb, j0, [], .slice none 0 0, [], [], none, 0) ⟨Nat.zero_le _, uM, ab.le_refl _, hj0, ⟨[], cP gb 7, rfl⟩, sM, (fun _ h => by cases h), rfl, rfl, (fun _ h => by cases h)⟩ ⟨rfl, rfl, rfl, rfl, rfl, rfl, trivial⟩ rfl rfl ?_
 rintro ⟨i, g1, j, ctx, cv, bs, xs, ra, rc⟩ ⟨ib, dW, aD, hj, tt, gk, rA, tx, Is, It⟩
 simp only at ib dW aD hj tt gk rA tx Is It
 try dsimp only
 replace eV := eV.mono aD
 replace DU := DU.mono aD
 clear gm jO
 have Qi := aD
 clear aD
 refine wz.b.a.a.a.c.e.z ?_
 refine an rfl (fun hlt => ?_) (fun hlt => ?_)
 ·have dE : i < 4 := by omega
  obtain ⟨n, l8, tw, mo⟩ : ∃ n : Bytes, kindOf n = 1 ∧ n.length ≤ 2 ∧ (aA1.map str)[i]? = some (str n) := by
   have : i = 0 ∨ i = 1 ∨ i = 2 ∨ i = 3 := by omega
   rcases this with rfl | rfl | rfl | rfl
   ·exact ⟨[112], dC, dC, rfl⟩
   ·exact ⟨[113], dC, dC, rfl⟩
   ·exact ⟨[114], dC, dC, rfl⟩
   ·exact ⟨[115], dC, dC, rfl⟩
  have vL : kK g1 ar lv ds (.slice da ds.length dc) ctx cv := ⟨eV, hc, DU, tt, rA⟩
  refine wz.p.e.d.j.z ?_
  refine cD (ι := ab × Bool × Nat × Nat) (fun o => [(4, ptr b4 0), (5, ptr b5 0), (6, ptr b6 0), (7, cv), (8, .int .i64 nn), (9, .int .i64 i), (10, ptr o.2.2.2 0)]) (fun o => o.1) (fun o => [.ae o.2.2.2 49 [.int .i64 0, .bool o.2.1, str n, .bool false, .int .i64 0, str [], .int .i64 0, .int .i64 0, .slice none 0 0, .int .i64 0, .int .i64 0, str [], .int .i64 0, .slice none 0 0, .slice none 0 0, .int .i64 0, str [], .int .i64 0, .int .i64 0, .slice none 0 0], .row 49 20 (.slice ra bs.length rc) bs.length xs, .ae b6 28 [.slice da ds.length dc, .slice ra bs.length rc], .ae b4 28 [.slice none 0 0, .slice none 0 0], c8 b5 lv o.2.2.1]) (fun o => ab.le g1 o.1 ∧ o.2.2.1 ≤ ar.length) ?_ ?_
  case refine_2 =>
   intro K hK
   skip
   refine bO [3] mixed (fun hG => ?_)
   refine wz.R.z ?_; refine ⟨_, (ag rfl), ?_⟩
   refine wz.Z.z ?_; refine ⟨_, (ag rfl), ?_⟩
   refine qY 0 5 8 kR rfl rfl rfl ?_ ?_ ?_
   ·refine bu rfl rfl rL rL rL rL rL (fun y0 => ?_)
    refine bg (fun gy iI ou => ?_)
    obtain ⟨DV, oy, cy, aq, lV⟩ := ou.held (show i < 4 by omega)
    cases aq
    refine wz.f.b.z ?_
    refine bn 2 rfl kR rfl hG ⟨_, (bU (j := i) rfl rfl rfl oM), ?_⟩
    refine qY 3 5 8 kR rfl rfl rfl ?_ ?_ ?_
    ·refine cj rfl rfl (eT (lV (i * 1) (str n) (by rw [Nat.mul_one]; exact mo))) ?_
     refine wz.f.b.z ?_
     refine eH 5 8 kR rfl rfl ?_ ?_
     ·refine aG 3 rfl rfl rfl (e_ gy ar hc lv (eV.mono iI) b5 j hj 4 oM) ?_
      rintro v gy r' ⟨rfl, q, j2, rfl, gp, ep, rfl, cE⟩ _
      refine wz.Ak.f.b.z ?_; refine ⟨_, (ag rfl), ?_⟩
      refine wz.Aa.z ?_; refine ⟨_, (et rfl rL), ?_⟩
      refine wz.Ae.z ?_
      refine aj rfl (fun bh => ?_)
      refine wz.d.F.f.b.q.Ai.f.b.z ?_
      exact hK (_, decide (q = 1), j2, bh) _ ⟨iI, cE⟩ ⟨rfl, rfl, rfl, rfl, rfl, rfl, rfl, trivial⟩
     ·refine aj rfl (fun bh => ?_)
      refine wz.Aq.f.b.z ?_
      refine aG 4 rfl rfl rfl (e_ gy ar hc lv (eV.mono iI) b5 j hj 4 oM) ?_
      rintro v gy r' ⟨rfl, q, j2, rfl, gp, ep, rfl, cE⟩ _
      refine wz.Ak.f.b.z ?_; refine ⟨_, (ag rfl), ?_⟩
      refine wz.Aa.z ?_; refine ⟨_, (et rfl rL), ?_⟩
      refine wz.d.F.f.b.q.Ai.z ?_
      exact hK (_, decide (q = 1), j2, bh) _ ⟨iI, cE⟩ ⟨rfl, rfl, rfl, rfl, rfl, rfl, rfl, trivial⟩
    ·refine aG 3 rfl rfl rfl (e_ gy ar hc lv (eV.mono iI) b5 j hj 4 oM) ?_
     rintro v gy r' ⟨rfl, q, j2, rfl, gp, ep, rfl, cE⟩ _
     refine wz.Ak.f.b.z ?_; refine ⟨_, (ag rfl), ?_⟩
     refine eH 3 8 kR rfl rfl ?_ ?_
     ·refine cj rfl rfl (eT (lV (i * 1) (str n) (by rw [Nat.mul_one]; exact mo))) ?_
      refine wz.Aa.f.b.z ?_; refine ⟨_, (et rfl rL), ?_⟩
      refine wz.Ae.z ?_
      refine aj rfl (fun bh => ?_)
      refine wz.d.F.f.b.q.Ai.f.b.z ?_
      exact hK (_, decide (q = 1), j2, bh) _ ⟨iI, cE⟩ ⟨rfl, rfl, rfl, rfl, rfl, rfl, rfl, trivial⟩
     ·refine aj rfl (fun bh => ?_)
      refine wz.Aw.f.b.z ?_
      refine cj rfl rfl (eT (lV (i * 1) (str n) (by rw [Nat.mul_one]; exact mo))) ?_
      refine wz.Aa.f.b.z ?_; refine ⟨_, (et rfl rL), ?_⟩
      refine wz.d.F.f.b.q.Ai.z ?_
      exact hK (_, decide (q = 1), j2, bh) _ ⟨iI, cE⟩ ⟨rfl, rfl, rfl, rfl, rfl, rfl, rfl, trivial⟩
    ·refine aj rfl (fun bh => ?_)
     refine wz.f.b.z ?_
     refine eH 3 5 kR rfl rfl ?_ ?_
     ·refine cj rfl rfl (eT (lV (i * 1) (str n) (by rw [Nat.mul_one]; exact mo))) ?_
      refine wz.Aq.f.b.z ?_
      refine aG 4 rfl rfl rfl (e_ gy ar hc lv (eV.mono iI) b5 j hj 4 oM) ?_
      rintro v gy r' ⟨rfl, q, j2, rfl, gp, ep, rfl, cE⟩ _
      refine wz.Ak.f.b.z ?_; refine ⟨_, (ag rfl), ?_⟩
      refine wz.Aa.z ?_; refine ⟨_, (et rfl rL), ?_⟩
      refine wz.d.F.f.b.q.Ai.z ?_
      exact hK (_, decide (q = 1), j2, bh) _ ⟨iI, cE⟩ ⟨rfl, rfl, rfl, rfl, rfl, rfl, rfl, trivial⟩
     ·refine aG 4 rfl rfl rfl (e_ gy ar hc lv (eV.mono iI) b5 j hj 4 oM) ?_
      rintro v gy r' ⟨rfl, q, j2, rfl, gp, ep, rfl, cE⟩ _
      refine wz.Ak.f.b.z ?_; refine ⟨_, (ag rfl), ?_⟩
      refine wz.Aw.z ?_
      refine cj rfl rfl (eT (lV (i * 1) (str n) (by rw [Nat.mul_one]; exact mo))) ?_
      refine wz.Aa.f.b.z ?_; refine ⟨_, (et rfl rL), ?_⟩
      refine wz.d.F.f.b.q.Ai.z ?_
      exact hK (_, decide (q = 1), j2, bh) _ ⟨iI, cE⟩ ⟨rfl, rfl, rfl, rfl, rfl, rfl, rfl, trivial⟩
   ·refine aG 3 rfl rfl rfl (e_ g1 ar hc lv eV b5 j hj 4 oM) ?_
    rintro v g1 r' ⟨rfl, q, j2, rfl, gp, ep, rfl, cE⟩ _
    refine wz.Ak.f.b.z ?_; refine ⟨_, (ag rfl), ?_⟩
    refine eH 0 8 kR rfl rfl ?_ ?_
    ·refine bu rfl rfl rL rL rL rL rL (fun y0 => ?_)
     refine bg (fun gy iI ou => ?_)
     obtain ⟨DV, oy, cy, aq, lV⟩ := ou.held (show i < 4 by omega)
     cases aq
     refine wz.f.b.z ?_
     refine bn 2 rfl kR rfl hG ⟨_, (bU (j := i) rfl rfl rfl oM), ?_⟩
     refine eH 3 8 kR rfl rfl ?_ ?_
     ·refine cj rfl rfl (eT (lV (i * 1) (str n) (by rw [Nat.mul_one]; exact mo))) ?_
      refine wz.Aa.f.b.z ?_; refine ⟨_, (et rfl rL), ?_⟩
      refine wz.Ae.z ?_
      refine aj rfl (fun bh => ?_)
      refine wz.d.F.f.b.q.Ai.f.b.z ?_
      exact hK (_, decide (q = 1), j2, bh) _ ⟨iI, cE⟩ ⟨rfl, rfl, rfl, rfl, rfl, rfl, rfl, trivial⟩
     ·refine aj rfl (fun bh => ?_)
      refine wz.Aw.f.b.z ?_
      refine cj rfl rfl (eT (lV (i * 1) (str n) (by rw [Nat.mul_one]; exact mo))) ?_
      refine wz.Aa.f.b.z ?_; refine ⟨_, (et rfl rL), ?_⟩
      refine wz.d.F.f.b.q.Ai.z ?_
      exact hK (_, decide (q = 1), j2, bh) _ ⟨iI, cE⟩ ⟨rfl, rfl, rfl, rfl, rfl, rfl, rfl, trivial⟩
    ·refine aj rfl (fun bh => ?_)
     refine wz.CM.f.b.z ?_
     refine bu rfl rfl rL rL rL rL rL (fun y0 => ?_)
     refine bg (fun gy iI ou => ?_)
     obtain ⟨DV, oy, cy, aq, lV⟩ := ou.held (show i < 4 by omega)
     cases aq
     refine wz.f.b.z ?_
     refine bn 2 rfl kR rfl hG ⟨_, (bU (j := i) rfl rfl rfl oM), ?_⟩
     refine wz.Aw.z ?_
     refine cj rfl rfl (eT (lV (i * 1) (str n) (by rw [Nat.mul_one]; exact mo))) ?_
     refine wz.Aa.f.b.z ?_; refine ⟨_, (et rfl rL), ?_⟩
     refine wz.d.F.f.b.q.Ai.z ?_
     exact hK (_, decide (q = 1), j2, bh) _ ⟨iI, cE⟩ ⟨rfl, rfl, rfl, rfl, rfl, rfl, rfl, trivial⟩
   ·refine aj rfl (fun bh => ?_)
    refine wz.f.b.z ?_
    refine eH 0 5 kR rfl rfl ?_ ?_
    ·refine bu rfl rfl rL rL rL rL rL (fun y0 => ?_)
     refine bg (fun gy iI ou => ?_)
     obtain ⟨DV, oy, cy, aq, lV⟩ := ou.held (show i < 4 by omega)
     cases aq
     refine wz.f.b.z ?_
     refine bn 2 rfl kR rfl hG ⟨_, (bU (j := i) rfl rfl rfl oM), ?_⟩
     refine eH 3 5 kR rfl rfl ?_ ?_
     ·refine cj rfl rfl (eT (lV (i * 1) (str n) (by rw [Nat.mul_one]; exact mo))) ?_
      refine wz.Aq.f.b.z ?_
      refine aG 4 rfl rfl rfl (e_ gy ar hc lv (eV.mono iI) b5 j hj 4 oM) ?_
      rintro v gy r' ⟨rfl, q, j2, rfl, gp, ep, rfl, cE⟩ _
      refine wz.Ak.f.b.z ?_; refine ⟨_, (ag rfl), ?_⟩
      refine wz.Aa.z ?_; refine ⟨_, (et rfl rL), ?_⟩
      refine wz.d.F.f.b.q.Ai.z ?_
      exact hK (_, decide (q = 1), j2, bh) _ ⟨iI, cE⟩ ⟨rfl, rfl, rfl, rfl, rfl, rfl, rfl, trivial⟩
     ·refine aG 4 rfl rfl rfl (e_ gy ar hc lv (eV.mono iI) b5 j hj 4 oM) ?_
      rintro v gy r' ⟨rfl, q, j2, rfl, gp, ep, rfl, cE⟩ _
      refine wz.Ak.f.b.z ?_; refine ⟨_, (ag rfl), ?_⟩
      refine wz.Aw.z ?_
      refine cj rfl rfl (eT (lV (i * 1) (str n) (by rw [Nat.mul_one]; exact mo))) ?_
      refine wz.Aa.f.b.z ?_; refine ⟨_, (et rfl rL), ?_⟩
      refine wz.d.F.f.b.q.Ai.z ?_
      exact hK (_, decide (q = 1), j2, bh) _ ⟨iI, cE⟩ ⟨rfl, rfl, rfl, rfl, rfl, rfl, rfl, trivial⟩
    ·refine aG 4 rfl rfl rfl (e_ g1 ar hc lv eV b5 j hj 4 oM) ?_
     rintro v g1 r' ⟨rfl, q, j2, rfl, gp, ep, rfl, cE⟩ _
     refine wz.Ak.f.b.z ?_; refine ⟨_, (ag rfl), ?_⟩
     refine wz.CM.z ?_
     refine bu rfl rfl rL rL rL rL rL (fun y0 => ?_)
     refine bg (fun gy iI ou => ?_)
     obtain ⟨DV, oy, cy, aq, lV⟩ := ou.held (show i < 4 by omega)
     cases aq
     refine wz.f.b.z ?_
     refine bn 2 rfl kR rfl hG ⟨_, (bU (j := i) rfl rfl rfl oM), ?_⟩
     refine wz.Aw.z ?_
     refine cj rfl rfl (eT (lV (i * 1) (str n) (by rw [Nat.mul_one]; exact mo))) ?_
     refine wz.Aa.f.b.z ?_; refine ⟨_, (et rfl rL), ?_⟩
     refine wz.d.F.f.b.q.Ai.z ?_
     exact hK (_, decide (q = 1), j2, bh) _ ⟨iI, cE⟩ ⟨rfl, rfl, rfl, rfl, rfl, rfl, rfl, trivial⟩
  rintro ⟨g2, rec, j2, bh⟩ ⟨jP, cE⟩
  simp only at jP cE
  try dsimp only
  have tY := vL.mono jP
  refine cD (ι := ab × Nat × Ty × List Value × Nat) (fun o => [(4, ptr b4 0), (5, ptr b5 0), (6, ptr b6 0), (7, cv), (8, .int .i64 nn), (9, .int .i64 i), (10, ptr bh 0), (11, ptr o.2.1 0)]) (fun o => o.1) (fun o => [.ae o.2.1 41 o.2.2.2.1, .ae bh 49 [.int .i64 0, .bool rec, str n, .bool false, .int .i64 0, str [], .int .i64 0, .int .i64 0, .slice none 0 0, .int .i64 0, .int .i64 0, str [], .int .i64 0, .slice none 0 0, .slice none 0 0, .int .i64 0, str [], .int .i64 0, .int .i64 0, .slice none 0 0], .row 49 20 (.slice ra bs.length rc) bs.length xs, .ae b6 28 [.slice da ds.length dc, .slice ra bs.length rc], .ae b4 28 [.slice none 0 0, .slice none 0 0], c8 b5 lv o.2.2.2.2]) (fun o => ab.le g2 o.1 ∧ yp o.1 o.2.2.2.1 o.2.2.1 ∧ fr o.2.2.1 ∧ (cK o.2.2.1).length ≤ 1000 ∧ o.2.2.2.2 ≤ ar.length) ?_ ?_
  case refine_2 =>
   intro K hK
   skip
   refine bO [4] mixed (fun hG => ?_)
   refine wz.P.z ?_; refine ⟨_, (ag rfl), ?_⟩; refine wz.R.z ?_; refine ⟨_, (aI rfl), ?_⟩; refine wz.S.z ?_; refine ⟨_, (a7 2 rfl rfl rfl), ?_⟩
   refine eH 3 5 kR rfl rfl ?_ ?_
   ·refine aB rfl rfl (Qg g2) ?_
    rintro wn g3 ⟨xn, yn, xR⟩ aF
    refine wz.f.b.z ?_
    refine eH 4 5 kR rfl rfl ?_ ?_
    ·refine aG 4 rfl rfl rfl (pT wE ar b5 2 oM g3 j2 lv ds _ so _ (Ir (tY.mono aF) ⟨xn, yn, xR⟩) cE) ?_
     rintro wt g4 r' ⟨t, j4, ht, ⟨gE, bG⟩, rfl, mU⟩ aR
     obtain ⟨ya, yc, rfl, eF⟩ := ht.dQ
     have tZ : (cK t).length ≤ 1000 := by have : bT 2 = 48 := rfl; omega
     have ju := ab.le_trans aF aR
     refine wz.Aq.f.b.z ?_
     refine aj rfl (fun dY => ?_)
     refine wz.d.F.f.b.q.Ao.f.b.z ?_
     exact hK (g4, dY, t, _, j4) _ ⟨ju, ⟨_, _, rfl, eF⟩, gE, tZ, mU⟩ ⟨rfl, rfl, rfl, rfl, rfl, rfl, rfl, rfl, trivial⟩
    ·refine aj rfl (fun dY => ?_)
     refine wz.AH.f.b.z ?_
     refine aG 5 rfl rfl rfl (pT wE ar b5 2 oM g3 j2 lv ds _ so _ (Ir (tY.mono aF) ⟨xn, yn, xR⟩) cE) ?_
     rintro wt g4 r' ⟨t, j4, ht, ⟨gE, bG⟩, rfl, mU⟩ aR
     obtain ⟨ya, yc, rfl, eF⟩ := ht.dQ
     have tZ : (cK t).length ≤ 1000 := by have : bT 2 = 48 := rfl; omega
     have ju := ab.le_trans aF aR
     refine wz.d.F.f.b.q.Ao.f.b.z ?_
     exact hK (g4, dY, t, _, j4) _ ⟨ju, ⟨_, _, rfl, eF⟩, gE, tZ, mU⟩ ⟨rfl, rfl, rfl, rfl, rfl, rfl, rfl, rfl, trivial⟩
   ·refine aj rfl (fun dY => ?_)
    refine wz.Aw.f.b.z ?_
    refine aB rfl rfl (Qg g2) ?_
    rintro wn g3 ⟨xn, yn, xR⟩ aF
    refine wz.AH.f.b.z ?_
    refine aG 5 rfl rfl rfl (pT wE ar b5 2 oM g3 j2 lv ds _ so _ (Ir (tY.mono aF) ⟨xn, yn, xR⟩) cE) ?_
    rintro wt g4 r' ⟨t, j4, ht, ⟨gE, bG⟩, rfl, mU⟩ aR
    obtain ⟨ya, yc, rfl, eF⟩ := ht.dQ
    have tZ : (cK t).length ≤ 1000 := by have : bT 2 = 48 := rfl; omega
    have ju := ab.le_trans aF aR
    refine wz.d.F.f.b.q.Ao.f.b.z ?_
    exact hK (g4, dY, t, _, j4) _ ⟨ju, ⟨_, _, rfl, eF⟩, gE, tZ, mU⟩ ⟨rfl, rfl, rfl, rfl, rfl, rfl, rfl, rfl, trivial⟩
  rintro ⟨g3, dY, t, tc, j3⟩ ⟨Iu, ⟨t1, t2, oK, ht⟩, gE, bG, rE⟩
  simp only at Iu oK ht gE bG rE
  subst oK
  try dsimp only
  have jW := tY.mono Iu
  refine cD (ι := ab × Ty × List Value × Nat) (fun o => [(4, ptr b4 0), (5, ptr b5 0), (6, ptr b6 0), (7, cv), (8, .int .i64 nn), (9, .int .i64 i), (10, ptr bh 0), (11, ptr dY 0)]) (fun o => o.1) (fun o => [.ae dY 41 o.2.2.1, .ae bh 49 [.int .i64 0, .bool rec, str n, .bool false, .int .i64 0, str [], .int .i64 0, .int .i64 0, .slice none 0 0, .int .i64 0, .int .i64 0, str [], .int .i64 0, .slice none 0 0, .slice none 0 0, .int .i64 0, str [], .int .i64 0, .int .i64 0, .slice none 0 0], .row 49 20 (.slice ra bs.length rc) bs.length xs, .ae b6 28 [.slice da ds.length dc, .slice ra bs.length rc], .ae b4 28 [.slice none 0 0, .slice none 0 0], c8 b5 lv o.2.2.2]) (fun o => ab.le g3 o.1 ∧ yp o.1 o.2.2.1 o.2.1 ∧ fr o.2.1 ∧ (cK o.2.1).length ≤ 1000 ∧ o.2.2.2 ≤ ar.length) ?_ ?_
  case refine_2 =>
   intro K hK
   refine wz.a.c.z ?_
   refine aG 5 rfl rfl rfl (e_ g3 ar hc lv jW.c b5 j3 rE 3 oM) ?_
   rintro v g3 r' ⟨rfl, q, j4, rfl, gp, ep, rfl, mU⟩ _
   refine wz.b.a.z ?_
   refine an rfl (fun c1 => ?_) (fun c1 => ?_)
   ·refine wz.AN.g.a.r.z ?_
    refine aG 5 rfl rfl rfl (pT wE ar b5 2 oM g3 j4 lv ds _ [] _ (jW.tp ⟨[], cP g3 5, cQ g3⟩ sM (fun _ h => by cases h)) mU) ?_
    rintro wt g4 r' ⟨t', j5, eF, ⟨aA3, DW⟩, rfl, vO⟩ aR
    obtain ⟨ya, yc, rfl, gZ⟩ := eF.dQ
    have tZ : (cK t').length ≤ 1000 := by have : bT 2 = 48 := rfl; omega
    refine wz.b.q.z ?_
    exact hK (g4, t', _, j5) _ ⟨aR, ⟨_, _, rfl, gZ⟩, aA3, tZ, vO⟩ ⟨rfl, rfl, rfl, rfl, rfl, rfl, rfl, rfl, trivial⟩
   ·refine wz.d.j.z ?_
    exact hK (g3, t, _, j4) _ ⟨ab.le_refl _, ⟨_, _, rfl, ht⟩, gE, bG, mU⟩ ⟨rfl, rfl, rfl, rfl, rfl, rfl, rfl, rfl, trivial⟩
  clear ht gE bG t1 t2 t
  rintro ⟨g4, t, tc, j4⟩ ⟨ju, ⟨t1, t2, oK, ht⟩, gE, bG, mU⟩
  simp only at ju oK ht gE bG mU
  subst oK
  try dsimp only
  have lj := jW.mono ju
  refine cD (ι := Bool × Nat) (fun o => [(4, ptr b4 0), (5, ptr b5 0), (6, ptr b6 0), (7, cv), (8, .int .i64 nn), (9, .int .i64 i), (10, ptr bh 0), (11, ptr dY 0)]) (fun _ => g4) (fun o => [.ae dY 41 (aH t (.slice t1 t.args.length t2)), .ae bh 49 [.int .i64 0, .bool rec, str n, .bool o.1, .int .i64 0, str [], .int .i64 0, .int .i64 0, .slice none 0 0, .int .i64 0, .int .i64 0, str [], .int .i64 0, .slice none 0 0, .slice none 0 0, .int .i64 0, str [], .int .i64 0, .int .i64 0, .slice none 0 0], .row 49 20 (.slice ra bs.length rc) bs.length xs, .ae b6 28 [.slice da ds.length dc, .slice ra bs.length rc], .ae b4 28 [.slice none 0 0, .slice none 0 0], c8 b5 lv o.2]) (fun o => o.2 ≤ ar.length) ?_ ?_
  case refine_2 =>
   intro K hK
   refine wz.a.r.z ?_
   refine aG 5 rfl rfl rfl (e_ g4 ar hc lv lj.c b5 j4 mU 2 oM) ?_
   rintro v g4 r' ⟨rfl, q, j5, rfl, gp, ep, rfl, vO⟩ _
   refine wz.b.Ah.g.a.z ?_
   exact hK (decide (q = 0), j5) _ vO ⟨rfl, rfl, rfl, rfl, rfl, rfl, rfl, rfl, trivial⟩
  rintro ⟨p, j5⟩ vO
  simp only at vO
  try dsimp only
  refine cD (ι := Ty × Option Addr × Nat) (fun _ => [(4, ptr b4 0), (5, ptr b5 0), (6, ptr b6 0), (7, cv), (8, .int .i64 nn), (9, .int .i64 i), (10, ptr bh 0), (11, ptr dY 0)]) (fun _ => g4) (fun o => [.ae dY 41 (aH t (.slice t1 t.args.length t2)), .ae bh 49 [.int .i64 0, .bool rec, str n, .bool p, .int .i64 o.1.kind, str o.1.name, .int .i64 o.1.id, .int .i64 o.1.home, .slice o.2.1 o.1.args.length o.2.2, .int .i64 0, .int .i64 0, str [], .int .i64 0, .slice none 0 0, .slice none 0 0, .int .i64 0, str [], .int .i64 0, .int .i64 0, .slice none 0 0], .row 49 20 (.slice ra bs.length rc) bs.length xs, .ae b6 28 [.slice da ds.length dc, .slice ra bs.length rc], .ae b4 28 [.slice none 0 0, .slice none 0 0], c8 b5 lv j5]) (fun o => bx g4 o.1 (aH o.1 (.slice o.2.1 o.1.args.length o.2.2)) ∧ (p = true → o.1 = t) ∧ (p = false → o.1 = bX)) ?_ ?_
  case refine_2 =>
   intro K hK
   cases p with
   | true =>
    refine wz.b.B.g.G.r.t.b.I.g.c.z ?_
    exact hK (t, t1, t2) _ ⟨ht, fun _ => rfl, (fun h => by cases h)⟩ ⟨rfl, rfl, rfl, rfl, rfl, rfl, rfl, rfl, trivial⟩
   | false =>
    refine wz.d.j.o.b.I.g.c.z ?_
    exact hK (bX, none, 0) _ ⟨bx.mk (t := bX) (cP g4 5) (cQ g4), (fun h => by cases h), fun _ => rfl⟩ ⟨rfl, rfl, rfl, rfl, rfl, rfl, rfl, rfl, trivial⟩
  rintro ⟨sg, sa, sc⟩ ⟨oc, qd, lQ⟩
  simp only at oc qd lQ
  try dsimp only
  refine wz.b.a.a.c.z ?_
  refine cD (ι := ab × Value × List En) (fun o => [(4, ptr b4 0), (5, ptr b5 0), (6, ptr b6 0), (7, cv), (8, .int .i64 nn), (9, .int .i64 i), (10, ptr bh 0), (11, ptr dY 0), (12, o.2.1)]) (fun o => o.1) (fun _ => [.ae dY 41 (aH t (.slice t1 t.args.length t2)), .ae bh 49 [.int .i64 0, .bool rec, str n, .bool p, .int .i64 sg.kind, str sg.name, .int .i64 sg.id, .int .i64 sg.home, .slice sa sg.args.length sc, .int .i64 0, .int .i64 0, str [], .int .i64 0, .slice none 0 0, .slice none 0 0, .int .i64 0, str [], .int .i64 0, .int .i64 0, .slice none 0 0], .row 49 20 (.slice ra bs.length rc) bs.length xs, .ae b6 28 [.slice da ds.length dc, .slice ra bs.length rc], .ae b4 28 [.slice none 0 0, .slice none 0 0], c8 b5 lv j5]) (fun o => ab.le g4 o.1 ∧ ld o.1 o.2.1 o.2.2 ∧ (∀ e ∈ o.2.2, vI e) ∧ o.2.2.length ≤ ctx.length + 1) ?_ ?_
  case refine_2 =>
   intro K hK
   cases rec with
   | true =>
    refine wz.t.b.I.g.c.z ?_
    refine bO [] mixed (fun hG => ?_)
    refine wz.P.z ?_; refine ⟨_, (ag rfl), ?_⟩; refine wz.R.z ?_; refine ⟨_, (aI rfl), ?_⟩; refine wz.S.z ?_; refine ⟨_, (a7 1 rfl rfl rfl), ?_⟩; refine wz.X.z ?_; refine ⟨_, (bP 0 rfl rfl rL), ?_⟩
    refine wz.AH.z ?_
    refine aB rfl rfl (OJ g4 t _ ⟨_, rfl, ht⟩ bG gE) ?_
    rintro w5 g5 ⟨y, hy, nH, pB⟩ cC
    obtain ⟨y1, y2, rfl, gJ⟩ := hy.dQ
    have lX := Ds gE
    refine wz.Aq.f.b.z ?_
    refine aB rfl rfl (rk g5 y _ ⟨_, rfl, gJ⟩) ?_
    rintro w6 g6 ⟨rfl, ez⟩ _
    obtain ⟨s1, s2, rfl, oL⟩ := ez.agg
    refine wz.Ao.f.b.z ?_
    refine aB rfl rfl (vx g6 ctx _ _ n 0 y (lj.x.mono cC) ⟨_, rfl, oL⟩ oM) ?_
    rintro w7 g7 hx7 fC
    have zI := ab.le_trans cC fC
    refine wz.d.F.f.b.a.AM.f.b.z ?_
    exact hK (g7, w7, ctx ++ [⟨n, 0, y⟩]) _ ⟨zI, hx7, (fun e he => by
     rcases List.mem_append.1 he with he | he
     ·exact rA e he
     ·rw [List.mem_singleton.1 he]; exact ⟨⟨nH, uM, Nat.zero_le _⟩, l8, tw⟩), sM⟩ ⟨rfl, rfl, rfl, rfl, rfl, rfl, rfl, rfl, rfl, trivial⟩
   | false =>
    refine wz.d.j.o.b.I.g.c.z ?_
    exact hK (g4, cv, ctx) _ ⟨ab.le_refl _, lj.x, rA, Nat.le_succ _⟩ ⟨rfl, rfl, rfl, rfl, rfl, rfl, rfl, rfl, rfl, trivial⟩
  rintro ⟨g5, iv, ictx⟩ ⟨oC, mM, yC, kF⟩
  simp only at oC mM yC kF
  try dsimp only
  have qx := lj.mono oC
  have tS : kK g5 ar lv ds (.slice da ds.length dc) ictx iv := ⟨qx.c, qx.hc, qx.d, mM, yC⟩
  have lX := Ds gE
  have yu := ht.mono oC
  refine cD (ι := ab × Nat × Ex × (Option Addr × Nat × Nat) × (Option Addr × Nat × Nat) × (Option Addr × Nat × Nat)) (fun _ => [(4, ptr b4 0), (5, ptr b5 0), (6, ptr b6 0), (7, cv), (8, .int .i64 nn), (9, .int .i64 i), (10, ptr bh 0), (11, ptr dY 0)]) (fun o => o.1) (fun o => [.ae dY 41 (aH t (.slice t1 t.args.length t2)), .ae bh 49 [.int .i64 0, .bool rec, str n, .bool p, .int .i64 sg.kind, str sg.name, .int .i64 sg.id, .int .i64 sg.home, .slice sa sg.args.length sc, .int .i64 o.2.2.1.kind, .int .i64 o.2.2.1.pos, str o.2.2.1.name, .int .i64 o.2.2.1.num, .slice o.2.2.2.1.1 o.2.2.2.1.2.1 o.2.2.2.1.2.2, .slice o.2.2.2.2.1.1 o.2.2.2.2.1.2.1 o.2.2.2.2.1.2.2, .int .i64 o.2.2.1.ty.kind, str o.2.2.1.ty.name, .int .i64 o.2.2.1.ty.id, .int .i64 o.2.2.1.ty.home, .slice o.2.2.2.2.2.1 o.2.2.2.2.2.2.1 o.2.2.2.2.2.2.2], .row 49 20 (.slice ra bs.length rc) bs.length xs, .ae b6 28 [.slice da ds.length dc, .slice ra bs.length rc], .ae b4 28 [.slice none 0 0, .slice none 0 0], c8 b5 lv o.2.1]) (fun o => ab.le g5 o.1 ∧ o.2.1 ≤ ar.length ∧ cJ o.1 o.2.2.1 [.int .i64 o.2.2.1.kind, .int .i64 o.2.2.1.pos, str o.2.2.1.name, .int .i64 o.2.2.1.num, .slice o.2.2.2.1.1 o.2.2.2.1.2.1 o.2.2.2.1.2.2, .slice o.2.2.2.2.1.1 o.2.2.2.2.1.2.1 o.2.2.2.2.1.2.2, .int .i64 o.2.2.1.ty.kind, str o.2.2.1.ty.name, .int .i64 o.2.2.1.ty.id, .int .i64 o.2.2.1.ty.home, .slice o.2.2.2.2.2.1 o.2.2.2.2.2.2.1 o.2.2.2.2.2.2.2] ∧ GE o.2.2.1 ∧ aN o.2.2.1 ≤ 2000) ?_ ?_
  case refine_2 =>
   intro K hK
   skip
   refine bO [5, 1] mixed (fun hG => ?_)
   refine wz.P.z ?_; refine ⟨_, (ag rfl), ?_⟩; refine wz.R.z ?_; refine ⟨_, (aI rfl), ?_⟩; refine wz.S.z ?_; refine ⟨_, (a7 2 rfl rfl rfl), ?_⟩; refine wz.X.z ?_; refine ⟨_, (ag rfl), ?_⟩; refine wz.Z.z ?_; refine ⟨_, (bP 0 rfl rfl rL), ?_⟩
   refine wz.Aq.z ?_
   refine aB rfl rfl (OJ g5 t _ ⟨_, rfl, yu⟩ bG gE) ?_
   rintro w6 g6 ⟨y, hy, nH, pB⟩ dT
   obtain ⟨y1, y2, rfl, gJ⟩ := hy.dQ
   refine wz.Ao.f.b.z ?_
   refine aG 5 rfl rfl rfl (Qf ar b5 3 oM g6 j5 lv ds _ ictx _ y _ (tS.mono dT) oM ⟨_, rfl, gJ⟩ nH oM vO) ?_
   rintro w7 g7 r' ⟨u, j7, hu, gu, su, rfl, hj7⟩ fC
   obtain ⟨e1, f1, h1, e2, f2, h2, e3, f3, h3, rfl, gq⟩ := hu.form
   have lh := ab.le_trans dT fC
   have aFE := PX 3 (Nat.le_refl _)
   refine wz.Aa.f.b.z ?_; refine ⟨_, (aI rfl), ?_⟩
   refine wz.d.F.f.b.B.Ae.z ?_
   exact hK (g7, j7, u, (e1, f1, h1), (e2, f2, h2), (e3, f3, h3)) _ ⟨lh, hj7, gq, gu, uM⟩ ⟨rfl, rfl, rfl, rfl, rfl, rfl, rfl, rfl, trivial⟩
  rintro ⟨g6, j6, u, ⟨e1, f1, h1⟩, ⟨e2, f2, h2⟩, ⟨e3, f3, h3⟩⟩ ⟨tQ, Qj, hu, gu, su⟩
  simp only at tQ Qj hu gu su
  try dsimp only
  have ht6 := yu.mono tQ
  have Ip := qx.mono tQ
  refine cD (ι := ab × Nat × Nat × Ty × Option Addr × Nat) (fun o => [(4, ptr b4 0), (5, ptr b5 0), (6, ptr b6 0), (7, cv), (8, .int .i64 nn), (9, .int .i64 i), (10, ptr bh 0), (14, ptr o.2.1 0)]) (fun o => o.1) (fun o => [.ae o.2.1 95 (.int .i64 o.2.2.1 :: aH o.2.2.2.1 (.slice o.2.2.2.2.1 o.2.2.2.1.args.length o.2.2.2.2.2)), .ae bh 49 [.int .i64 0, .bool rec, str n, .bool p, .int .i64 sg.kind, str sg.name, .int .i64 sg.id, .int .i64 sg.home, .slice sa sg.args.length sc, .int .i64 u.kind, .int .i64 u.pos, str u.name, .int .i64 u.num, .slice e1 f1 h1, .slice e2 f2 h2, .int .i64 u.ty.kind, str u.ty.name, .int .i64 u.ty.id, .int .i64 u.ty.home, .slice e3 f3 h3], .row 49 20 (.slice ra bs.length rc) bs.length xs, .ae b6 28 [.slice da ds.length dc, .slice ra bs.length rc], .ae b4 28 [.slice none 0 0, .slice none 0 0], c8 b5 lv j6]) (fun o => ab.le g6 o.1 ∧ bx o.1 o.2.2.2.1 (aH o.2.2.2.1 (.slice o.2.2.2.2.1 o.2.2.2.1.args.length o.2.2.2.2.2)) ∧ o.2.2.1 ≤ 5000 ∧ OK 0 o.2.2.1 false o.2.2.2.1 ∧ aE o.2.2.2.1 ≤ 5000) ?_ ?_
  case refine_2 =>
   intro K hK
   refine wz.G.r.z ?_
   refine aB rfl rfl (OG g6 t _ ⟨_, rfl, ht6⟩ bG gE) ?_
   rintro w7 g7 ⟨v, sv, y, m, z, rfl, hv, hvo, hvn, ez, hm, oN, pF⟩ fC
   obtain ⟨y1, y2, rfl, eD⟩ := hv.dQ
   obtain ⟨s1, s2, rfl, oL⟩ := ez.agg
   refine wz.a.a.a.z ?_
   refine aj rfl (fun nk => ?_)
   skip
   refine aj rfl (fun jf => ?_)
   refine wz.b.q.B.z ?_; refine fF (own' := [_, _, _, _, _, _]) (.cons_cons _ (.cons _ (.cons _ (List.Sublist.refl _)))) ?_
   exact hK (g7, jf, m, z, s1, s2) _ ⟨fC, oL, uM, oN, uM⟩ ⟨rfl, rfl, rfl, rfl, rfl, rfl, rfl, rfl, trivial⟩
  rintro ⟨g7, jf, m, z, s1, s2⟩ ⟨lh, hz, hm, oN, pF⟩
  simp only at lh hz hm oN pF
  try dsimp only
  have Iv := hu.mono lh
  have DS := Ip.mono lh
  refine cD (ι := ab × Nat × Ty × Option Addr × Nat) (fun o => [(4, ptr b4 0), (5, ptr b5 0), (6, ptr b6 0), (7, cv), (8, .int .i64 nn), (9, .int .i64 i), (10, ptr bh 0), (14, ptr jf 0)]) (fun o => o.1) (fun o => [.ae jf 95 (.int .i64 o.2.1 :: aH o.2.2.1 (.slice o.2.2.2.1 o.2.2.1.args.length o.2.2.2.2)), .ae bh 49 [.int .i64 0, .bool rec, str n, .bool p, .int .i64 sg.kind, str sg.name, .int .i64 sg.id, .int .i64 sg.home, .slice sa sg.args.length sc, .int .i64 u.kind, .int .i64 u.pos, str u.name, .int .i64 u.num, .slice e1 f1 h1, .slice e2 f2 h2, .int .i64 u.ty.kind, str u.ty.name, .int .i64 u.ty.id, .int .i64 u.ty.home, .slice e3 f3 h3], .row 49 20 (.slice ra bs.length rc) bs.length xs, .ae b6 28 [.slice da ds.length dc, .slice ra bs.length rc], .ae b4 28 [.slice none 0 0, .slice none 0 0], c8 b5 lv j6]) (fun o => ab.le g7 o.1 ∧ bx o.1 o.2.2.1 (aH o.2.2.1 (.slice o.2.2.2.1 o.2.2.1.args.length o.2.2.2.2)) ∧ o.2.1 ≤ 5000 ∧ OK 0 o.2.1 false o.2.2.1 ∧ aE o.2.2.1 ≤ 5000) ?_ ?_
  case refine_2 =>
   intro K hK
   cases p with
   | true =>
    refine wz.d.j.o.b.a.h.AY.AY.AY.h.h.h.h.a.a.I.g.c.z ?_
    exact hK (g7, m, z, s1, s2) _ ⟨ab.le_refl _, hz, hm, oN, pF⟩ ⟨rfl, rfl, rfl, rfl, rfl, rfl, rfl, rfl, trivial⟩
   | false =>
    refine wz.k.O.k.g.k.a.a.I.g.c.z ?_
    refine aB rfl rfl (DO g7 _ u 10 oM ⟨_, rfl, Iv⟩) ?_
    rintro w8 g8 ⟨z1, rfl⟩ fh
    cases z1 with
    | true =>
     refine wz.r.t.b.a.u.h.h.h.u.z ?_
     refine aB rfl rfl (qN g8) ?_
     rintro Ik g20 tT tU
     obtain ⟨i20, Il, rfl, tV⟩ := tT.dQ
     skip
     refine aB rfl rfl (rk g20 fL _ ⟨_, rfl, tV⟩) ?_
     rintro Im g21 ⟨rfl, tW⟩ _
     obtain ⟨s3, s4, rfl, tX⟩ := tW.agg
     refine wz.b.q.z ?_
     exact hK (g21, 0, fL, s3, s4) _ ⟨ab.le_trans fh tU, tX, Nat.zero_le _, ok_int, by simp [fL, bJ, aE, bM]⟩ ⟨rfl, rfl, rfl, rfl, rfl, rfl, rfl, rfl, trivial⟩
    | false =>
     refine wz.k.O.k.g.k.u.z ?_
     refine aB rfl rfl (DO g8 _ u 11 oM ⟨_, rfl, Iv.mono fh⟩) ?_
     rintro w9 g9 ⟨z1, rfl⟩ gQ
     cases z1 with
     | true =>
      refine wz.r.t.b.a.u.z ?_
      refine aB rfl rfl (qN g9) ?_
      rintro Ik g20 tT tU
      obtain ⟨i20, Il, rfl, tV⟩ := tT.dQ
      skip
      refine aB rfl rfl (rk g20 fL _ ⟨_, rfl, tV⟩) ?_
      rintro Im g21 ⟨rfl, tW⟩ _
      obtain ⟨s3, s4, rfl, tX⟩ := tW.agg
      refine wz.b.q.z ?_
      exact hK (g21, 0, fL, s3, s4) _ ⟨ab.le_trans fh (ab.le_trans gQ tU), tX, Nat.zero_le _, ok_int, by simp [fL, bJ, aE, bM]⟩ ⟨rfl, rfl, rfl, rfl, rfl, rfl, rfl, rfl, trivial⟩
     | false =>
      refine wz.d.j.o.b.a.u.z ?_
      exact hK (g9, m, z, s1, s2) _ ⟨ab.le_trans fh gQ, (hz.mono fh).mono gQ, hm, oN, pF⟩ ⟨rfl, rfl, rfl, rfl, rfl, rfl, rfl, rfl, trivial⟩
  clear hz hm oN pF s1 s2 z m
  rintro ⟨g8, m, z, s1, s2⟩ ⟨yF, hz, hm, oN, pF⟩
  simp only at yF hz hm oN pF
  try dsimp only
  have hu8 := Iv.mono yF
  have rC := DS.mono yF
  refine wz.G.I.g.a.c.z ?_
  refine aB rfl rfl (vx g8 ctx cv _ n m z rC.x ⟨_, rfl, hz⟩ oM) ?_
  rintro w9 g9 yD gQ
  refine wz.O.AN.g.r.b.a.z ?_
  refine bu rfl rfl rL rL rL rL rL (fun y0 => ?_)
  refine cV 3 0 rfl rfl rfl rfl rfl rL rL rfl mL oM (fun v' _ => ?_)
  refine yx 3 rfl ?_
  rintro ⟨z1, z3, rfl⟩
  refine fF (own' := [_, _, _, _]) sC ?_; refine wz.b.a.E.a.r.d.y.N.Ah.g.z ?_
  have Qk := ab.le_trans jP (ab.le_trans Iu (ab.le_trans ju (ab.le_trans oC (ab.le_trans tQ (ab.le_trans lh (ab.le_trans yF gQ))))))
  have aA4 := ((((oc.mono oC).mono tQ).mono lh).mono yF).mono gQ
  refine aM (i + 1, g9, j6, ctx ++ [⟨n, m, z⟩], w9, bs ++ [⟨0, rec, n, p, sg, u⟩], _, z1, z3) ⟨uM, uM, ab.le_trans Qi Qk, Qj, yD, by simp only [List.length_append, List.length_singleton]; omega, fun e he => ?_, by simp only [List.length_append, List.length_singleton]; omega, aL.snoc ⟨_, _, rfl, aA4, hu8.mono gQ⟩ (ql Qk Is), fun b hb => ?_⟩ uM ⟨rfl, rfl, rfl, rfl, rfl, rfl, trivial⟩ rfl ?_
  ·rcases List.mem_append.1 he with he | he
   ·exact rA e he
   ·rw [List.mem_singleton.1 he]; exact ⟨⟨oN, pF, hm⟩, l8, tw⟩
  ·rcases List.mem_append.1 hb with hb | hb
   ·exact It b hb
   ·rw [List.mem_singleton.1 hb]; exact ⟨l8, tw, fun hp => by rw [show (⟨0, rec, n, p, sg, u⟩ : Bi).sig = t from qd hp]; exact ⟨gE, bG⟩, lQ, gu, su⟩
  ·simp only [List.length_append, List.length_singleton]
   rfl
 ·refine bg (fun g2 aD bj => ?_)
  obtain ⟨xd, gm, jO⟩ := (DU.mono aD).m
  refine wz.i.b.B.G.c.d.D.m.m.C.z ?_
  exact bp [] rfl (ay 1 rfl rfl rL) sZ ⟨⟨⟨ds, bs⟩, ⟨_, rfl, _, xd, _, xs, rfl, gm, jO, bj, ql aD Is⟩, nj, rB, uM, It⟩, rfl⟩
end Go.Proofs.YtlnjfkfojkgiiaaGreatDoor
namespace Go.Th
def setBody (a : Ar) (b : Ex) : Ar := .mk a.pos a.bQ a.vars b
def t_ (e : Ex) (l : List Ex) : Ex := .mk e.kind e.pos e.name e.num (l.take e.kids.length) (List.zipWith setBody e.aK (l.drop e.kids.length)) e.ty
def ud : List Ar → Nat
 | [] => 0
 | a :: r => 1 + a.vars.length + ud r
theorem Iw : ∀ x y : List Ex, cd (x ++ y) = cd x + cd y
 | [], y => by simp [cd]
 | a :: x, y => by simp only [List.cons_append, cd, Iw x y]; omega
theorem Ql : ∀ (az : List Ar) (l : List Ex), l.length = az.length → bZ (List.zipWith setBody az l) = ud az + cd l
 | [], [], _ => rfl
 | a :: az, b :: l, h => by
  have := Ql az l (by simpa using h)
  obtain ⟨p, c, vs, b0⟩ := a
  simp only [List.zipWith_cons_cons, bZ, setBody, hY, ud, cd, this, Ar.vars]
  omega
 | [], b :: l, h => by cases h
 | a :: az, [], h => by cases h
theorem Qm : ∀ az : List Ar, bZ az = ud az + cd (az.map Ar.body)
 | [] => rfl
 | a :: az => by
  obtain ⟨p, c, vs, b0⟩ := a
  simp only [bZ, hY, ud, List.map_cons, cd, Qm az, Ar.vars, Ar.body]
  omega
theorem aA5 (e : Ex) : aN e = 1 + cd (aY e) + ud e.aK := by
 obtain ⟨k, p, n, m, ks, az, t⟩ := e
 simp only [aN, aY, Ex.kids, Ex.aK, Iw, Qm]
 omega
theorem aA6 {e : Ex} {l : List Ex} (h : l.length = (aY e).length) : aN (t_ e l) = 1 + cd l + ud e.aK := by
 have h1 : (aY e).length = e.kids.length + e.aK.length := by simp [aY]
 have h2 := Ql e.aK (l.drop e.kids.length) nM
 have h3 := Iw (l.take e.kids.length) (l.drop e.kids.length)
 rw [List.take_append_drop] at h3
 simp only [t_, aN, h2]
 omega
theorem Ix : ∀ {az : List Ar} {l : List Ex} {a : Ar}, a ∈ List.zipWith setBody az l → ∃ a0 ∈ az, ∃ b ∈ l, a = setBody a0 b
 | [], _, _, h => by simp at h
 | _ :: _, [], _, h => by simp at h
 | a0 :: az, b :: l, a, h => by
  rw [List.zipWith_cons_cons] at h
  rcases List.mem_cons.1 h with rfl | h
  ·exact ⟨a0, List.mem_cons_self .., b, List.mem_cons_self .., rfl⟩
  ·obtain ⟨a1, h1, b1, h2, e⟩ := Ix h
   exact ⟨a1, List.mem_cons_of_mem _ h1, b1, List.mem_cons_of_mem _ h2, e⟩
theorem GE.with {e : Ex} (h : GE e) {l : List Ex} (hl : l.length = (aY e).length) (hx : ∀ x ∈ l, GE x) : GE (t_ e l) := by
 cases h with
 | var p n h kB =>
  obtain rfl : l = [] := List.length_eq_zero_iff.1 hl
  exact .var p n h kB
 | bQ p n h kB =>
  obtain rfl : l = [] := List.length_eq_zero_iff.1 hl
  exact .bQ p n h kB
 | int p m h =>
  obtain rfl : l = [] := List.length_eq_zero_iff.1 hl
  exact .int p m h
 | hole p =>
  obtain rfl : l = [] := List.length_eq_zero_iff.1 hl
  exact .hole p
 | lam p n b h kB hb =>
  match l, hl with
  | [x], _ => exact .lam p n x h kB (hx x sM)
 | app p f a hf ha =>
  match l, hl with
  | [x, y], _ => exact .app p x y (hx x sM) (hx y sM)
 | bind k p n a b hk h kB ha hb =>
  match l, hl with
  | [x, y], _ => exact .bind k p n x y hk h kB (hx x sM) (hx y sM)
 | iY p e t he ht hs =>
  match l, hl with
  | [x], _ => exact .iY p x t (hx x sM) ht hs
 | held p e he =>
  match l, hl with
  | [x], _ => exact .held p x (hx x sM)
 | case p e az he hne hc ha =>
  have nX : l.length = 1 + az.length := by rw [hl]; simp [aY, eS, Ex.kids, Ex.aK]; omega
  match l, nX with
  | x :: r, nX =>
   have hr : r.length = az.length := by simp only [List.length_cons] at nX; omega
   refine .case p x (List.zipWith setBody az r) (hx x sM) (fun h0 => hne ?_) (fun a ha => ?_) (fun a ha => ?_)
   ·have := congrArg List.length h0
    simp only [List.length_zipWith, List.length_nil] at this
    exact List.length_eq_zero_iff.1 oM
   ·obtain ⟨a0, h1, b, h2, rfl⟩ := Ix ha
    exact hc a0 h1
   ·obtain ⟨a0, h1, b, h2, rfl⟩ := Ix ha
    exact hx b (List.mem_cons_of_mem _ h2)
  | [], nX => simp at nX; omega
end Go.Th
namespace Go.Proofs.YtlnjfkfojkgiiaaGreatDoor
theorem aA7 (g : ab) (v : Value) (e : Ex) (hv : cT g v e) (bN : aN e ≤ 1000000) : aZ.Spec prog 51 [v] g [] fun w g' own' => g' = g ∧ ∃ xs, own' = [.row 47 11 w (aY e).length xs] ∧ dp g (aY e) xs := by
 obtain ⟨a1, c1, a2, c2, a3, m3, c3, xk, xa, rfl, h1, h2, h3, h4, h5⟩ := hv.open
 have hlen := my e
 have gk : (aY e).length = e.kids.length + e.aK.length := by simp [aY]
 refine aw func51 rfl ntmps51 rfl fun E hE => ?_
 refine aS ?_
 refine aP rfl rfl rfl (fun b1 => ?_)
 refine wz.Ci.v.g.c.b.a.z ?_
 refine jr 0 rfl rfl rfl rfl h1 rL rL (zj h2).2 mL oM (fun v' _ => ?_)
 rw [Nat.zero_add]
 refine wz.p.b.a.c.e.b.a.z ?_
 refine aX (ι := Nat × Value × List Value) (fun p => [(1, ptr b1 0), (3, p.2.1), (4, .int .i64 p.1)]) (fun _ => g) (fun p => [.row 47 11 p.2.1 (e.kids.length + p.1) p.2.2, .ae b1 47 [.int .i64 e.kind, .int .i64 e.pos, str e.name, .int .i64 e.num, .slice a1 e.kids.length c1, .slice a2 e.aK.length c2, .int .i64 e.ty.kind, str e.ty.name, .int .i64 e.ty.id, .int .i64 e.ty.home, .slice a3 m3 c3]])
  (fun p => p.1 ≤ e.aK.length ∧ dp g (e.kids ++ (e.aK.take p.1).map Ar.body) p.2.2) (fun p => e.aK.length - p.1) (0, v', xk) ⟨Nat.zero_le _, by simpa using h2⟩ ⟨rfl, rfl, rfl, trivial⟩ rfl sM ?_
 rintro ⟨i, sv, xs⟩ ⟨hi, hx⟩
 simp only at hi hx
 try dsimp only
 refine wz.b.a.A.I.g.a.c.e.z ?_
 refine an rfl (fun hlt => ?_) (fun hlt => ?_)
 ·have af : i < e.aK.length := by omega
  obtain ⟨b, off, cap, aq, iX⟩ := h3.held af
  cases aq
  obtain ⟨fG, bc, _, eL, hr⟩ := zn (own := [.row 47 11 sv (e.kids.length + i) xs, .ae b1 47 [.int .i64 e.kind, .int .i64 e.pos, str e.name, .int .i64 e.num, .slice a1 e.kids.length c1, .slice (some ⟨b, off, none⟩) e.aK.length c2, .int .i64 e.ty.kind, str e.ty.name, .int .i64 e.ty.id, .int .i64 e.ty.home, .slice a3 m3 c3]]) h4 iX af
  obtain ⟨d1, n1, o1, d2, n2, o2, d3, n3, o3, yk, ya, rfl, _⟩ := eL.form
  refine wz.g.M.a.I.g.a.r.p.e.d.j.z ?_; refine eY rfl rfl hr.EW rfl ?_
  refine bu rfl rfl rL rL rL rL rL (fun zo => ?_)
  refine cV 1 0 rfl rfl rfl rfl rfl rL rL rfl mL oM (fun w' _ => ?_)
  refine wz.b.a.E.a.r.d.y.N.a.Bi.z ?_
  refine aM (i + 1, w', xs ++ [.int .i64 e.aK[i].body.kind, .int .i64 e.aK[i].body.pos, str e.aK[i].body.name, .int .i64 e.aK[i].body.num, .slice d1 n1 o1, .slice d2 n2 o2, .int .i64 e.aK[i].body.ty.kind, str e.aK[i].body.ty.name, .int .i64 e.aK[i].body.ty.id, .int .i64 e.aK[i].body.ty.home, .slice d3 n3 o3]) ⟨af, ?_⟩ uM ⟨rfl, rfl, rfl, trivial⟩ rfl ?_
  ·simp only
   rw [ET af, List.map_append, ← List.append_assoc]
   exact EU hx eL
  ·simp [dO, Nat.add_assoc]
 ·have dw : i = e.aK.length := by omega
  subst dw
  rw [List.take_length] at hx
  refine wz.i.b.a.a.c.d.D.m.m.C.z ?_
  exact ao [_] rfl rfl (.cons_cons _ sZ) ⟨rfl, xs, by rw [gk], hx⟩
end Go.Proofs.YtlnjfkfojkgiiaaGreatDoor

/- Unification: the walks of typedholesref17.unify and Unify. -/
import Derived.Test.YtlnjfkfojkgiiaaGreatDoorK25
open Go Go.aZ Go.Th Go.Proofs Tryz
set_option maxRecDepth 10000
set_option maxHeartbeats 4000000
attribute [local irreducible] wpList Code.wp ah bodyPost Go.aZ.Ends Exit.then Exit.inBlock dJ Wq Kq
namespace Go.Th
theorem Y8 {S S' : List aW} {m m' k μ i : Nat} {l y : Ty} (hX : gP S m S' m') (hy : gr S l y) (O8 : aE y ≤ k) (hμ : gO S * 201 + k < μ + 1) (hi : i < (walk S l).args.length) :
  ∃ k', (∀ z, gr S' (walk S l).args[i] z → aE z ≤ 200 → aE z ≤ k') ∧ gO S' * 201 + k' < μ := by
 rcases hX.DD with h | h
 ·obtain ⟨e, ha⟩ := mj.1 (pA.1 hy).2
  have dR : i < y.args.length := by omega
  have hn := mN (List.getElem_mem dR)
  have oF := jA y
  refine ⟨k - 1, fun z hz _ => ?_, ?_⟩
  ·rw [Hp _ _ _ (h.res _ _ hz) (ha i hi dR)]; omega
  ·rw [h.gO]; omega
 ·exact ⟨200, fun z _ h => h, oM⟩
end Go.Th
namespace Go.Proofs.YtlnjfkfojkgiiaaGreatDoor
def HE (μ : Nat) : Prop := ∀ (g : ab) (S : List aW) (m k : Nat) (v u w : Value) (l r : Ty), fu S → S.length ≤ 100000 → m + 2 * gO S ≤ 800000 → eJ g v S m → aQ g u l → aQ g w r → OK S.length 0 false l → OK S.length 0 false r →
  (∀ y, gr S l y → aE y ≤ 200 → aE y ≤ k) → gO S * 201 + k < μ → bK prog 226 [v, u, w] g fun x g' => yf g' x S m
theorem yi {S : List aW} {t : Ty} (h : OK S.length 0 false t) : decide (t.kind = 1 ∧ 0 ≤ t.id ∧ t.id < S.length) = decide (t.kind = 1) := by
 by_cases hk : t.kind = 1
 ·rw [decide_eq_true hk, decide_eq_true]
  rcases iT (lU h) with h | h | h | h | h
  ·exact ⟨hk, h.2.1, h.2.2.1⟩
  all_goals omega
 ·rw [decide_eq_false hk, decide_eq_false (fun h => hk h.1)]
theorem O9 (g : ab) (S : List aW) (hS : fu S) (hN : S.length ≤ 100000) (m : Nat) (hm : m ≤ 900000) (v u : Value) (p t : Ty) (hv : eJ g v S m) (hu : aQ g u t) (hp : OK S.length 0 false p) (zX : p.kind = 1) (hb : dG S p = false) (bW : OK S.length 0 false t) (hk : t.kind ≠ 1) :
  bK prog 236 [v, .int .i64 p.id, u] g fun x g' => yf g' x S m := by
 have h0 : 0 ≤ p.id ∧ p.id < S.length := by rcases iT (lU hp) with h | h | h | h | h <;> omega
 have e : p.id = (p.id.toNat : Int) := by omega
 rw [xV zX h0.1 oM] at hb
 have := Y5 g S hS hN m hm v u p.id.toNat t hv hu oM hb bW hk
 rwa [← e] at this
theorem Y9 (μ : Nat) (ih : HE μ) : HE (μ + 1) := by
 intro g S m k v u w l r hS hN hm hv hu hw DF Y_ hk hμ
 obtain ⟨a, c, a', c', xs, ys, rfl, h1, h2, h3, h4⟩ := id hv
 obtain ⟨la, lm, lc, rfl, h5⟩ := hu.bA
 obtain ⟨ra, rm, rc, rfl, h6⟩ := hw.bA
 refine aw func226 rfl ntmps226 rfl fun E hE => ?_
 refine aS ?_
 refine aP rfl rfl rfl (fun b3 => ?_)
 skip
 refine aP rfl rfl rfl (fun b4 => ?_)
 skip
 refine aP rfl rfl rfl (fun b5 => ?_)
 skip
 refine aj rfl (fun b6 => ?_)
 refine wz.Af.Y.c.e.b.a.z ?_
 refine aB rfl rfl (Dx g S hN m _ _ l 200 oM hv ⟨_, rfl, h5⟩) ?_
 rintro w1 g1 ⟨rfl, n1, rfl, z1⟩ _
 obtain ⟨NM, z12, vq⟩ := z1
 refine wz.a.a.z ?_
 refine bw rfl rfl (fun gE => ?_) (fun gE => ?_)
 ·refine wz.l.i.b.a.q.Y.c.t.b.a.h.h.h.h.z ?_
  exact cB [] rfl (ay 0 rfl rfl rL) (.tmp rfl) sZ ⟨⟨_, _, rfl, S, m, hv, gP.refl hS⟩, rfl⟩
 ·refine wz.k.O.k.Y.k.z ?_
  refine aB rfl rfl (Dx g1 S hN m _ _ r 200 oM hv ⟨_, rfl, h6⟩) ?_
  rintro w2 g2 ⟨rfl, n2, rfl, z2⟩ _
  refine wz.b.a.u.z ?_
  refine an rfl (fun Za => ?_) (fun Za => ?_)
  ·refine wz.l.i.b.a.q.Y.c.z ?_
   exact cB [] rfl (ay 0 rfl rfl rL) (.tmp rfl) sZ ⟨⟨_, _, rfl, S, m, hv, gP.refl hS⟩, rfl⟩
  ·obtain ⟨y, hy, pB⟩ := z12 oM
   have O8 := hk y hy oM
   refine wz.d.j.z ?_
   refine cD (ι := Nat × Nat × Value × Value) (fun o => [(3, ptr b3 0), (6, ptr b6 0), (7, .int .i64 0), (8, ptr o.1 0), (9, ptr o.2.1 0)]) (fun _ => g2) (fun o => [.ae o.2.1 41 (aH (walk S r) o.2.2.2), .ae o.1 41 (aH (walk S l) o.2.2.1), .ae b6 215 [.slice none 0 0, .slice none 0 0], .ae b3 215 [.slice a S.length c, .slice a' m c']]) (fun o => bx g2 (walk S l) (aH (walk S l) o.2.2.1) ∧ bx g2 (walk S r) (aH (walk S r) o.2.2.2)) ?_ ?_
   case refine_2 =>
    intro K hK
    skip
    refine bO [] mixed (fun hG => ?_)
    refine wz.P.z ?_; refine ⟨_, (bP 3 rfl rfl rL), ?_⟩; refine wz.R.z ?_; refine ⟨_, (bP 2 rfl rfl rL), ?_⟩
    refine wz.X.z ?_; refine ⟨_, (bP 3 rfl rfl rL), ?_⟩; refine wz.Z.z ?_; refine ⟨_, (bP 1 rfl rfl rL), ?_⟩
    refine qY 2 6 7 kR rfl rfl rfl ?_ ?_ ?_
    ·refine aB rfl rfl (jm g2 S oM m _ _ l hv ⟨_, rfl, h5⟩) ?_
     rintro x1 g3 ⟨rfl, s1, rfl, k1⟩ _
     obtain ⟨wa, wc, rfl⟩ := k1.slice
     refine wz.f.b.z ?_
     refine qY 5 6 7 kR rfl rfl rfl ?_ ?_ ?_
     ·refine aB rfl rfl (jm _ S oM m _ _ r hv ⟨_, rfl, h6⟩) ?_
      rintro x2 g4 ⟨rfl, s2, rfl, k2⟩ _
      obtain ⟨ua, uc, rfl⟩ := k2.slice
      refine wz.f.b.z ?_
      refine eH 6 7 kR rfl rfl ?_ ?_
      ·refine aj rfl (fun b8 => ?_)
       refine wz.AM.f.b.z ?_
       refine aj rfl (fun b9 => ?_)
       refine wz.Bg.d.F.f.b.q.Ai.f.b.B.Ae.f.b.z ?_
       exact hK (b8, b9, _, _) _ ⟨k1, k2⟩ ⟨rfl, rfl, rfl, rfl, rfl, trivial⟩
      ·refine aj rfl (fun b9 => ?_)
       refine wz.Ao.f.b.z ?_
       refine aj rfl (fun b8 => ?_)
       refine wz.Bg.BV.d.F.f.b.B.Ai.f.b.q.Ae.f.b.z ?_
       exact hK (b8, b9, _, _) _ ⟨k1, k2⟩ ⟨rfl, rfl, rfl, rfl, rfl, trivial⟩
     ·refine aj rfl (fun b8 => ?_)
      refine wz.f.b.z ?_
      refine eH 5 7 kR rfl rfl ?_ ?_
      ·refine aB rfl rfl (jm _ S oM m _ _ r hv ⟨_, rfl, h6⟩) ?_
       rintro x2 g4 ⟨rfl, s2, rfl, k2⟩ _
       obtain ⟨ua, uc, rfl⟩ := k2.slice
       refine wz.AM.f.b.z ?_
       refine aj rfl (fun b9 => ?_)
       refine wz.Bg.d.F.f.b.q.Ai.f.b.B.Ae.f.b.z ?_
       exact hK (b8, b9, _, _) _ ⟨k1, k2⟩ ⟨rfl, rfl, rfl, rfl, rfl, trivial⟩
      ·refine aj rfl (fun b9 => ?_)
       refine wz.Aq.f.b.z ?_
       refine aB rfl rfl (jm _ S oM m _ _ r hv ⟨_, rfl, h6⟩) ?_
       rintro x2 g4 ⟨rfl, s2, rfl, k2⟩ _
       obtain ⟨ua, uc, rfl⟩ := k2.slice
       refine wz.Bg.d.F.f.b.q.Ai.f.b.B.Ae.f.b.z ?_
       exact hK (b8, b9, _, _) _ ⟨k1, k2⟩ ⟨rfl, rfl, rfl, rfl, rfl, trivial⟩
     ·refine aj rfl (fun b9 => ?_)
      refine wz.f.b.z ?_
      refine eH 5 6 kR rfl rfl ?_ ?_
      ·refine aB rfl rfl (jm _ S oM m _ _ r hv ⟨_, rfl, h6⟩) ?_
       rintro x2 g4 ⟨rfl, s2, rfl, k2⟩ _
       obtain ⟨ua, uc, rfl⟩ := k2.slice
       refine wz.Ao.f.b.z ?_
       refine aj rfl (fun b8 => ?_)
       refine wz.Bg.BV.d.F.f.b.B.Ai.f.b.q.Ae.f.b.z ?_
       exact hK (b8, b9, _, _) _ ⟨k1, k2⟩ ⟨rfl, rfl, rfl, rfl, rfl, trivial⟩
      ·refine aj rfl (fun b8 => ?_)
       refine wz.Aq.f.b.z ?_
       refine aB rfl rfl (jm _ S oM m _ _ r hv ⟨_, rfl, h6⟩) ?_
       rintro x2 g4 ⟨rfl, s2, rfl, k2⟩ _
       obtain ⟨ua, uc, rfl⟩ := k2.slice
       refine wz.Bg.BV.d.F.f.b.B.Ai.f.b.q.Ae.f.b.z ?_
       exact hK (b8, b9, _, _) _ ⟨k1, k2⟩ ⟨rfl, rfl, rfl, rfl, rfl, trivial⟩
    ·refine aj rfl (fun b8 => ?_)
     refine wz.f.b.z ?_
     refine eH 2 7 kR rfl rfl ?_ ?_
     ·refine aB rfl rfl (jm g2 S oM m _ _ l hv ⟨_, rfl, h5⟩) ?_
      rintro x1 g3 ⟨rfl, s1, rfl, k1⟩ _
      obtain ⟨wa, wc, rfl⟩ := k1.slice
      refine wz.f.b.z ?_
      refine eH 5 7 kR rfl rfl ?_ ?_
      ·refine aB rfl rfl (jm _ S oM m _ _ r hv ⟨_, rfl, h6⟩) ?_
       rintro x2 g4 ⟨rfl, s2, rfl, k2⟩ _
       obtain ⟨ua, uc, rfl⟩ := k2.slice
       refine wz.AM.f.b.z ?_
       refine aj rfl (fun b9 => ?_)
       refine wz.Bg.d.F.f.b.q.Ai.f.b.B.Ae.f.b.z ?_
       exact hK (b8, b9, _, _) _ ⟨k1, k2⟩ ⟨rfl, rfl, rfl, rfl, rfl, trivial⟩
      ·refine aj rfl (fun b9 => ?_)
       refine wz.Aq.f.b.z ?_
       refine aB rfl rfl (jm _ S oM m _ _ r hv ⟨_, rfl, h6⟩) ?_
       rintro x2 g4 ⟨rfl, s2, rfl, k2⟩ _
       obtain ⟨ua, uc, rfl⟩ := k2.slice
       refine wz.Bg.d.F.f.b.q.Ai.f.b.B.Ae.f.b.z ?_
       exact hK (b8, b9, _, _) _ ⟨k1, k2⟩ ⟨rfl, rfl, rfl, rfl, rfl, trivial⟩
     ·refine aj rfl (fun b9 => ?_)
      refine wz.AL.f.b.z ?_
      refine aB rfl rfl (jm g2 S oM m _ _ l hv ⟨_, rfl, h5⟩) ?_
      rintro x1 g3 ⟨rfl, s1, rfl, k1⟩ _
      obtain ⟨wa, wc, rfl⟩ := k1.slice
      refine wz.Aq.f.b.z ?_
      refine aB rfl rfl (jm _ S oM m _ _ r hv ⟨_, rfl, h6⟩) ?_
      rintro x2 g4 ⟨rfl, s2, rfl, k2⟩ _
      obtain ⟨ua, uc, rfl⟩ := k2.slice
      refine wz.Bg.d.F.f.b.q.Ai.f.b.B.Ae.f.b.z ?_
      exact hK (b8, b9, _, _) _ ⟨k1, k2⟩ ⟨rfl, rfl, rfl, rfl, rfl, trivial⟩
    ·refine aj rfl (fun b9 => ?_)
     refine wz.f.b.z ?_
     refine eH 2 6 kR rfl rfl ?_ ?_
     ·refine aB rfl rfl (jm g2 S oM m _ _ l hv ⟨_, rfl, h5⟩) ?_
      rintro x1 g3 ⟨rfl, s1, rfl, k1⟩ _
      obtain ⟨wa, wc, rfl⟩ := k1.slice
      refine wz.f.b.z ?_
      refine eH 5 6 kR rfl rfl ?_ ?_
      ·refine aB rfl rfl (jm _ S oM m _ _ r hv ⟨_, rfl, h6⟩) ?_
       rintro x2 g4 ⟨rfl, s2, rfl, k2⟩ _
       obtain ⟨ua, uc, rfl⟩ := k2.slice
       refine wz.Ao.f.b.z ?_
       refine aj rfl (fun b8 => ?_)
       refine wz.Bg.BV.d.F.f.b.B.Ai.f.b.q.Ae.f.b.z ?_
       exact hK (b8, b9, _, _) _ ⟨k1, k2⟩ ⟨rfl, rfl, rfl, rfl, rfl, trivial⟩
      ·refine aj rfl (fun b8 => ?_)
       refine wz.Aq.f.b.z ?_
       refine aB rfl rfl (jm _ S oM m _ _ r hv ⟨_, rfl, h6⟩) ?_
       rintro x2 g4 ⟨rfl, s2, rfl, k2⟩ _
       obtain ⟨ua, uc, rfl⟩ := k2.slice
       refine wz.Bg.BV.d.F.f.b.B.Ai.f.b.q.Ae.f.b.z ?_
       exact hK (b8, b9, _, _) _ ⟨k1, k2⟩ ⟨rfl, rfl, rfl, rfl, rfl, trivial⟩
     ·refine aj rfl (fun b8 => ?_)
      refine wz.AL.f.b.z ?_
      refine aB rfl rfl (jm g2 S oM m _ _ l hv ⟨_, rfl, h5⟩) ?_
      rintro x1 g3 ⟨rfl, s1, rfl, k1⟩ _
      obtain ⟨wa, wc, rfl⟩ := k1.slice
      refine wz.Aq.f.b.z ?_
      refine aB rfl rfl (jm _ S oM m _ _ r hv ⟨_, rfl, h6⟩) ?_
      rintro x2 g4 ⟨rfl, s2, rfl, k2⟩ _
      obtain ⟨ua, uc, rfl⟩ := k2.slice
      refine wz.Bg.BV.d.F.f.b.B.Ai.f.b.q.Ae.f.b.z ?_
      exact hK (b8, b9, _, _) _ ⟨k1, k2⟩ ⟨rfl, rfl, rfl, rfl, rfl, trivial⟩
   rintro ⟨b8, b9, sl1, sl2⟩ ⟨k1, k2⟩
   simp only at k1 k2
   obtain ⟨wa, wc, rfl⟩ := k1.slice
   obtain ⟨ua, uc, rfl⟩ := k2.slice
   try dsimp only
   have wl := vA hS DF
   have wr := vA hS Y_
   have O_ : ∀ p : Ty, OK S.length 0 false p → p.kind = 1 → p.kind = 1 ∧ 0 ≤ p.id ∧ p.id < S.length := fun p hp hk => by rcases iT (lU hp) with h | h | h | h | h <;> omega
   refine wz.O.Y.c.p.e.z ?_
   refine aO rfl rfl (xW g2 S m _ _ (walk S l) hv ⟨_, rfl, k1⟩) ?_
   rw [yi wl.2]
   by_cases dj : (walk S l).kind = 1
   ·rw [decide_eq_true dj]
    refine wz.k.G.k.Y.k.a.z ?_
    refine aO rfl rfl (xW g2 S m _ _ (walk S r) hv ⟨_, rfl, k2⟩) ?_
    rw [yi wr.2]
    by_cases rp : (walk S r).kind = 1
    ·rw [decide_eq_true rp]
     refine wz.G.O.Y.c.t.b.a.a.z ?_
     refine aB rfl rfl (Y2 g2 S hS hN m oM _ _ _ _ _ hv ⟨_, rfl, k1⟩ ⟨_, rfl, k2⟩ (O_ _ wl.2 dj) (O_ _ wr.2 rp) wl.1 wr.1) ?_
     rintro x3 g3 hU _
     obtain ⟨S', m', eD, hX⟩ := id hU
     obtain ⟨a1, c1, a2, c2, tJ, tK, rfl, _⟩ := id eD
     refine wz.l.x.i.b.a.V.z ?_
     exact cB [] rfl (ay 2 rfl rfl rL) (.tmp rfl) sZ ⟨⟨_, _, rfl, hU⟩, rfl⟩
    ·rw [decide_eq_false rp]
     refine wz.O.Y.c.o.b.a.a.z ?_
     refine aO rfl rfl (xW g2 S m _ _ (walk S l) hv ⟨_, rfl, k1⟩) ?_
     rw [yi wl.2, decide_eq_true dj]
     refine wz.G.I.g.Y.c.t.b.a.z ?_
     refine aB rfl rfl (O9 g2 S hS hN m oM _ _ _ _ hv ⟨_, rfl, k2⟩ wl.2 dj wl.1 wr.2 rp) ?_
     rintro x3 g3 ⟨sv, e, rfl, hU⟩ _
     obtain ⟨S', m', eD, hX⟩ := id hU
     obtain ⟨a1, c1, a2, c2, tJ, tK, rfl, _⟩ := id eD
     refine wz.l.x.i.b.a.V.a.a.z ?_
     exact cB [] rfl (ay 2 rfl rfl rL) (.tmp rfl) sZ ⟨⟨_, _, rfl, hU⟩, rfl⟩
   ·rw [decide_eq_false dj]
    refine wz.O.Y.c.o.b.a.a.h.h.h.a.z ?_
    refine aO rfl rfl (xW g2 S m _ _ (walk S l) hv ⟨_, rfl, k1⟩) ?_
    rw [yi wl.2, decide_eq_false dj]
    refine wz.G.Y.c.o.b.a.z ?_
    refine aO rfl rfl (xW g2 S m _ _ (walk S r) hv ⟨_, rfl, k2⟩) ?_
    rw [yi wr.2]
    by_cases rp : (walk S r).kind = 1
    ·rw [decide_eq_true rp]
     refine wz.O.v.g.Y.c.t.b.a.z ?_
     refine aB rfl rfl (O9 g2 S hS hN m oM _ _ _ _ hv ⟨_, rfl, k1⟩ wr.2 rp wr.1 wl.2 dj) ?_
     rintro x3 g3 ⟨sv, e, rfl, hU⟩ _
     obtain ⟨S', m', eD, hX⟩ := id hU
     obtain ⟨a1, c1, a2, c2, tJ, tK, rfl, _⟩ := id eD
     refine wz.l.x.i.b.a.V.a.a.z ?_
     exact cB [] rfl (ay 2 rfl rfl rL) (.tmp rfl) sZ ⟨⟨_, _, rfl, hU⟩, rfl⟩
    ·rw [decide_eq_false rp]
     refine wz.a.a.v.g.I.g.c.o.b.a.z ?_
     refine bw rfl rfl (fun a0 => ?_) (fun a0 => ?_)
     ·refine wz.l.x.i.b.a.V.Y.c.t.b.a.a.h.h.h.h.h.h.h.a.a.h.h.h.h.h.a.a.h.h.h.h.h.a.a.h.h.h.h.h.z ?_
      exact cB [] rfl (ay 2 rfl rfl rL) (.tmp rfl) sZ ⟨⟨_, _, rfl, S, m, hv, gP.refl hS⟩, rfl⟩
     ·refine wz.a.a.u.v.k.g.k.I.k.g.k.z ?_
      refine bw rfl rfl (fun a1 => ?_) (fun a1 => ?_)
      ·refine wz.l.x.i.b.a.V.Y.c.t.b.a.a.h.h.h.h.h.h.h.a.a.h.h.h.h.h.a.a.h.h.h.h.h.z ?_
       exact cB [] rfl (ay 2 rfl rfl rL) (.tmp rfl) sZ ⟨⟨_, _, rfl, S, m, hv, gP.refl hS⟩, rfl⟩
      ·refine wz.a.a.u.v.k.g.k.I.k.g.k.z ?_
       refine bw rfl rfl (fun a2 => ?_) (fun a2 => ?_)
       ·refine wz.l.x.i.b.a.V.Y.c.t.b.a.a.h.h.h.h.h.h.h.a.a.h.h.h.h.h.z ?_
        exact cB [] rfl (ay 2 rfl rfl rL) (.tmp rfl) sZ ⟨⟨_, _, rfl, S, m, hv, gP.refl hS⟩, rfl⟩
       ·refine wz.a.a.u.v.k.g.k.I.k.g.k.z ?_
        refine bw rfl rfl (fun a3 => ?_) (fun a3 => ?_)
        ·refine wz.l.x.i.b.a.V.Y.c.t.b.a.a.h.h.h.h.h.h.h.z ?_
         exact cB [] rfl (ay 2 rfl rfl rL) (.tmp rfl) sZ ⟨⟨_, _, rfl, S, m, hv, gP.refl hS⟩, rfl⟩
        ·refine wz.b.a.a.u.A.k.v.k.g.k.A.k.I.k.g.k.z ?_
         refine an rfl (fun a4 => ?_) (fun a4 => ?_)
         ·refine wz.l.x.i.b.a.V.Y.c.z ?_
          exact cB [] rfl (ay 2 rfl rfl rL) (.tmp rfl) sZ ⟨⟨_, _, rfl, S, m, hv, gP.refl hS⟩, rfl⟩
         ·have hle : (walk S l).args.length = (walk S r).args.length := by omega
          refine wz.p.b.a.c.e.b.a.c.d.y.j.z ?_
          refine aX (ι := Nat × ab × List aW × Nat × Option Addr × Nat × Option Addr × Nat × Int) (fun o => [(3, ptr b3 0), (6, ptr b6 0), (8, ptr b8 0), (9, ptr b9 0), (10, .int .i64 o.2.2.2.2.2.2.2.2), (11, .int .i64 o.1)]) (fun o => o.2.1) (fun o => [.ae b9 41 (aH (walk S r) (.slice ua (walk S r).args.length uc)), .ae b8 41 (aH (walk S l) (.slice wa (walk S l).args.length wc)), .ae b6 215 [.slice none 0 0, .slice none 0 0], .ae b3 215 [.slice o.2.2.2.2.1 o.2.2.1.length o.2.2.2.2.2.1, .slice o.2.2.2.2.2.2.1 o.2.2.2.1 o.2.2.2.2.2.2.2.1]])
           (fun o => o.1 ≤ (walk S l).args.length ∧ ab.le g2 o.2.1 ∧ eJ o.2.1 (.agg #[.slice o.2.2.2.2.1 o.2.2.1.length o.2.2.2.2.2.1, .slice o.2.2.2.2.2.2.1 o.2.2.2.1 o.2.2.2.2.2.2.2.1]) o.2.2.1 o.2.2.2.1 ∧ gP S m o.2.2.1 o.2.2.2.1) (fun o => (walk S l).args.length - o.1) (0, g2, S, m, a, c, a', c', 0) ⟨Nat.zero_le _, ab.le_refl _, hv, gP.refl hS⟩ ⟨rfl, rfl, rfl, rfl, rfl, rfl, trivial⟩ rfl rfl ?_
          rintro ⟨i, q, S', m', z1, z2, z3, z4, e⟩ ⟨hi, hle, eD, hX⟩
          simp only at hi hle eD hX
          have c6 := hX.ok
          have hlen := hX.len
          have aE4 := hX.gj
          try dsimp only
          refine wz.a.a.A.I.g.a.c.e.z ?_
          refine bw rfl rfl (fun c1 => ?_) (fun c1 => ?_)
          ·have de : i < (walk S l).args.length := by omega
           have cL : i < (walk S r).args.length := by omega
           refine wz.b.a.u.u.z ?_
           refine an rfl (fun c2 => ?_) (fun c2 => ?_)
           ·obtain ⟨xl, y1, y2⟩ := (k1.mono hle).args
            obtain ⟨xr, y3, y4⟩ := (k2.mono hle).args
            have Zb := y1.le
            obtain ⟨bl, ol, cl, aq, kF⟩ := y1.held de
            cases aq
            obtain ⟨br, or', cr, HF, HG⟩ := y3.held cL
            cases HF
            obtain ⟨s1, t1, r1⟩ := eZ y2 kF de
            obtain ⟨s2, t2, r2⟩ := eZ y4 HG cL
            obtain ⟨k', c_, Zc⟩ := Y8 hX hy O8 hμ de
            have Zd : OK S'.length 0 false (walk S l).args[i] := by rw [hlen]; exact oB wl.2 _ (List.getElem_mem de)
            have Ze : OK S'.length 0 false (walk S r).args[i] := by rw [hlen]; exact oB wr.2 _ (List.getElem_mem cL)
            refine wz.p.e.d.j.z ?_
            refine bO [3] mixed (fun hG => ?_)
            refine wz.R.z ?_; refine ⟨_, (aI rfl), ?_⟩; refine wz.S.z ?_; refine ⟨_, (a7 1 rfl rfl rfl), ?_⟩; refine wz.X.z ?_; refine ⟨_, (ag rfl), ?_⟩
            refine bn 4 rfl kR rfl hG ⟨_, (bU (j := i) rfl rfl rfl de), ?_⟩
            refine bn 5 rfl kR rfl hG ⟨_, (dL rfl (r1 _) rfl), ?_⟩
            refine wz.Ak.z ?_; refine ⟨_, (aI rfl), ?_⟩; refine wz.Aa.z ?_; refine ⟨_, (a7 0 rfl rfl rfl), ?_⟩; refine wz.AV.z ?_; refine ⟨_, (ag rfl), ?_⟩
            refine bn 9 rfl kR rfl hG ⟨_, (bU (j := i) rfl rfl rfl cL), ?_⟩
            refine bn 10 rfl kR rfl hG ⟨_, (dL rfl (r2 _) rfl), ?_⟩
            refine wz.Bf.f.b.Y.CM.z ?_
            refine aB rfl rfl (ih q S' m' k' _ _ _ _ _ c6 oM oM eD ⟨_, rfl, t1⟩ ⟨_, rfl, t2⟩ Zd Ze c_ Zc) ?_
            rintro x3 g3 ⟨sv, e', rfl, Zf, Zg, Pb, Zh⟩ aF
            obtain ⟨v1, v2, v3, v4, tJ, tK, rfl, _⟩ := id Pb
            have xN := hX.trans Zh
            refine wz.Az.f.b.z ?_; refine ⟨_, (ag rfl), ?_⟩; refine wz.BJ.z ?_; refine ⟨_, (ag rfl), ?_⟩; refine wz.CX.z ?_; refine ⟨_, (ag rfl), ?_⟩
            refine wz.f.b.Au.At.z ?_; refine gL 16 kR rfl ?_; refine wz.b.a.E.a.r.d.y.F.f.b.a.z ?_
            exact aM (i + 1, g3, Zf, Zg, _, _, _, _, e') ⟨oM, ab.le_trans hle aF, Pb, xN⟩ uM ⟨rfl, rfl, rfl, rfl, rfl, rfl, trivial⟩ rfl rfl
           ·refine wz.i.b.a.V.a.Y.c.d.D.m.m.C.z ?_
            exact cB [] rfl (ay 2 rfl rfl rL) (.tmp rfl) sZ ⟨⟨_, _, rfl, S', m', eD, hX⟩, rfl⟩
          ·refine wz.i.b.a.V.a.Y.c.d.D.m.m.C.o.b.a.h.h.z ?_
           exact cB [] rfl (ay 2 rfl rfl rL) (.tmp rfl) sZ ⟨⟨_, _, rfl, S', m', eD, hX⟩, rfl⟩
theorem Pc : ∀ μ, HE μ
 | 0 => fun g S m k v u w l r _ _ _ _ _ _ _ _ _ h => by omega
 | μ + 1 => Y9 μ (Pc μ)
theorem Zi (g : ab) (S : List aW) (m : Nat) (v u w : Value) (l r : Ty) (hS : fu S) (hN : S.length ≤ 100000) (hm : m + 2 * gO S ≤ 800000) (hv : eJ g v S m) (hu : aQ g u l) (hw : aQ g w r) (hl : OK S.length 0 false l) (hr : OK S.length 0 false r) :
  bK prog 226 [v, u, w] g fun x g' => yf g' x S m :=
 Pc _ g S m 200 v u w l r hS hN hm hv hu hw hl hr (fun _ _ h => h) (Nat.lt_succ_self _)
theorem Zj (g : ab) (S : List aW) (m : Nat) (v u w : Value) (l r : Ty) (hS : fu S) (hN : S.length ≤ 100000) (hm : m + 2 * gO S ≤ 800000) (hv : eJ g v S m) (hu : aQ g u l) (hw : aQ g w r) (hl : OK S.length 0 false l) (hr : OK S.length 0 false r) :
  bK prog 214 [v, u, w] g fun x g' => yf g' x S m := by
 obtain ⟨a, c, a', c', xs, ys, rfl, h1, h2, h3, h4⟩ := id hv
 obtain ⟨la, lm, lc, rfl, h5⟩ := hu.bA
 obtain ⟨ra, rm, rc, rfl, h6⟩ := hw.bA
 refine aw func214 rfl ntmps214 rfl fun E hE => ?_
 refine aS ?_
 refine aP rfl rfl rfl (fun b3 => ?_)
 skip
 refine aP rfl rfl rfl (fun b4 => ?_)
 skip
 refine aP rfl rfl rfl (fun b5 => ?_)
 skip
 refine aj rfl (fun b6 => ?_)
 refine wz.O.Af.Y.c.b.a.z ?_
 refine aB rfl rfl (Zi g S m _ _ _ l r hS hN hm hv ⟨_, rfl, h5⟩ ⟨_, rfl, h6⟩ hl hr) ?_
 rintro x3 g3 ⟨sv, e, rfl, S', m', eD, hX⟩ hle
 obtain ⟨v1, v2, v3, v4, tJ, tK, rfl, _⟩ := id eD
 refine wz.a.a.a.z ?_
 refine aj rfl (fun b8 => ?_)
 refine wz.b.a.a.c.e.b.a.q.z ?_
 refine an rfl (fun c1 => ?_) (fun c1 => ?_)
 ·refine wz.l.i.b.a.B.a.Cf.c.z ?_
  exact cB [] rfl (ay 1 rfl rfl rL) (.tmp rfl) sZ ⟨⟨_, _, rfl, S, m, hv.mono hle, gP.refl hS⟩, rfl⟩
 ·refine wz.i.b.a.B.G.c.d.j.z ?_
  exact cB [] rfl (ay 1 rfl rfl rL) (.tmp rfl) sZ ⟨⟨_, _, rfl, S', m', eD, hX⟩, rfl⟩
theorem Pd {g : ab} : ∀ {l : List Ty} {xs : List Value}, aV g l xs → aL (bx g) l xs
 | [], xs, h => by unfold aV at h; exact h
 | a :: l, xs, h => by
  unfold aV at h
  obtain ⟨c, r, e, h1, h2⟩ := h
  exact ⟨c, r, e, h1, Pd h2⟩
theorem Pe {g : ab} : ∀ {l : List Ty} {xs : List Value}, aL (bx g) l xs → aV g l xs
 | [], xs, h => by unfold aV; exact h
 | a :: l, xs, ⟨c, r, e, h1, h2⟩ => by unfold aV; exact ⟨c, r, e, h1, Pe h2⟩
abbrev vD (ba bk : Nat) (xs : List Value) (kn : List Bool) : List aA := [.ae ba 41 xs, .ae bk 4 (kn.map .bool)]
def HH (g : ab) (ba bk N B K : Nat) : Prop := ∀ (u w : Value) (p t : Ty) (az : List Ty) (xs : List Value) (kn : List Bool), aE p < K → aQ g u p → aQ g w t → OK 0 B false p → az.length = N → kn.length = N → aV g az xs →
  aZ.Spec prog 148 [u, w, .slice (some ⟨ba, 0, none⟩) N N, .slice (some ⟨bk, 0, none⟩) N N] g (vD ba bk xs kn) fun v g' own' => g' = g ∧ ∃ b rl yj vE, v = .bool b ∧ own' = vD ba bk yj vE ∧ rl.length = N ∧ vE.length = N ∧ aV g rl yj
theorem Zk (g : ab) (ba bk N B K : Nat) (hN : N ≤ 1000000) (ih : HH g ba bk N B K) : HH g ba bk N B (K + 1) := by
 intro u w p t az xs kn hk hu hw bW hz hn hx
 obtain ⟨la, lm, lc, rfl, h5⟩ := hu.bA
 obtain ⟨ra, rm, rc, rfl, h6⟩ := hw.bA
 obtain ⟨q1, q2, aq⟩ := h5.slice
 cases aq
 obtain ⟨q1, q2, aq⟩ := h6.slice
 cases aq
 have YX := iT (lU bW)
 have lD := jA p
 refine aw func148 rfl ntmps148 rfl fun E hE => ?_
 refine aS ?_
 refine aP rfl rfl rfl (fun b4 => ?_)
 skip
 refine aP rfl rfl rfl (fun b5 => ?_)
 refine wz.b.a.z ?_
 refine cD (ι := Unit) (fun _ => [(2, .slice (some ⟨ba, 0, none⟩) N N), (3, .slice (some ⟨bk, 0, none⟩) N N), (4, ptr b4 0), (5, ptr b5 0)]) (fun _ => g) (fun _ => [.ae b5 41 (aH t (.slice ra t.args.length rc)), .ae b4 41 (aH p (.slice la p.args.length lc)), .ae ba 41 xs, .ae bk 4 (kn.map .bool)]) (fun _ => True) ?_ ?_
 case refine_2 =>
  intro C hC
  refine wz.a.a.I.g.c.z ?_
  refine bw rfl rfl (fun c1 => ?_) (fun c1 => ?_)
  ·refine wz.b.a.u.A.k.u.I.k.g.k.z ?_
   refine an rfl (fun c2 => ?_) (fun c2 => ?_)
   ·have hlt : p.id.toNat < N := by omega
    have DG : p.id.toNat < kn.length := by omega
    have GI : p.id.toNat < az.length := by omega
    obtain ⟨pre, cc, post, rfl, p2, p3, p4⟩ := aL.split (fun _ _ h => bx.one h |>.1) (Pd hx) p.id.toNat GI
    obtain ⟨sl, rfl⟩ := p3.cells
    refine wz.I.g.a.c.e.z ?_
    refine gV (j := p.id.toNat) rfl rfl rfl oM hlt ?_
    refine cj rfl rfl (HA (v := .bool kn[p.id.toNat]) 3 rfl (by simp [DG])) ?_
    refine iV ?_
    cases kn[p.id.toNat] with
    | true =>
     refine wz.e.t.z ?_
     refine bO [] mixed (fun hG => ?_)
     refine wz.P.z ?_; refine ⟨_, (ag rfl), ?_⟩; refine wz.R.z ?_; refine ⟨_, (aI rfl), ?_⟩; refine wz.S.z ?_; refine ⟨_, (a7 1 rfl rfl rfl), ?_⟩
     refine bn 3 rfl kR rfl hG ⟨_, (bU (j := p.id.toNat) rfl rfl oM hlt), ?_⟩
     refine bn 4 rfl kR rfl hG ⟨_, (dL rfl (Zl (vs := aH az[p.id.toNat] sl) 2 rfl (fun j x hj => by rw [Nat.zero_add, ← p2, List.getElem?_append_right (Nat.le_add_right _ _), Nat.add_sub_cancel_left]; exact OW hj)) rfl), ?_⟩
     refine wz.Ad.z ?_; refine ⟨_, (bP 0 rfl rfl rL), ?_⟩
     refine wz.Ao.z ?_
     refine aO rfl rfl (GD g _ _ _ _ ⟨_, rfl, p3⟩ ⟨_, rfl, h6⟩) ?_
     refine wz.l.l.i.d.F.f.b.a.AM.f.b.z ?_
     exact ao [_, _] rfl rfl sB ⟨rfl, _, az, _, kn, rfl, rfl, hz, hn, hx⟩
    | false =>
     refine wz.e.d.j.o.z ?_
     refine bO [3, 2] mixed (fun hG => ?_)
     refine wz.P.z ?_; refine ⟨_, (ag rfl), ?_⟩; refine wz.R.z ?_; refine ⟨_, (aI rfl), ?_⟩; refine wz.S.z ?_; refine ⟨_, (a7 1 rfl rfl rfl), ?_⟩; refine wz.X.z ?_; refine ⟨_, (ag rfl), ?_⟩; refine wz.Z.z ?_; refine ⟨_, (aI rfl), ?_⟩; refine wz.Ad.z ?_; refine ⟨_, (a7 1 rfl rfl rfl), ?_⟩; refine wz.Ak.z ?_; refine ⟨_, (bP 0 rfl rfl rL), ?_⟩
     refine bn 7 rfl kR rfl hG ⟨_, (bU (j := p.id.toNat) rfl rfl oM hlt), ?_⟩
     refine wz.Ae.z ?_
     refine kE 2 rfl rfl rfl rfl rL rfl (xX _ _ _ _ _ (by rw [p2, Nat.zero_add]) (p3.one.1.trans h6.one.1.symm)) ?_
     refine wz.f.b.z ?_
     refine bn 9 rfl kR rfl hG ⟨_, (bU (j := p.id.toNat) rfl rfl oM hlt), ?_⟩
     refine wz.AW.z ?_; refine mJ 3 rfl rfl rfl rfl rfl (HB _ _ _ nM) ?_; refine wz.l.i.b.a.c.d.F.f.b.z ?_
     exact ao (vD ba bk _ (kn.set p.id.toNat true)) rfl rfl (by simp only [vD, List.map_set, Nat.zero_add, Nat.mul_one]; exact .cons _ (.cons _ (List.Sublist.refl _))) ⟨rfl, true, az.set p.id.toNat t, _, kn.set p.id.toNat true, rfl, rfl, by rw [List.length_set]; exact hz, by rw [List.length_set]; exact hn, Pe (p4 t _ h6)⟩
   ·refine wz.d.j.z ?_
    exact hC () _ trivial ⟨rfl, rfl, rfl, rfl, trivial⟩
  ·refine wz.d.j.o.b.a.h.h.h.h.h.z ?_
   exact hC () _ trivial ⟨rfl, rfl, rfl, rfl, trivial⟩
 rintro _ -
 try dsimp only
 refine wz.a.a.v.g.I.g.c.e.z ?_
 refine bw rfl rfl (fun a0 => ?_) (fun a0 => ?_)
 ·refine wz.l.i.b.a.c.t.b.a.h.h.h.h.h.h.h.a.a.h.h.h.h.h.a.a.h.h.h.h.h.a.a.h.h.h.h.h.z ?_
  exact ao [_, _] rfl rfl sB ⟨rfl, _, az, _, kn, rfl, rfl, hz, hn, hx⟩
 ·refine wz.a.a.u.v.k.g.k.I.k.g.k.z ?_
  refine bw rfl rfl (fun a1 => ?_) (fun a1 => ?_)
  ·refine wz.l.i.b.a.c.t.b.a.h.h.h.h.h.h.h.a.a.h.h.h.h.h.a.a.h.h.h.h.h.z ?_
   exact ao [_, _] rfl rfl sB ⟨rfl, _, az, _, kn, rfl, rfl, hz, hn, hx⟩
  ·refine wz.a.a.u.v.k.g.k.I.k.g.k.z ?_
   refine bw rfl rfl (fun a2 => ?_) (fun a2 => ?_)
   ·refine wz.l.i.b.a.c.t.b.a.h.h.h.h.h.h.h.a.a.h.h.h.h.h.z ?_
    exact ao [_, _] rfl rfl sB ⟨rfl, _, az, _, kn, rfl, rfl, hz, hn, hx⟩
   ·refine wz.a.a.u.v.k.g.k.I.k.g.k.z ?_
    refine bw rfl rfl (fun a3 => ?_) (fun a3 => ?_)
    ·refine wz.l.i.b.a.c.t.b.a.h.h.h.h.h.h.h.z ?_
     exact ao [_, _] rfl rfl sB ⟨rfl, _, az, _, kn, rfl, rfl, hz, hn, hx⟩
    ·refine wz.b.a.u.A.k.v.k.g.k.A.k.I.k.g.k.z ?_
     refine an rfl (fun a4 => ?_) (fun a4 => ?_)
     ·refine wz.l.i.b.a.c.z ?_
      exact ao [_, _] rfl rfl sB ⟨rfl, _, az, _, kn, rfl, rfl, hz, hn, hx⟩
     ·have hle : p.args.length = t.args.length := by omega
      obtain ⟨zl, y1, y2⟩ := h5.args
      obtain ⟨zr, y3, y4⟩ := h6.args
      refine wz.p.b.a.c.e.d.j.z ?_
      refine aX (ι := Nat × List Ty × List Value × List Bool) (fun o => [(2, .slice (some ⟨ba, 0, none⟩) N N), (3, .slice (some ⟨bk, 0, none⟩) N N), (4, ptr b4 0), (5, ptr b5 0), (9, .int .i64 o.1)]) (fun _ => g) (fun o => [.ae b5 41 (aH t (.slice ra t.args.length rc)), .ae b4 41 (aH p (.slice la p.args.length lc)), .ae ba 41 o.2.2.1, .ae bk 4 (o.2.2.2.map .bool)])
       (fun o => o.1 ≤ p.args.length ∧ o.2.1.length = N ∧ o.2.2.2.length = N ∧ aV g o.2.1 o.2.2.1) (fun o => p.args.length - o.1) (0, az, xs, kn) ⟨Nat.zero_le _, hz, hn, hx⟩ ⟨rfl, rfl, rfl, rfl, rfl, trivial⟩ rfl rfl ?_
      rintro ⟨i, az, xs, kn⟩ ⟨hi, hz, hn, hx⟩
      simp only at hi hz hn hx
      try dsimp only
      have Zb := y1.le
      refine wz.b.a.A.I.g.a.c.e.z ?_
      refine an rfl (fun hlt => ?_) (fun hlt => ?_)
      ·have de : i < p.args.length := by omega
       have cL : i < t.args.length := by omega
       have YY := mN (List.getElem_mem de)
       obtain ⟨bl, ol, cl, aq, kF⟩ := y1.held de
       cases aq
       obtain ⟨br, or', cr, HF, HG⟩ := y3.held cL
       cases HF
       obtain ⟨s1, t1, r1⟩ := eZ y2 kF de
       obtain ⟨s2, t2, r2⟩ := eZ y4 HG cL
       refine wz.e.p.e.d.j.z ?_
       refine bO [3, 2] mixed (fun hG => ?_)
       refine wz.P.z ?_; refine ⟨_, (aI rfl), ?_⟩; refine wz.R.z ?_; refine ⟨_, (a7 1 rfl rfl rfl), ?_⟩; refine wz.S.z ?_; refine ⟨_, (ag rfl), ?_⟩
       refine bn 3 rfl kR rfl hG ⟨_, (bU (j := i) rfl rfl rfl de), ?_⟩
       refine bn 4 rfl kR rfl hG ⟨_, (dL rfl (r1 _) rfl), ?_⟩
       refine wz.Ad.z ?_; refine ⟨_, (aI rfl), ?_⟩; refine wz.Ak.z ?_; refine ⟨_, (a7 0 rfl rfl rfl), ?_⟩; refine wz.Aa.z ?_; refine ⟨_, (ag rfl), ?_⟩
       refine bn 8 rfl kR rfl hG ⟨_, (bU (j := i) rfl rfl rfl cL), ?_⟩
       refine bn 9 rfl kR rfl hG ⟨_, (dL rfl (r2 _) rfl), ?_⟩
       refine wz.Al.z ?_; refine ⟨_, (ag rfl), ?_⟩; refine wz.As.z ?_; refine ⟨_, (ag rfl), ?_⟩
       refine wz.Bd.z ?_
       refine jN (lent := vD ba bk xs kn) (kept := [_, _]) rfl rfl (List.perm_append_comm (l₁ := [_, _])) (ih _ _ _ _ az xs kn oM ⟨_, rfl, t1⟩ ⟨_, rfl, t2⟩ (oB bW _ (List.getElem_mem de)) hz hn hx) ?_
       rintro v g1 own' ⟨rfl, z, rl, yj, vE, rfl, rfl, iS, HI, db⟩ _
       refine ko (own' := [_, _, _, _]) (List.perm_append_comm (l₁ := [_, _])) ?_; refine wz.F.f.b.a.AJ.f.b.z ?_
       cases z with
       | true =>
        refine wz.b.a.E.a.r.d.y.j.o.d.z ?_
        exact aM (i + 1, rl, yj, vE) ⟨oM, iS, HI, db⟩ uM ⟨rfl, rfl, rfl, rfl, rfl, trivial⟩ rfl rfl
       | false =>
        refine wz.l.x.l.l.x.i.b.a.c.t.d.z ?_
        exact ao [_, _] rfl rfl sB ⟨rfl, _, rl, _, vE, rfl, rfl, iS, HI, db⟩
      ·refine wz.i.b.a.c.d.D.m.m.C.z ?_
       exact ao [_, _] rfl rfl sB ⟨rfl, _, az, _, kn, rfl, rfl, hz, hn, hx⟩
theorem Pf (g : ab) (ba bk N B : Nat) (hN : N ≤ 1000000) : ∀ K, HH g ba bk N B K
 | 0 => fun u w p t az xs kn h => by omega
 | K + 1 => Zk g ba bk N B K hN (Pf g ba bk N B hN K)
end Go.Proofs.YtlnjfkfojkgiiaaGreatDoor
namespace Go.Th
theorem Ph : ∀ t : Ty, c7 (gN []) t = t := by
 refine kH fun t ih => ?_
 by_cases hk : t.kind = 1
 ·rw [mO (f := gN []) (u := t) (by unfold gN; rw [if_pos hk]; rfl)]
 ·rw [ow (by unfold gN; rw [if_neg hk])]
  obtain ⟨k, n, i, h, a⟩ := t
  simp only [Ty.kind, Ty.name, Ty.id, Ty.home, Ty.args] at ih ⊢
  rw [List.map_congr_left (g := id) (fun x hx => ih x hx), List.map_id]
theorem Pj {b : Nat} {t : Ty} (h : OK 0 b false t) : dx (fun u => u.kind ≠ 1) t :=
 (oD h).imp fun u hu hk => by rcases iT hu with h | h | h | h | h <;> omega
structure Pk (e : En) : Prop where
 ok : OK 0 e.gj false e.ty
 n : aE e.ty ≤ 5000
 c : e.gj ≤ 5000
theorem DH {B : Nat} : ∀ {l : List Ty}, (∀ t ∈ l, aE t ≤ B) → bM l ≤ l.length * B
 | [], _ => by simp [bM]
 | a :: r, h => by
  have h1 := h a (List.mem_cons_self ..)
  have h2 := DH (l := r) (fun t ht => h t (List.mem_cons_of_mem _ ht))
  simp only [bM, List.length_cons, Nat.add_mul]
  omega
end Go.Th
namespace Go.Proofs.YtlnjfkfojkgiiaaGreatDoor
theorem Zm (g : ab) (t : Ty) (u : Value) (hu : aQ g u t) (hn : aE t ≤ 100000) : bK prog 191 [.slice none 0 0, u] g fun w g' => aQ g' w t := by
 obtain ⟨ya, ym, yc, rfl, h1⟩ := hu.bA
 refine aw func191 rfl ntmps191 rfl fun E hE => ?_
 refine aS ?_
 refine aP rfl rfl rfl (fun b3 => ?_)
 skip
 refine aj rfl (fun b4 => ?_)
 refine wz.a.O.c.b.z ?_
 refine aB rfl rfl (xG g [] t oM _ _ [] ⟨_, rfl, h1⟩ (cP g 6) rfl) ?_
 rintro w g1 hw _
 rw [Ph] at hw
 obtain ⟨z1, z2, z3, rfl, ir⟩ := hw.bA
 refine wz.i.b.q.z ?_
 exact bp [] rfl (ay 0 rfl rfl rL) sZ ⟨⟨_, rfl, ir⟩, rfl⟩
theorem Zn (g : ab) (n : Nat) (t : Ty) (u : Value) (hu : jU g u n t) (hn : aE t ≤ 100000) : bK prog 155 [.slice none 0 0, u] g fun w g' => jU g' w n t := by
 obtain ⟨a, c, rfl, h1⟩ := hu.form
 refine aw func155 rfl ntmps155 rfl fun E hE => ?_
 refine aS ?_
 refine aP rfl rfl rfl (fun b3 => ?_)
 skip
 refine aj rfl (fun b4 => ?_)
 refine wz.e.b.z ?_
 refine bO [0] mixed (fun hG => ?_)
 refine wz.P.z ?_; refine ⟨_, (aI rfl), ?_⟩; refine wz.R.z ?_; refine ⟨_, (a7 0 rfl rfl rfl), ?_⟩; refine wz.S.z ?_; refine ⟨_, (ag rfl), ?_⟩; refine wz.X.z ?_; refine ⟨_, (aI rfl), ?_⟩; refine wz.Z.z ?_; refine ⟨_, (bP 0 rfl rfl rL), ?_⟩
 refine wz.Aq.z ?_
 refine aB rfl rfl (Zm g t _ ⟨_, rfl, h1⟩ hn) ?_
 rintro w g1 hw _
 obtain ⟨z1, z2, z3, rfl, ir⟩ := hw.bA
 refine wz.Ak.f.b.z ?_; refine ⟨_, (et rfl rL), ?_⟩
 refine wz.i.d.F.f.b.q.AM.z ?_
 exact bp [] rfl (ay 0 rfl rfl rL) sZ ⟨⟨_, rfl, ir⟩, rfl⟩
theorem Zo (g : ab) (goal : Ty) (gv cv : Value) (ctx : List En) (hg : aQ g gv goal) (ho : OK 0 0 false goal) (hn : aE goal ≤ 5000) (hc : ld g cv ctx) (hl : ctx.length ≤ 100) (he : ∀ e ∈ ctx, Pk e) :
  bK prog 153 [gv, cv, .slice none 0 0] g fun w g' => ∃ sv, w = .tuple #[sv, .slice none 0 0] ∧ eJ g' sv [] 0 := by
 obtain ⟨ya, ym, yc, rfl, h1⟩ := hg.bA
 refine aw func153 rfl ntmps153 rfl fun E hE => ?_
 refine aS ?_
 refine aP rfl rfl rfl (fun b3 => ?_)
 skip
 refine aj rfl (fun b6 => ?_)
 refine wz.a.c.b.a.c.b.a.z ?_
 refine aB rfl rfl (G8 g ctx _ hc oM) ?_
 rintro w g1 ⟨o, ⟨xo, oq, tu⟩, vF, DF⟩ a8
 obtain ⟨wa, wc, rfl⟩ := aU oq
 refine wz.p.b.a.c.e.b.a.AD.z ?_
 refine aX (ι := Nat × Value × List aA) (fun q => [(2, .slice none 0 0), (3, ptr b3 0), (6, ptr b6 0), (8, q.2.1), (9, .slice wa o.length wc), (10, .int .i64 q.1)]) (fun _ => g1) (fun q => q.2.2 ++ [.ae b6 215 [.slice none 0 0, .slice none 0 0], .ae b3 41 (aH goal (.slice ya ym yc))])
  (fun q => q.1 ≤ o.length ∧ ∃ (a : Option Addr) (c : Nat) (xs : List Value), q.2.1 = .slice a q.1 c ∧ q.2.2 = [.row 41 5 (.slice a q.1 c) q.1 xs] ∧ aV g1 ((o.take q.1).map (·.ty)) xs) (fun q => o.length - q.1) (0, _, [_]) ⟨Nat.zero_le _, none, 0, [], rfl, rfl, cQ g1⟩ ⟨rfl, rfl, rfl, rfl, rfl, rfl, trivial⟩ rfl rfl ?_
 rintro ⟨k, sv, own⟩ ⟨hk, a, c, xs, eu, hown, hx⟩
 simp only at hk eu hown hx
 subst eu
 subst hown
 try dsimp only
 refine wz.b.a.A.a.a.c.e.z ?_
 refine an rfl (fun hlt => ?_) (fun hlt => ?_)
 ·have af : k < o.length := by omega
  obtain ⟨b, off, cap, aq, oJ⟩ := oq.held af
  cases aq
  obtain ⟨cs, e1, hr⟩ := dt (fun _ _ h => h.one.1) tu oJ af
  obtain ⟨ea, ec, rfl, e2⟩ := e1.form
  refine wz.g.g.M.a.a.a.r.p.e.d.j.z ?_
  refine eY rfl rfl ((hr _).part 2 (vs := aH o[k].ty (.slice ea o[k].ty.args.length ec)) (fun j x hj => by rw [Nat.add_comm]; exact hj)) rfl ?_
  skip
  refine bu rfl rfl rL rL rL rL rL (fun y1 => ?_)
  refine cV 1 0 rfl rfl rfl rfl rfl rL rL rfl mL oM (fun v' _ => ?_)
  refine wz.AC.z ?_
  rintro ⟨q1, q3, rfl⟩
  refine wz.Bp.b.a.E.a.r.d.y.N.a.z ?_
  exact aM (k + 1, _, [_]) ⟨oM, q1, q3, _, rfl, rfl, by rw [List.take_succ_eq_append_getElem af, List.map_append]; exact aV.snoc e2 hx⟩ uM ⟨rfl, rfl, rfl, rfl, rfl, rfl, trivial⟩ rfl rfl
 ·obtain rfl : k = o.length := by omega
  rw [List.take_length] at hx
  have yl : (o.map (·.ty)).length = o.length := List.length_map _
  have jB := hx.one.2
  refine bg (fun g2 aD bj => ?_)
  refine wz.O.c.d.D.m.m.C.z ?_
  refine bu rfl rfl rL rL rL rL rL (fun y1 => ?_)
  refine wz.a.z ?_
  refine jr 0 rfl rfl rfl rfl bj rL rL jB mL oM (fun v' _ => ?_)
  refine bg (fun g3 aF bY => ?_)
  have h3 := ((h1.mono a8).mono aD).mono aF
  have hall : ∀ t ∈ goal :: o.map (·.ty), dx (fun u => u.kind ≠ 1) t := fun t ht => by
   rcases List.mem_cons.1 ht with rfl | ht
   ·exact Pj ho
   ·obtain ⟨e, hm, rfl⟩ := List.mem_map.1 ht
    exact Pj (he e (vF e hm)).ok
  have qn : ∀ t ∈ goal :: o.map (·.ty), aE t ≤ 5000 := fun t ht => by
   rcases List.mem_cons.1 ht with rfl | ht
   ·exact hn
   ·obtain ⟨e, hm, rfl⟩ := List.mem_map.1 ht
    exact (he e (vF e hm)).n
  have HJ := DH qn
  rw [List.length_cons, yl] at HJ
  have Zp : (o.length + 1) * 5000 ≤ 101 * 5000 := Nat.mul_le_mul_right _ oM
  refine aB rfl rfl (C3 g3 (goal :: o.map (·.ty)) _ _ oM (by rw [List.length_cons, yl, Nat.add_comm]; exact bY) (by unfold aV; exact ⟨_, _, rfl, h3, hx.mono (ab.le_trans aD aF)⟩)) ?_
  rintro w4 g4 fZ aR
  rw [Ym hall] at fZ
  obtain ⟨va, vc, rfl⟩ := aU fZ
  refine wz.c.b.a.z ?_
  refine aB rfl rfl (YM g4) ?_
  rintro w5 g5 ⟨rfl, bG⟩ _
  obtain ⟨a1, c1, a2, c2, xs5, ys5, rfl, _⟩ := id bG
  skip
  refine aj rfl (fun kW => ?_)
  refine wz.p.b.a.c.e.b.a.c.b.q.z ?_
  refine aX (ι := Unit) (fun _ => [(6, ptr b6 0), (11, .slice va 0 vc), (12, ptr kW 0), (13, .slice none 0 0), (14, .int .i64 0)]) (fun _ => g5) (fun _ => [.ae kW 215 [.slice a1 0 c1, .slice a2 0 c2], .ae b6 215 [.slice none 0 0, .slice none 0 0], .ae b3 41 (aH goal (.slice ya ym yc))]) (fun _ => True) (fun _ => 0) () trivial ⟨rfl, rfl, rfl, rfl, rfl, trivial⟩ rfl rfl ?_
  rintro _ -
  try dsimp only
  refine wz.i.b.a.B.a.G.c.d.D.m.m.C.o.b.a.A.a.a.c.e.z ?_
  exact cB [] rfl (ay 1 rfl rfl rL) (.tmp rfl) sZ ⟨⟨_, rfl, bG⟩, rfl⟩
theorem Pl (g : ab) (S : List aW) (m : Nat) (v u : Value) (id : Int) (x : aW) (hv : eJ g v S m) (hu : OX g u x) (h0 : 0 ≤ id) (hi : id.toNat < S.length) (hN : S.length ≤ 100000) (hm : m ≤ 1000000) :
  bK prog 212 [v, .int .i64 id, u] g fun w g' => ∃ sv, w = .tuple #[sv, .bool true] ∧ eJ g' sv (S.set id.toNat x) (m + 1) := by
 have e : id = (id.toNat : Int) := by omega
 have := Du g S m v u id.toNat x hv hu hi hN hm
 rwa [← e] at this
theorem Pm (g : ab) (S : List aW) (m : Nat) (v u : Value) (t : Ty) (hS : fu S) (hN : S.length ≤ 100000) (hm : m ≤ 900000) (hv : eJ g v S m) (hu : aQ g u t) (ho : OK S.length 0 false t) :
  bK prog 213 [v, u] g fun w g' => ∃ S' m', eJ g' w S' m' ∧ fu S' ∧ S'.length = S.length ∧ m' ≤ m + 1 ∧ km S S' := by
 obtain ⟨a, c, a', c', xs, ys, rfl, h1, h2, h3, h4⟩ := id hv
 obtain ⟨ya, ym, yc, rfl, h5⟩ := hu.bA
 refine aw func213 rfl ntmps213 rfl fun E hE => ?_
 refine aS ?_
 refine aP rfl rfl rfl (fun b2 => ?_)
 skip
 refine aP rfl rfl rfl (fun b3 => ?_)
 skip
 refine aj rfl (fun b4 => ?_)
 refine wz.O.Af.c.b.z ?_
 refine aB rfl rfl (jm g S oM m _ _ t hv ⟨_, rfl, h5⟩) ?_
 rintro w g1 ⟨rfl, hw⟩ _
 obtain ⟨z1, z2, z3, rfl, ir⟩ := hw.bA
 have wn := vA hS ho
 generalize walk S t = q at hw ir wn
 refine wz.b.a.I.g.c.e.b.B.z ?_
 refine an rfl (fun hk => ?_) (fun hk => ?_)
 ·have hid : 0 ≤ q.id ∧ q.id.toNat < S.length := by rcases iT (lU wn.2) with h | h | h | h | h <;> omega
  obtain ⟨b, off, cap, aq, hx⟩ := h1.held hid.2
  cases aq
  obtain ⟨cs, e1, hr⟩ := dt (fun _ _ h => h.one.1) h2 hx hid.2
  obtain ⟨sa, sc, rfl, e2⟩ := e1.form
  have hs := hS _ _ (List.getElem?_eq_getElem hid.2)
  have ss := OS (x := ⟨S[q.id.toNat].b, S[q.id.toNat].ty, S[q.id.toNat].h, true⟩) (List.getElem?_eq_getElem hid.2) rfl rfl
  generalize S[q.id.toNat] = s0 at e1 e2 hr hs ss
  refine wz.I.g.Ag.g.c.z ?_
  refine gV (j := q.id.toNat) rfl rfl rfl oM hid.2 ?_
  refine wz.An.z ?_
  skip
  refine aj rfl (fun b5 => ?_)
  refine wz.G.Ag.g.Y.r.b.Ac.g.c.b.q.z ?_
  refine aB rfl rfl (Pl g1 S m _ _ q.id ⟨s0.b, s0.ty, s0.h, true⟩ hv ⟨_, rfl, e2⟩ hid.1 hid.2 hN oM) ?_
  rintro w3 g3 ⟨sv, rfl, v7⟩ _
  obtain ⟨v1, v2, v3, v4, tJ, tK, rfl, _⟩ := id v7
  refine wz.i.b.B.Y.c.b.Au.a.a.a.z ?_
  exact bp [] rfl (ay 1 rfl rfl rL) sZ ⟨⟨_, _, v7, xU hS hs.1 hs.2, List.length_set .., Nat.le_refl _, ss.mono⟩, rfl⟩
 ·refine wz.i.b.q.Af.c.d.j.z ?_
  exact bp [] rfl (ay 0 rfl rfl rL) sZ ⟨⟨S, m, hv, hS, rfl, Nat.le_succ _, km.refl S⟩, rfl⟩
theorem Zq (g : ab) (n : Nat) (p t : Ty) (u w : Value) (hu : jU g u n p) (hw : aQ g w t) (hn : n ≤ 5000) (ho : OK 0 n false p) :
  bK prog 111 [u, w] g fun x g' => ∃ a c m b, x = .tuple #[.slice a m c, .bool b] := by
 obtain ⟨a, c, rfl, h1⟩ := hu.form
 obtain ⟨ya, ym, yc, rfl, h5⟩ := hw.bA
 have Gq : ∀ n, ∃ az : List Ty, az.length = n ∧ aV g az (dO n k_) := fun n => by
  induction n with
  | zero => exact ⟨[], rfl, cQ g⟩
  | succ n ih =>
   obtain ⟨az, e, h⟩ := ih
   exact ⟨bX :: az, by simp [e], by unfold aV; exact ⟨k_, _, rfl, bx.mk (t := bX) (cP g 5) (cQ g), h⟩⟩
 obtain ⟨az, mT, hx⟩ := Gq n
 have Ho : ∀ n, dO n [Value.bool false] = (List.replicate n false).map .bool := fun n => by
  induction n with
  | zero => rfl
  | succ n ih => rw [dO, ih]; rfl
 refine aw func111 rfl ntmps111 rfl fun E hE => ?_
 refine aS ?_
 refine aP rfl rfl rfl (fun b2 => ?_)
 skip
 refine aP rfl rfl rfl (fun b3 => ?_)
 refine wz.I.g.c.b.a.a.z ?_
 refine HC rfl rfl rfl rL rL oM oM (fun ba => ?_)
 refine wz.e.e.b.a.z ?_
 refine bO [0] mixed (fun hG => ?_)
 refine wz.P.z ?_; refine ⟨_, (aI rfl), ?_⟩; refine wz.R.z ?_; refine ⟨_, (bP 1 rfl rfl rL), ?_⟩; refine wz.S.z ?_; refine ⟨_, (bP 0 rfl rfl rL), ?_⟩; refine wz.X.z ?_; refine ⟨_, (ag rfl), ?_⟩; refine wz.Z.z ?_; refine ⟨_, (aI rfl), ?_⟩; refine wz.Ad.z ?_; refine ⟨_, (a7 1 rfl rfl rfl), ?_⟩
 refine wz.Ao.z ?_
 refine HC rfl rfl rfl rL rL oM oM (fun bk => ?_)
 refine wz.AM.f.b.z ?_
 rw [Ho]
 refine jN (lent := vD ba bk _ (List.replicate n false)) (kept := [_, _]) rfl rfl (List.Perm.swap _ _ _) (Pf g ba bk n n oM (aE p + 1) _ _ p t az _ _ (Nat.lt_succ_self _) ⟨_, rfl, h1⟩ ⟨_, rfl, h5⟩ ho mT (List.length_replicate ..) hx) ?_
 rintro v g1 own' ⟨rfl, z, rl, yj, vE, rfl, rfl, iS, HI, db⟩ _
 refine wz.F.f.b.a.Ae.f.b.z ?_
 cases z with
 | true =>
  refine wz.i.b.a.a.a.c.d.j.o.d.z ?_
  exact cB [] rfl (.tmp rfl) (.tmp rfl) sZ ⟨⟨_, _, _, _, rfl⟩, rfl⟩
 | false =>
  refine wz.l.i.b.a.a.c.t.d.z ?_
  exact cB [] rfl (.tmp rfl) (.tmp rfl) sZ ⟨⟨_, _, _, _, rfl⟩, rfl⟩
theorem Zr (g : ab) (i j : Int) : ox g (i, .mk 1 [] j 0 []) [.int .i64 i, .int .i64 1, str [], .int .i64 j, .int .i64 0, .slice none 0 0] := ⟨_, rfl, bx.mk (t := .mk 1 [] j 0 []) (cP g 5) (cQ g)⟩
theorem Zs (g : ab) (l : List Ty) (v : Value) (xl : List Value) (hl : au g 5 v l.length xl) (ht : aV g l xl) (hn : l.length ≤ 10) (qn : ∀ t ∈ l, aE t ≤ 4000) {V : Nat} (ho : kG V 0 false l) :
  bK prog 217 [v] g fun w g' => ∃ l' Pn, l'.length = l.length ∧ au g' 5 w l'.length Pn ∧ aV g' l' Pn ∧ (∀ t ∈ l', aE t ≤ 4000) ∧ ∃ V', kG V' 0 false l' := by
 obtain ⟨la, lc, rfl⟩ := aU hl
 have HJ := DH qn
 have Zp : l.length * 4000 ≤ 10 * 4000 := Nat.mul_le_mul_right _ hn
 have nL := Hc l
 refine aw func217 rfl ntmps217 rfl fun E hE => ?_
 refine wz.a.c.b.a.c.z ?_
 refine aB rfl rfl (C3 g l _ _ oM hl ht) ?_
 rintro w g1 hw a8
 have np : ∀ t ∈ l, dx (fun u => u.kind = 1 → u.args = [] → u.id ∈ nE l) t := fun t h => Hb h
 generalize nE l = vs at hw nL np
 obtain ⟨wa, wc, rfl⟩ := aU hw
 have te := hl.mono a8
 have eE := ht.mono a8
 refine fW 225 6 <| wz.p.b.a.c.e.b.a.c.b.a.z ?_
 refine aX (ι := Nat × Value × List aA) (fun o => [(0, .slice la l.length lc), (3, .slice wa vs.length wc), (4, o.2.1), (5, .int .i64 o.1)]) (fun _ => g1) (fun o => o.2.2)
  (fun o => o.1 ≤ vs.length ∧ ∃ s : List (Int × Ty), Hh g1 s o.2.1 o.2.2 ∧ s.length = o.1 ∧ (∀ x ∈ s, ∃ j : Nat, j < vs.length ∧ x.2 = .mk 1 [] j 0 []) ∧ ∀ j (h : j < vs.length), j < o.1 → ∃ x ∈ s, x.1 = vs[j]) (fun o => vs.length - o.1) (0, _, [_]) ⟨Nat.zero_le _, [], ⟨none, 0, [], rfl, rfl, rfl⟩, rfl, (fun _ h => by cases h), fun j _ h => by simp only at h; omega⟩ ⟨rfl, rfl, rfl, rfl, trivial⟩ rfl rfl ?_
 rintro ⟨k, sv, own⟩ ⟨hk, s, ⟨a, c, xs, eu, Po, hx⟩, aq, hb, dW⟩
 simp only at hk eu Po aq dW
 subst eu
 subst Po
 try dsimp only
 refine wz.b.a.A.a.a.c.e.z ?_
 refine an rfl (fun hlt => ?_) (fun hlt => ?_)
 ·have af : k < vs.length := by omega
  obtain ⟨b, off, cap, fq, mM⟩ := hw.held af
  cases fq
  have jb : ∀ own, Rd g1 own b (off + k * 1) [.int .i64 vs[k]] := fun own => eT (mM (k * 1) _ (by simp [ints, af]))
  refine wz.p.e.d.j.z ?_
  refine fQ 10 [0] mixed kR (fun hG => ?_)
  refine wz.Ar.z ?_; refine ⟨_, (ag rfl), ?_⟩; refine wz.Ax.z ?_; refine ⟨_, (ag rfl), ?_⟩; refine wz.Ay.z ?_; refine ⟨_, (ag rfl), ?_⟩
  refine di 3 rfl kR rfl hG ⟨_, (bU (j := k) rfl rfl rfl af), ?_⟩
  refine di 4 rfl kR rfl hG ⟨_, (cU rfl (jb _)), ?_⟩
  refine wz.Be.z ?_; refine ⟨_, (ag rfl), ?_⟩
  refine wz.Cd.z ?_
  refine aO rfl rfl (B_ g1 _) ?_
  refine wz.Bo.f.b.z ?_; refine ⟨_, (et rfl rL), ?_⟩
  refine wz.Bx.z ?_
  skip
  refine bu rfl rfl rL rL rL rL rL (fun y1 => ?_)
  refine wz.BD.f.b.z ?_
  skip
  refine cV 1 0 rfl rfl rfl rfl rfl rL rL rfl mL oM (fun v' _ => ?_)
  refine wz.AC.z ?_
  rintro ⟨q1, q3, rfl⟩
  refine wz.b.a.E.a.r.d.y.N.a.Bk.Am.f.b.z ?_
  refine aM (k + 1, _, [_]) ⟨oM, s ++ [(vs[k], .mk 1 [] k 0 [])], ⟨q1, q3, _, by rw [List.length_append]; rfl, by rw [List.length_append]; rfl, aL.snoc (Zr g1 vs[k] k) hx⟩, by rw [List.length_append, List.length_singleton, aq], fun x hx => ?_, fun j hj fK => ?_⟩ uM ⟨rfl, rfl, rfl, rfl, trivial⟩ rfl rfl
  ·rcases List.mem_append.1 hx with hx | hx
   ·exact hb x hx
   ·rw [List.mem_singleton.1 hx]; exact ⟨k, af, rfl⟩
  ·by_cases oE : j = k
   ·subst oE
    exact ⟨_, List.mem_append_right _ (List.mem_singleton.2 rfl), rfl⟩
   ·obtain ⟨x, hx, e⟩ := dW j hj (by simp only at fK; omega)
    exact ⟨x, List.mem_append_left _ hx, e⟩
 ·obtain rfl : k = vs.length := by omega
  have Zt : ∀ x ∈ s, aE x.2 ≤ 1 := fun x hx => by
   obtain ⟨j, _, e⟩ := hb x hx
   rw [e]; simp [aE, bM]
  have vG : ∀ t ∈ l, OK vs.length 0 false (c7 (gN s) t) ∧ aE (c7 (gN s) t) ≤ 4000 := fun t l4 => by
   constructor
   ·refine He (v := V) (b := 0) (Nat.zero_le _) ?_
    refine ((oD (ho t l4)).and (np t l4)).imp fun x hx => ⟨hx.1, fun h1 h2 => ?_⟩
    obtain ⟨j, hj, e⟩ := List.mem_iff_getElem.1 (hx.2 h1 h2)
    obtain ⟨y, hy, oF, pz⟩ := Hg (dW j hj hj)
    rw [e] at pz
    obtain ⟨i, hi, ei⟩ := hb y hy
    exact ⟨_, pz, by rw [ei]; exact vu hi⟩
   ·have := Hf (l := s) (B := 1) (Nat.le_refl _) Zt (ho t l4)
    have := qn t l4
    omega
  refine bg (fun g2 aD bj => ?_)
  have jd := aL.mono (fun _ _ h => h.mono aD) hx
  have nX := te.mono aD
  have gZ := eE.mono aD
  refine wz.p.b.a.c.e.b.a.c.d.D.m.m.C.AD.z ?_
  refine aX (ι := Nat × ab × Value × List aA) (fun o => [(0, .slice la l.length lc), (4, .slice a s.length c), (6, o.2.2.1), (7, .int .i64 o.1)]) (fun o => o.2.1) (fun o => o.2.2.2)
   (fun o => o.1 ≤ l.length ∧ ab.le g2 o.2.1 ∧ ∃ (a : Option Addr) (c : Nat) (zs : List Value), o.2.2.1 = .slice a o.1 c ∧ o.2.2.2 = [.row 41 5 (.slice a o.1 c) o.1 zs] ∧ aV o.2.1 ((l.take o.1).map (c7 (gN s))) zs) (fun o => l.length - o.1) (0, g2, _, [_]) ⟨Nat.zero_le _, ab.le_refl _, none, 0, [], rfl, rfl, cQ g2⟩ ⟨rfl, rfl, rfl, rfl, trivial⟩ rfl rfl ?_
  rintro ⟨k, g3, sv, own⟩ ⟨ob, aF, a3, c3, zs, eu, hown, hz⟩
  simp only at ob aF eu hown hz
  subst eu
  subst hown
  try dsimp only
  refine wz.b.a.A.a.a.c.e.z ?_
  refine an rfl (fun iM => ?_) (fun iM => ?_)
  ·have af : k < l.length := by omega
   obtain ⟨b, off, cap, fq, kF⟩ := (nX.mono aF).held af
   cases fq
   obtain ⟨s1, t1, r1⟩ := eZ (gZ.mono aF) kF af
   refine wz.M.a.a.a.r.p.e.d.j.z ?_
   refine eY rfl rfl (r1 _) rfl ?_
   refine wz.a.z ?_
   have yn := qn _ (List.getElem_mem af)
   refine aB rfl rfl (xG g3 s l[k] oM _ _ _ ⟨_, rfl, t1⟩ (bj.mono aF) (aL.mono (fun _ _ h => h.mono aF) jd)) ?_
   rintro w4 g4 fZ aR
   obtain ⟨z1, z2, z3, rfl, ir⟩ := fZ.bA
   skip
   refine bu rfl rfl rL rL rL rL rL (fun y1 => ?_)
   refine cV 1 0 rfl rfl rfl rfl rfl rL rL rfl mL oM (fun v' _ => ?_)
   refine wz.AC.z ?_
   rintro ⟨q1, q3, rfl⟩
   refine wz.Bk.b.a.E.a.r.d.y.N.a.z ?_
   exact aM (k + 1, g4, _, [_]) ⟨oM, ab.le_trans aF aR, q1, q3, _, rfl, rfl, by rw [List.take_succ_eq_append_getElem af, List.map_append]; exact aV.snoc ir (hz.mono aR)⟩ uM ⟨rfl, rfl, rfl, rfl, trivial⟩ rfl rfl
  ·obtain rfl : k = l.length := by omega
   rw [List.take_length] at hz
   have yl : (l.map (c7 (gN s))).length = l.length := List.length_map _
   refine bg (fun g4 aR eG => ?_)
   refine wz.i.b.a.a.c.d.D.m.m.C.z ?_
   exact ao [] rfl rfl sZ ⟨⟨l.map (c7 (gN s)), zs, yl, by rw [yl]; exact eG, hz.mono aR, fun t ht => by
    obtain ⟨x, hx, rfl⟩ := List.mem_map.1 ht
    exact (vG x hx).2, vs.length, fun t ht => by
    obtain ⟨x, hx, rfl⟩ := List.mem_map.1 ht
    exact (vG x hx).1⟩, rfl⟩
end Go.Proofs.YtlnjfkfojkgiiaaGreatDoor
namespace Go.Th
theorem Pp {S : List aW} {t u y : Ty} (e : walk S t = walk S u) : gr S t y ↔ gr S u y := by rw [pA, pA, e]
def kJ (S : List aW) (w : Ty) (az : List Ty) (t : Ty) : Prop := ∀ S', km S S' → fu S' → ∀ y, gr S' w y → (∀ a ∈ az, ∃ z, gr S' a z ∧ aE z ≤ aE y) ∧ ∃ z, gr S' t z ∧ aE z ≤ aE y
theorem kJ.start {S : List aW} {w : Ty} : kJ S w [] w := fun _ _ _ y h => ⟨(fun _ h => by cases h), y, h, Nat.le_refl _⟩
theorem kJ.mono {S S2 : List aW} {w t : Ty} {az : List Ty} (h : kJ S w az t) (hm : km S S2) : kJ S2 w az t := fun S' h1 h2 => h S' (hm.trans h1) h2
theorem kJ.walk {S : List aW} {w t : Ty} {az : List Ty} (h : kJ S w az t) (hS : fu S) : kJ S w az (Th.walk S t) := fun S' h1 h2 y hy => by
 obtain ⟨k1, z, k2, k3⟩ := h S' h1 h2 y hy
 exact ⟨k1, z, (Pp (OP h1 hS h2 _ _)).2 k2, k3⟩
theorem Zu (S : List aW) (a b : Ty) : dG S (cZ a b) = false := by simp [dG, cZ, bJ, Ty.kind]
theorem kJ.step {S : List aW} {w x u : Ty} {az : List Ty} (h : kJ S w az (cZ x u)) : kJ S w (az ++ [x]) u := fun S' h1 h2 y hy => by
 obtain ⟨k1, z, k2, k3⟩ := h S' h1 h2 y hy
 rw [pA, YJ (Zu S' x u), mj] at k2
 obtain ⟨-, e, k4⟩ := k2
 have hz := jA z
 have e' : 2 = z.args.length := e
 have p0 := k4 0 (by show 0 < 2; omega) oM
 have p1 := k4 1 (by show 1 < 2; omega) oM
 have n0 := mN (List.getElem_mem (show 0 < z.args.length by omega))
 have n1 := mN (List.getElem_mem (show 1 < z.args.length by omega))
 refine ⟨fun a ha => ?_, _, p1, oM⟩
 rcases List.mem_append.1 ha with ha | ha
 ·exact k1 a ha
 ·rw [List.mem_singleton.1 ha]; exact ⟨_, p0, oM⟩
theorem kJ.bind {S : List aW} {w q a b : Ty} {az : List Ty} (h : kJ S w az q) (hb : dG S q = true) (hn : kl S q = cZ a b) : kJ S w az (cZ a b) := fun S' h1 h2 y hy => by
 obtain ⟨k1, z, k2, k3⟩ := h S' h1 h2 y hy
 have jX := h1.dG hb
 exact ⟨k1, z, (Pp (by rw [OO h2 jX.1, jX.2, hn])).1 k2, k3⟩
theorem Zv {S : List aW} {q : Ty} {x : aW} (hk : q.kind = 1) (h0 : 0 ≤ q.id) (hi : q.id.toNat < S.length) (hx : x.b = true) : dG (S.set q.id.toNat x) q = true ∧ kl (S.set q.id.toNat x) q = x.ty := by
 have e : (S.set q.id.toNat x)[q.id.toNat]? = some x := by rw [List.getElem?_set_self hi]
 exact ⟨by simp [dG, hk, h0, e, hx], by simp [kl, e]⟩
theorem HD (S : List aW) : gO S ≤ S.length := List.countP_le_length ..
end Go.Th

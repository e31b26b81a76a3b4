/- Texts of expressions: the walks of typedholesref8.atom, closed and Expr. -/
import Derived.Test.YtlnjfkfojkgiiaaGreatDoorK30
import Derived.Test.YtlnjfkfojkgiiaaGreatDoorK14
import Derived.Test.YtlnjfkfojkgiiaaGreatDoorRows
import Derived.LaidSub
import Derived.LaidLaws
import Derived.LaidHandle
import Derived.Stop.Joined
import Derived.Lay
open Go Go.aZ Go.Th Go.Proofs Tryz
set_option maxRecDepth 10000
set_option maxHeartbeats 4000000
namespace Go.Proofs.YtlnjfkfojkgiiaaGreatDoor
attribute [local irreducible] wpList Code.wp ah bodyPost Go.aZ.Ends Exit.then Exit.inBlock dJ Wq Kq
theorem QR (g : ab) (e : Ex) (v : Value) (hv : cT g v e) : Pure prog 58 [v] g (.bool (fU e.kind)) := by
 obtain ⟨a1, c1, a2, c2, a3, m3, c3, xk, xa, rfl, h1, h2, h3, h4, h5⟩ := hv.open
 refine aw func58 rfl ntmps58 rfl fun E hE => ?_
 refine aS ?_
 refine aP rfl rfl rfl (fun b1 => ?_)
 generalize e.kind = k
 refine wz.b.a.a.c.e.p.b.v.g.c.e.b.a.z ?_
 refine iJ 5 rfl (fun k1 => ?_) (fun k1 => ?_)
 ·refine wz.l.x.i.b.a.c.t.d.j.t.z ?_
  exact ao [] rfl rfl sM ⟨by simp [fU, k1], rfl, rfl⟩
 refine wz.b.a.a.c.o.z ?_
 refine iJ 5 rfl (fun k2 => ?_) (fun k2 => ?_)
 ·refine wz.l.x.i.b.a.c.t.d.j.t.z ?_
  exact ao [] rfl rfl sM ⟨by simp [fU, k2], rfl, rfl⟩
 refine wz.b.a.a.c.o.z ?_
 refine iJ 5 rfl (fun k3 => ?_) (fun k3 => ?_)
 ·refine wz.l.x.i.b.a.c.t.d.j.t.z ?_
  exact ao [] rfl rfl sM ⟨by simp [fU, k3], rfl, rfl⟩
 refine wz.b.a.a.c.o.z ?_
 refine iJ 5 rfl (fun k4 => ?_) (fun k4 => ?_)
 ·refine wz.l.x.i.b.a.c.t.d.j.t.z ?_
  exact ao [] rfl rfl sM ⟨by simp [fU, k4], rfl, rfl⟩
 refine wz.b.a.a.c.o.z ?_
 refine iJ 5 rfl (fun k5 => ?_) (fun k5 => ?_)
 ·refine wz.l.x.i.b.a.c.t.d.j.t.z ?_
  exact ao [] rfl rfl sM ⟨by simp [fU, k5], rfl, rfl⟩
 refine wz.b.a.a.r.o.z ?_
 refine iJ 5 rfl (fun k6 => ?_) (fun k6 => ?_)
 ·refine wz.l.x.i.b.a.c.t.z ?_
  exact ao [] rfl rfl sM ⟨by simp [fU, k6], rfl, rfl⟩
 refine wz.i.b.a.c.d.y.j.o.z ?_
 exact ao [] rfl rfl sM ⟨by simp [fU, k1, k2, k3, k4, k5, k6], rfl, rfl⟩
theorem IJ (g : ab) (e : Ex) (v : Value) (p : Bool) (hl : (bL e).length ≤ 1000000000000000) (hv : cT g v e) (hX : Pure prog 21 [v] g (str (bL e))) : Pure prog 57 [v, .bool p] g (str (if p then bL e else Go.Th.paren (bL e))) := by
 obtain ⟨a1, c1, a2, c2, a3, m3, c3, xk, xa, rfl, h1, h2, h3, h4, h5⟩ := hv.open
 refine aw func57 rfl ntmps57 rfl fun E hE => ?_
 refine aS ?_
 refine aP rfl rfl rfl (fun b2 => ?_)
 cases p with
 | true =>
  refine wz.G.c.t.b.a.c.e.b.a.z ?_; refine aO rfl rfl hX ?_; refine wz.l.i.b.a.z ?_
  exact ao [] rfl rfl sM ⟨rfl, rfl, rfl⟩
 | false =>
  refine wz.G.c.d.j.o.b.a.c.e.b.a.z ?_; refine aO rfl rfl hX ?_; refine wz.i.b.a.AA.AA.z ?_
  exact ao [] rfl rfl sM ⟨rfl, rfl, rfl⟩
theorem QS (g : ab) : ∀ (N : Nat) (e : Ex) (v : Value), aN e < N → eQ e → (bL e).length ≤ 1000000000000000 → cT g v e → Pure prog 21 [v] g (str (bL e))
 | 0, _, _, h, _, _, _ => by omega
 | N + 1, e, v, h, he, hl, hv => by
  have ih := QS g N
  obtain ⟨a1, c1, a2, c2, a3, m3, c3, xk, xa, rfl, h1, h2, h3, h4, h5⟩ := hv.open
  cases he with
  | var p n hn =>
   rw [sJ]
   show Pure prog 21 [.agg #[.int .i64 1, .int .i64 p, str n, .int .i64 0, .slice a1 0 c1, .slice a2 0 c2, .int .i64 0, str [], .int .i64 0, .int .i64 0, .slice a3 m3 c3]] g _
   refine aw func21 rfl ntmps21 rfl fun E hE => ?_
   refine aS ?_
   refine aP rfl rfl rfl (fun b1 => ?_)
   refine wz.l.x.i.b.a.v.g.c.t.d.j.t.b.a.a.c.e.p.b.v.g.c.e.b.a.z ?_
   exact ao [] rfl rfl sM ⟨rfl, rfl, rfl⟩
  | bQ p n hn =>
   rw [sK]
   show Pure prog 21 [.agg #[.int .i64 2, .int .i64 p, str n, .int .i64 0, .slice a1 0 c1, .slice a2 0 c2, .int .i64 0, str [], .int .i64 0, .int .i64 0, .slice a3 m3 c3]] g _
   refine aw func21 rfl ntmps21 rfl fun E hE => ?_
   refine aS ?_
   refine aP rfl rfl rfl (fun b1 => ?_)
   refine wz.l.x.i.b.a.v.g.c.t.b.a.a.r.o.b.a.a.c.e.p.b.v.g.c.e.b.a.z ?_
   exact ao [] rfl rfl sM ⟨rfl, rfl, rfl⟩
  | int p m hm =>
   rw [wM]
   show Pure prog 21 [.agg #[.int .i64 3, .int .i64 p, str [], .int .i64 m, .slice a1 0 c1, .slice a2 0 c2, .int .i64 0, str [], .int .i64 0, .int .i64 0, .slice a3 m3 c3]] g _
   refine aw func21 rfl ntmps21 rfl fun E hE => ?_
   refine aS ?_
   refine aP rfl rfl rfl (fun b1 => ?_)
   refine wz.v.g.c.t.b.a.a.c.o.b.a.a.r.o.b.a.a.c.e.p.b.v.g.c.e.b.a.z ?_
   refine aO rfl rfl (TV g m hm) ?_
   refine wz.l.x.i.b.a.z ?_
   exact ao [] rfl rfl sM ⟨rfl, rfl, rfl⟩
  | hole p =>
   rw [wO]
   show Pure prog 21 [.agg #[.int .i64 10, .int .i64 p, str [], .int .i64 0, .slice a1 0 c1, .slice a2 0 c2, .int .i64 0, str [], .int .i64 0, .int .i64 0, .slice a3 m3 c3]] g _
   refine aw func21 rfl ntmps21 rfl fun E hE => ?_
   refine aS ?_
   refine aP rfl rfl rfl (fun b1 => ?_)
   refine wz.l.x.i.b.a.c.t.b.a.a.c.o.b.a.a.c.o.b.a.a.r.o.b.a.a.c.e.p.b.v.g.c.e.b.a.z ?_
   exact ao [] rfl rfl sM ⟨rfl, rfl, rfl⟩
  | lam p n b hn hb =>
   replace h1 : au g 11 (.slice a1 1 c1) 1 xk := h1
   replace h2 : dp g [b] xk := h2
   obtain ⟨b0, off, cap, aq, hx⟩ := h1.held (show 0 < 1 by omega)
   cases aq
   obtain ⟨c, k1, hr⟩ := me h2 hx (i := 0) sM
   replace k1 : cJ g b c := k1
   have bN : aN b < N := by simp [bC, aN, cd] at h; omega
   rw [qT] at hl ⊢
   simp only [List.length_append, List.length_cons, List.length_nil] at hl
   show Pure prog 21 [.agg #[.int .i64 4, .int .i64 p, str n, .int .i64 0, .slice (some ⟨b0, off, none⟩) 1 c1, .slice a2 0 c2, .int .i64 0, str [], .int .i64 0, .int .i64 0, .slice a3 m3 c3]] g _
   refine aw func21 rfl ntmps21 rfl fun E hE => ?_
   refine aS ?_
   refine aP rfl rfl rfl (fun b1 => ?_)
   refine wz.CN.Q.J.AQ.AQ.Q.J.Ab.e.t.b.a.a.c.o.b.a.a.c.o.b.a.a.c.o.b.a.a.r.o.b.a.a.c.e.p.b.v.g.c.e.b.a.z ?_
   refine bR rfl (dL rfl (hr _) k1.one.1) ?_
   refine iy rfl rfl (ih b _ bN hb oM ⟨c, rfl, k1⟩) ?_
   refine wz.l.x.i.d.T.s.AQ.z ?_
   exact ao [] rfl rfl sM ⟨sM, rfl, rfl⟩
  | app p f a hf ha =>
   replace h1 : au g 11 (.slice a1 2 c1) 2 xk := h1
   replace h2 : dp g [f, a] xk := h2
   obtain ⟨b0, off, cap, aq, hx⟩ := h1.held (show 0 < 2 by omega)
   cases aq
   obtain ⟨cf, kf, xO⟩ := me h2 hx (i := 0) sM
   obtain ⟨ca, ka, dF⟩ := me h2 hx (i := 1) sM
   replace kf : cJ g f cf := kf
   replace ka : cJ g a ca := ka
   have hsf : aN f < N := by simp [bC, aN, cd] at h; omega
   have jv : aN a < N := by simp [bC, aN, cd] at h; omega
   rw [pW] at hl ⊢
   simp only [List.length_append, List.length_cons, List.length_nil] at hl
   have uU : (bL f).length ≤ (nu f).length := by
    unfold nu
    split
    ·exact Nat.le_refl _
    ·unfold Go.Th.paren; simp only [List.length_cons, List.length_append, List.length_nil]; omega
   have GI : (bL a).length ≤ (lE a).length := by
    unfold lE
    split
    ·exact Nat.le_refl _
    ·unfold Go.Th.paren; simp only [List.length_cons, List.length_append, List.length_nil]; omega
   have D5 : cT g (.agg cf.toArray) f := ⟨cf, rfl, kf⟩
   have yJ : cT g (.agg ca.toArray) a := ⟨ca, rfl, ka⟩
   have rG := ih f _ hsf hf oM D5
   have iha := ih a _ jv ha oM yJ
   obtain ⟨f1, f2, f3, f4, f5, f6, f7, f8, f9, ef, _⟩ := D5.form
   obtain ⟨e1, e2, e3, e4, e5, e6, e7, e8, e9, ea, _⟩ := yJ.form
   have B6 : cf = [.int .i64 f.kind, .int .i64 f.pos, str f.name, .int .i64 f.num, .slice f1 f2 f3, .slice f4 f5 f6, .int .i64 f.ty.kind, str f.ty.name, .int .i64 f.ty.id, .int .i64 f.ty.home, .slice f7 f8 f9] := by simpa using ef
   have hca : ca = [.int .i64 a.kind, .int .i64 a.pos, str a.name, .int .i64 a.num, .slice e1 e2 e3, .slice e4 e5 e6, .int .i64 a.ty.kind, str a.ty.name, .int .i64 a.ty.id, .int .i64 a.ty.home, .slice e7 e8 e9] := by simpa using ea
   subst B6
   subst hca
   have D6 := QR g f _ D5
   have QT := QR g a _ yJ
   obtain ⟨k5, QU⟩ : ∃ k : Int, k = 5 := ⟨_, rfl⟩
   show Pure prog 21 [.agg #[.int .i64 5, .int .i64 p, str [], .int .i64 0, .slice (some ⟨b0, off, none⟩) 2 c1, .slice a2 0 c2, .int .i64 0, str [], .int .i64 0, .int .i64 0, .slice a3 m3 c3]] g _
   rw [← QU]
   refine aw func21 rfl ntmps21 rfl fun E hE => ?_
   refine aS ?_
   refine aP rfl rfl rfl (fun b1 => ?_)
   refine wz.b.a.a.c.e.p.b.v.g.c.e.b.a.z ?_
   refine iJ 10 rfl (fun h => absurd h oM) (fun _ => ?_)
   refine wz.b.a.a.r.o.z ?_
   refine iJ 10 rfl (fun h => absurd h oM) (fun _ => ?_)
   refine wz.b.a.a.c.o.z ?_
   refine iJ 15 rfl (fun h => absurd h oM) (fun _ => ?_)
   refine wz.b.a.a.c.o.z ?_
   refine iJ 20 rfl (fun h => absurd h oM) (fun _ => ?_)
   refine wz.b.a.a.c.o.z ?_
   refine iJ 22 rfl (fun h => absurd h oM) (fun _ => ?_)
   refine wz.b.a.a.c.o.z ?_
   refine iJ 34 rfl (fun _ => ?_) (fun h => absurd QU h)
   refine wz.t.z ?_
   refine cD (ι := Nat × Nat) (fun p => [(3, ptr p.1 0), (4, ptr p.2 0)]) (fun _ => g)
    (fun p => [.ae p.2 47 [.int .i64 a.kind, .int .i64 a.pos, str a.name, .int .i64 a.num, .slice e1 e2 e3, .slice e4 e5 e6, .int .i64 a.ty.kind, str a.ty.name, .int .i64 a.ty.id, .int .i64 a.ty.home, .slice e7 e8 e9], .ae p.1 47 [.int .i64 f.kind, .int .i64 f.pos, str f.name, .int .i64 f.num, .slice f1 f2 f3, .slice f4 f5 f6, .int .i64 f.ty.kind, str f.ty.name, .int .i64 f.ty.id, .int .i64 f.ty.home, .slice f7 f8 f9]]) (fun _ => True) ?_ ?_
   ·rintro ⟨b3, b4⟩ -
    try dsimp only
    have key : ∀ p : Bool, p = jC f.kind → Pure prog 57 [.agg #[.int .i64 f.kind, .int .i64 f.pos, str f.name, .int .i64 f.num, .slice f1 f2 f3, .slice f4 f5 f6, .int .i64 f.ty.kind, str f.ty.name, .int .i64 f.ty.id, .int .i64 f.ty.home, .slice f7 f8 f9], .bool p] g (str (nu f)) := fun p hp => by
     have := IJ g f _ p oM D5 rG
     subst hp
     exact this
    cases hk : fU f.kind with
    | true =>
     rw [hk] at D6
     have kc := key true (by simp [jC, hk])
     refine wz.CO.CO.Ab.e.z ?_; refine iy rfl rfl D6 ?_; refine wz.s.n.n.n.s.z ?_; refine iy rfl rfl kc ?_; refine wz.BT.BT.AQ.z ?_; refine iy rfl rfl QT ?_
     refine iy rfl rfl (IJ g a _ _ oM yJ iha) ?_
     refine bR rfl (B0 rfl rfl (by have : (if fU a.kind = true then bL a else Go.Th.paren (bL a)).length = (lE a).length := rfl; simp only [List.length_append, List.length_cons, List.length_nil]; omega)) ?_
     refine wz.l.x.i.d.T.s.z ?_
     exact ao [] rfl rfl sM ⟨by simp [lE], rfl, rfl⟩
    | false =>
     rw [hk] at D6
     have kc := key (decide (f.kind = 5)) (by simp [jC, hk])
     refine wz.CO.CO.Ab.e.z ?_; refine iy rfl rfl D6 ?_; refine wz.s.L.BQ.H.J.H.s.z ?_; refine iy rfl rfl kc ?_; refine wz.BT.BT.AQ.z ?_; refine iy rfl rfl QT ?_
     refine iy rfl rfl (IJ g a _ _ oM yJ iha) ?_
     refine bR rfl (B0 rfl rfl (by have : (if fU a.kind = true then bL a else Go.Th.paren (bL a)).length = (lE a).length := rfl; simp only [List.length_append, List.length_cons, List.length_nil]; omega)) ?_
     refine wz.l.x.i.d.T.s.z ?_
     exact ao [] rfl rfl sM ⟨by simp [lE], rfl, rfl⟩
   ·intro K hK
    refine bO [] mixed (fun hG => ?_)
    refine wz.P.z ?_; refine ⟨_, (aI rfl), ?_⟩; refine wz.R.z ?_; refine ⟨_, (a7 0 rfl rfl rfl), ?_⟩
    refine wz.Dh.z ?_
    refine bn 3 rfl kR rfl hG ⟨_, (dL rfl (xO _) rfl), ?_⟩
    refine wz.Z.z ?_; refine ⟨_, (aI rfl), ?_⟩; refine wz.Ad.z ?_; refine ⟨_, (a7 0 rfl rfl rfl), ?_⟩
    refine wz.Di.z ?_
    refine bn 7 rfl kR rfl hG ⟨_, (dL rfl (dF _) rfl), ?_⟩
    refine eH 8 9 kR rfl rfl ?_ ?_
    ·refine aj rfl (fun b3 => ?_)
     refine wz.Ai.f.b.z ?_
     refine aj rfl (fun b4 => ?_)
     refine wz.Dr.d.F.f.b.q.Bf.f.b.B.AW.f.b.z ?_
     exact hK (b3, b4) _ trivial ⟨rfl, rfl, trivial⟩
    ·refine aj rfl (fun b4 => ?_)
     refine wz.Ae.f.b.z ?_
     refine aj rfl (fun b3 => ?_)
     refine wz.Dr.AP.d.F.f.b.B.Bf.f.b.q.AW.f.b.z ?_
     exact hK (b3, b4) _ trivial ⟨rfl, rfl, trivial⟩
  | bind k p n a b hk hn ha hb =>
   replace h1 : au g 11 (.slice a1 2 c1) 2 xk := h1
   replace h2 : dp g [a, b] xk := h2
   obtain ⟨b0, off, cap, aq, hx⟩ := h1.held (show 0 < 2 by omega)
   cases aq
   obtain ⟨ca, ka, dF⟩ := me h2 hx (i := 0) sM
   obtain ⟨cb, kb, yI⟩ := me h2 hx (i := 1) sM
   replace ka : cJ g a ca := ka
   replace kb : cJ g b cb := kb
   have jv : aN a < N := by simp [bC, aN, cd] at h; omega
   have ss : aN b < N := by simp [bC, aN, cd] at h; omega
   have e3 : dI.length = 3 ∧ fy.length = 3 ∧ iC.length = 2 := by decide
   rcases hk with rfl | rfl
   ·rw [sL] at hl ⊢
    simp only [List.length_append, List.length_cons, List.length_nil] at hl
    show Pure prog 21 [.agg #[.int .i64 6, .int .i64 p, str n, .int .i64 0, .slice (some ⟨b0, off, none⟩) 2 c1, .slice a2 0 c2, .int .i64 0, str [], .int .i64 0, .int .i64 0, .slice a3 m3 c3]] g _
    refine aw func21 rfl ntmps21 rfl fun E hE => ?_
    refine aS ?_
    refine aP rfl rfl rfl (fun b1 => ?_)
    refine wz.CN.Q.J.AQ.AQ.Q.J.Ab.e.t.b.a.a.c.o.b.a.a.c.o.b.a.a.c.o.b.a.a.c.o.b.a.a.c.o.b.a.a.r.o.b.a.a.c.e.p.b.v.g.c.e.b.a.z ?_
    refine bR rfl (dL rfl (dF _) ka.one.1) ?_
    refine iy rfl rfl (ih a _ jv ha oM ⟨ca, rfl, ka⟩) ?_
    refine wz.Q.J.AQ.AQ.z ?_; refine bR rfl (bU (j := 1) rfl rfl rfl oM) ?_
    refine bR rfl (dL rfl (yI _) kb.one.1) ?_
    refine iy rfl rfl (ih b _ ss hb oM ⟨cb, rfl, kb⟩) ?_
    refine wz.l.x.i.d.T.s.AQ.z ?_
    exact ao [] rfl rfl sM ⟨by simp [dI, iC], rfl, rfl⟩
   ·rw [sN] at hl ⊢
    simp only [List.length_append, List.length_cons, List.length_nil] at hl
    show Pure prog 21 [.agg #[.int .i64 7, .int .i64 p, str n, .int .i64 0, .slice (some ⟨b0, off, none⟩) 2 c1, .slice a2 0 c2, .int .i64 0, str [], .int .i64 0, .int .i64 0, .slice a3 m3 c3]] g _
    refine aw func21 rfl ntmps21 rfl fun E hE => ?_
    refine aS ?_
    refine aP rfl rfl rfl (fun b1 => ?_)
    refine wz.CN.Q.J.AQ.AQ.Q.J.Ab.e.t.b.a.a.c.o.b.a.a.c.o.b.a.a.c.o.b.a.a.c.o.b.a.a.c.o.b.a.a.c.o.b.a.a.r.o.b.a.a.c.e.p.b.v.g.c.e.b.a.z ?_
    refine bR rfl (dL rfl (dF _) ka.one.1) ?_
    refine iy rfl rfl (ih a _ jv ha oM ⟨ca, rfl, ka⟩) ?_
    refine wz.Q.J.AQ.AQ.z ?_; refine bR rfl (bU (j := 1) rfl rfl rfl oM) ?_
    refine bR rfl (dL rfl (yI _) kb.one.1) ?_
    refine iy rfl rfl (ih b _ ss hb oM ⟨cb, rfl, kb⟩) ?_
    refine wz.l.x.i.d.T.s.AQ.z ?_
    exact ao [] rfl rfl sM ⟨by simp [dI, fy, iC], rfl, rfl⟩
  | iY p x t hx0 ht =>
   replace h1 : au g 11 (.slice a1 1 c1) 1 xk := h1
   replace h2 : dp g [x] xk := h2
   replace h5 : bx g t (aH t (.slice a3 m3 c3)) := h5
   obtain ⟨b0, off, cap, aq, hx⟩ := h1.held (show 0 < 1 by omega)
   cases aq
   obtain ⟨c, k1, hr⟩ := me h2 hx (i := 0) sM
   replace k1 : cJ g x c := k1
   have bN : aN x < N := by simp [h_, aN, cd] at h; omega
   rw [sO] at hl ⊢
   simp only [List.length_append, List.length_cons, List.length_nil] at hl
   show Pure prog 21 [.agg #[.int .i64 9, .int .i64 p, str [], .int .i64 0, .slice (some ⟨b0, off, none⟩) 1 c1, .slice a2 0 c2, .int .i64 t.kind, str t.name, .int .i64 t.id, .int .i64 t.home, .slice a3 m3 c3]] g _
   refine aw func21 rfl ntmps21 rfl fun E hE => ?_
   refine aS ?_
   refine aP rfl rfl rfl (fun b1 => ?_)
   refine wz.CN.Q.J.Ab.e.t.b.a.a.c.o.b.a.a.c.o.b.a.a.c.o.b.a.a.c.o.b.a.a.c.o.b.a.a.c.o.b.a.a.c.o.b.a.a.r.o.b.a.a.c.e.p.b.v.g.c.e.b.a.z ?_
   refine bR rfl (dL rfl (hr _) k1.one.1) ?_
   refine iy rfl rfl (ih x _ bN hx0 oM ⟨c, rfl, k1⟩) ?_
   refine wz.BT.J.AQ.AQ.z ?_
   refine iy rfl rfl (Fq g t _ ht oM ⟨_, rfl, h5⟩) ?_
   refine wz.l.x.i.d.T.s.AQ.AQ.z ?_
   exact ao [] rfl rfl sM ⟨sM, rfl, rfl⟩
  | held p x hx0 =>
   replace h1 : au g 11 (.slice a1 1 c1) 1 xk := h1
   replace h2 : dp g [x] xk := h2
   obtain ⟨b0, off, cap, aq, hx⟩ := h1.held (show 0 < 1 by omega)
   cases aq
   obtain ⟨c, k1, hr⟩ := me h2 hx (i := 0) sM
   replace k1 : cJ g x c := k1
   have bN : aN x < N := by simp [bC, aN, cd] at h; omega
   rw [sP] at hl ⊢
   simp only [List.length_append, List.length_cons, List.length_nil] at hl
   show Pure prog 21 [.agg #[.int .i64 11, .int .i64 p, str [], .int .i64 0, .slice (some ⟨b0, off, none⟩) 1 c1, .slice a2 0 c2, .int .i64 0, str [], .int .i64 0, .int .i64 0, .slice a3 m3 c3]] g _
   refine aw func21 rfl ntmps21 rfl fun E hE => ?_
   refine aS ?_
   refine aP rfl rfl rfl (fun b1 => ?_)
   refine wz.CF.v.g.c.t.b.a.a.c.o.b.a.a.c.o.b.a.a.c.o.b.a.a.c.o.b.a.a.c.o.b.a.a.c.o.b.a.a.c.o.b.a.a.c.o.b.a.a.r.o.b.a.a.c.e.p.b.v.g.c.e.b.a.z ?_
   refine eY rfl rfl (hr _) k1.one.1 ?_
   refine aO rfl rfl (ih x _ bN hx0 oM ⟨c, rfl, k1⟩) ?_
   refine wz.l.x.i.b.a.AA.AA.z ?_
   exact ao [] rfl rfl sM ⟨sM, rfl, rfl⟩
  | case p x aa hx0 hne hc ha => exact VT g N ih p x aa _ h hx0 ha hl hv
theorem aB6 (g : ab) (e : Ex) (v : Value) (he : eQ e) (hl : (bL e).length ≤ 1000000000000000) (hv : cT g v e) : Pure prog 21 [v] g (str (bL e)) := QS g _ e v (Nat.lt_succ_self _) he hl hv
end Go.Proofs.YtlnjfkfojkgiiaaGreatDoor
namespace Go.Th
mutual
def yK : Ty → Bool
 | .mk k n i h a => (decide (k = 5 ∧ kindOf n = 1 ∧ i = 0 ∧ h = 0) && a.isEmpty) || (decide (k = 4 ∧ i = 0 ∧ h = 0) && (decide (kindOf n = 2) || (decide (n = eg) && decide (a.length = 2))) && D7 a)
def D7 : List Ty → Bool
 | [] => true
 | a :: r => yK a && D7 r
end
theorem QV : ∀ t : Ty, yK t = true → fr t := by
 refine kH fun t ih h => ?_
 obtain ⟨k, n, i, hh, a⟩ := t
 simp only [Ty.args] at ih
 have hall : ∀ l : List Ty, D7 l = true → ∀ x ∈ l, yK x = true := by
  intro l
  induction l with
  | nil => intro _ x hx; cases hx
  | cons y r oG =>
   intro hy x hx
   simp only [D7, Bool.and_eq_true] at hy
   rcases List.mem_cons.1 hx with rfl | hx
   ·exact hy.1
   ·exact oG hy.2 x hx
 simp only [yK, Bool.or_eq_true, Bool.and_eq_true, decide_eq_true_eq, List.isEmpty_iff] at h
 rcases h with ⟨⟨rfl, h1, rfl, rfl⟩, rfl⟩ | ⟨⟨⟨rfl, rfl, rfl⟩, h1⟩, h2⟩
 ·exact .name n h1
 ·rcases h1 with h1 | ⟨rfl, h1⟩
  ·exact .bQ n a h1 (fun x hx => ih x hx (hall a h2 x hx))
  ·match a, h1 with
   | [x, y], _ => exact .arrow x y (ih x sM (hall _ h2 x sM)) (ih y sM (hall _ h2 y sM))
structure QW (d : Da) : Prop where
 g : uK d
 n : d.name.length ≤ 6
 pl : d.params.length ≤ 2
 p : ∀ s ∈ d.params, s.length ≤ 6
 cl : d.cons.length ≤ 2
 c : ∀ c ∈ d.cons, c.name.length ≤ 6 ∧ c.fields.length ≤ 2 ∧ ∀ t ∈ c.fields, fr t ∧ (cK t).length ≤ 100
def IK (d : Da) : Bool := decide (kindOf d.name = 2) && decide (d.name.length ≤ 6) && decide (d.params.length ≤ 2) && (d.params.all fun s => decide (kindOf s = 1) && decide (s.length ≤ 6)) && decide (d.cons.length ≤ 2) && !d.cons.isEmpty &&
 d.cons.all fun c => decide (kindOf c.name = 2) && decide (c.name.length ≤ 6) && decide (c.fields.length ≤ 2) && c.fields.all fun t => yK t && decide ((cK t).length ≤ 100)
theorem aB7 {d : Da} (h : IK d = true) : QW d := by
 simp only [IK, Bool.and_eq_true, decide_eq_true_eq, List.all_eq_true, Bool.not_eq_true', List.isEmpty_eq_false_iff] at h
 obtain ⟨⟨⟨⟨⟨⟨h1, h2⟩, h3⟩, h4⟩, h5⟩, h6⟩, h7⟩ := h
 refine ⟨⟨h1, fun s hs => (h4 s hs).1, h6, fun c hc => ⟨(h7 c hc).1.1.1, fun t ht => QV t ((h7 c hc).2 t ht).1⟩⟩, h2, h3, fun s hs => (h4 s hs).2, h5, fun c hc => ⟨(h7 c hc).1.1.2, (h7 c hc).1.2, fun t ht => ⟨QV t ((h7 c hc).2 t ht).1, ((h7 c hc).2 t ht).2⟩⟩⟩
theorem QX : ∀ x y : List Cn, mF (x ++ y) = mF x ++ mF y
 | [], y => rfl
 | c :: x, y => by simp only [List.cons_append, mF, QX x y, List.append_assoc]
theorem aB8 {l : List Cn} {k : Nat} (h : k < l.length) : nv (l.take (k + 1)) = nv (l.take k) ++ ((if k = 0 then [] else [32, 124]) ++ sU l[k]) := by
 cases l with
 | nil => cases h
 | cons c r =>
  cases k with
  | zero => simp [nv, mF]
  | succ k =>
   have hk : k < r.length := by simpa using h
   rw [List.take_succ_cons, List.take_succ_cons, List.take_succ_eq_append_getElem hk]
   simp only [nv, QX, mF, List.append_nil, List.append_assoc, List.getElem_cons_succ, if_neg (Nat.succ_ne_zero k)]
theorem QY {α : Type} {f : α → Bytes} {l : List α} {k : Nat} (h : k < l.length) : (l.take (k + 1)).flatMap f = (l.take k).flatMap f ++ f l[k] := by
 rw [List.take_succ_eq_append_getElem h, List.flatMap_append, List.flatMap_cons, List.flatMap_nil, List.append_nil]
end Go.Th
namespace Go.Proofs.YtlnjfkfojkgiiaaGreatDoor
attribute [local irreducible] wpList Code.wp ah bodyPost Go.aZ.Ends Exit.then Exit.inBlock dJ Wq Kq
theorem IL : ∀ d ∈ ja, QW d := fun d hd => aB7 (List.all_eq_true.1 (show ja.all IK = true by kernel_rfl) d hd)
end Go.Proofs.YtlnjfkfojkgiiaaGreatDoor
namespace Go.Proofs.YtlnjfkfojkgiiaaGreatDoor
attribute [local irreducible] wpList Code.wp ah bodyPost Go.aZ.Ends Exit.then Exit.inBlock dJ Wq Kq
theorem aB9 (g : ab) (p : Pg) (v : Value) (hv : ll g v p) (hp : qz 3000 p) : Pure prog 7 [v] g (str (o_ p)) := by
 obtain ⟨_, rfl, sd, xd, sb, xb, rfl, h1, h2, h3, h4⟩ := hv
 obtain ⟨da, dc, rfl⟩ := aU h1
 obtain ⟨ba, bc, rfl⟩ := aU h3
 have r_ := hp.dl
 have tx := hp.bl
 refine aw func7 rfl ntmps7 rfl fun E hE => ?_
 refine aS ?_
 refine aP rfl rfl rfl (fun b1 => ?_)
 refine wz.p.b.a.c.e.b.a.c.b.a.z ?_
 refine aX (ι := Nat) (fun i => [(1, ptr b1 0), (3, str ((p.al.take i).flatMap nw)), (4, .int .i64 i)]) (fun _ => g) (fun _ => [.ae b1 28 [.slice da p.al.length dc, .slice ba p.binds.length bc]]) (fun i => i ≤ p.al.length ∧ ((p.al.take i).flatMap nw).length ≤ 1000 * i) (fun i => p.al.length - i) 0 ⟨Nat.zero_le _, sM⟩ ⟨rfl, rfl, rfl, trivial⟩ rfl rfl ?_
 rintro i ⟨hi, dw⟩
 refine wz.b.a.A.v.g.a.c.e.z ?_
 refine an rfl (fun hlt => ?_) (fun hlt => ?_)
 ·have dR : i < p.al.length := by omega
  obtain ⟨b, off, cap, aq, hx⟩ := h1.held dR
  cases aq
  obtain ⟨cs, e1, hr⟩ := dt (fun _ _ h => h.one.1) h2 hx dR
  have o6 := IL _ (hp.d _ (List.getElem_mem dR))
  have IM := QY (f := nw) dR
  generalize p.al[i] = d at e1 hr o6 IM
  obtain ⟨p1, p2, p3, p4, xc, rfl, qd, lQ, tP⟩ := e1.form
  obtain ⟨sg, sn, spl, sp, scl, sc⟩ := o6
  generalize hDi : (p.al.take i).flatMap nw = Di at *
  refine wz.An.M.a.v.g.c.p.e.d.j.z ?_
  skip
  refine aj rfl (fun b5 => ?_)
  refine wz.p.b.a.c.e.b.a.AR.AR.v.g.a.c.b.q.z ?_
  obtain ⟨S1, lN⟩ : ∃ S1, S1 = Di ++ ([100, 97, 116, 97, 32] ++ d.name) := ⟨_, rfl⟩
  have Mo : S1.length ≤ 1000 * i + 11 := by rw [lN]; simp; omega
  rw [← lN]
  refine aX (ι := Nat) (fun j => [(1, ptr b1 0), (3, str (S1 ++ eU (d.params.take j))), (4, .int .i64 i), (5, ptr b5 0), (6, .int .i64 j)]) (fun _ => g) (fun _ => [.ae b5 60 [.int .i64 d.pos, str d.name, .slice p1 d.params.length p2, .slice p3 d.cons.length p4], .ae b1 28 [.slice (some ⟨b, off, none⟩) p.al.length dc, .slice ba p.binds.length bc]])
   (fun j => j ≤ d.params.length ∧ (eU (d.params.take j)).length ≤ 7 * j) (fun j => d.params.length - j) 0 ⟨Nat.zero_le _, by simp [eU]⟩ ⟨rfl, by simp [eU]; rfl, rfl, rfl, rfl, trivial⟩ rfl rfl ?_
  rintro j ⟨hj, eK⟩
  refine wz.b.a.A.v.g.a.c.e.z ?_
  refine an rfl (fun dk => ?_) (fun dk => ?_)
  ·have dr : j < d.params.length := by omega
   obtain ⟨b2, IN, cp2, lz, jd⟩ := qd.held dr
   cases lz
   have QZ := Mm dr
   have hlen := sp _ (List.getElem_mem dr)
   refine wz.M.a.v.g.a.r.p.e.d.j.z ?_
   refine cj rfl rfl (eT (jd (j * 1) (str d.params[j]) (by simp [dr]))) ?_
   refine wz.b.a.E.a.r.d.y.N.a.AR.AR.z ?_
   exact aM (j + 1) ⟨oM, by rw [QZ]; simp; omega⟩ oM ⟨rfl, oO rfl (by rw [QZ]; simp), rfl, rfl, rfl, trivial⟩ rfl rfl
  ·obtain rfl : j = d.params.length := by omega
   rw [List.take_length] at eK ⊢
   refine wz.p.b.a.c.e.b.a.AR.a.c.d.D.m.m.C.z ?_
   obtain ⟨S2, pD⟩ : ∃ S2, S2 = (S1 ++ eU d.params) ++ [32, 61] := ⟨_, rfl⟩
   have aCA : S2.length ≤ 1000 * i + 30 := by rw [pD]; simp; omega
   rw [← pD]
   refine aX (ι := Nat) (fun k => [(1, ptr b1 0), (3, str (S2 ++ nv (d.cons.take k))), (4, .int .i64 i), (5, ptr b5 0), (7, .int .i64 k)]) (fun _ => g) (fun _ => [.ae b5 60 [.int .i64 d.pos, str d.name, .slice p1 d.params.length p2, .slice p3 d.cons.length p4], .ae b1 28 [.slice (some ⟨b, off, none⟩) p.al.length dc, .slice ba p.binds.length bc]])
    (fun k => k ≤ d.cons.length ∧ (nv (d.cons.take k)).length ≤ 300 * k) (fun k => d.cons.length - k) 0 ⟨Nat.zero_le _, by simp [nv]⟩ ⟨rfl, by simp [nv]; rfl, rfl, rfl, rfl, trivial⟩ rfl rfl ?_
   rintro k ⟨hk, dj⟩
   refine wz.b.a.A.v.g.a.c.e.z ?_
   refine an rfl (fun iM => ?_) (fun iM => ?_)
   ·have c_ : k < d.cons.length := by omega
    obtain ⟨b3, Q0, cp3, aCB, pj⟩ := lQ.held c_
    cases aCB
    obtain ⟨cs3, y1, gD⟩ := dt (fun _ _ h => h.one.1) tP pj c_
    have IP := aB8 c_
    obtain ⟨cn1, cn2, Q1⟩ := sc _ (List.getElem_mem c_)
    generalize d.cons[k] = c at y1 gD IP cn1 cn2 Q1
    obtain ⟨f1, f2, xf, rfl, gF, mY⟩ := y1.form
    generalize hA : nv (d.cons.take k) = A at *
    refine wz.p.e.d.j.z ?_
    refine cD (ι := Unit) (fun _ => [(1, ptr b1 0), (3, str ((S2 ++ A) ++ (if k = 0 then [] else [32, 124]))), (4, .int .i64 i), (5, ptr b5 0), (7, .int .i64 k)]) (fun _ => g) (fun _ => [.ae b5 60 [.int .i64 d.pos, str d.name, .slice p1 d.params.length p2, .slice (some ⟨b3, Q0, none⟩) d.cons.length p4], .ae b1 28 [.slice (some ⟨b, off, none⟩) p.al.length dc, .slice ba p.binds.length bc]]) (fun _ => True) ?_ ?_
    case refine_2 =>
     intro K hK
     refine wz.b.a.a.c.z ?_
     refine an rfl (fun qQ => ?_) (fun qQ => ?_)
     ·have IQ : k ≠ 0 := by omega
      refine wz.b.a.AR.a.r.z ?_
      exact hK () _ trivial ⟨rfl, oO rfl (by rw [if_neg IQ]), rfl, rfl, rfl, trivial⟩
     ·have IQ : k = 0 := by omega
      refine wz.d.j.z ?_
      exact hK () _ trivial ⟨rfl, oO rfl (by rw [if_pos IQ, List.append_nil]), rfl, rfl, rfl, trivial⟩
    rintro _ -
    obtain ⟨S3, pG⟩ : ∃ S3, S3 = (S2 ++ A) ++ (if k = 0 then [] else [32, 124]) := ⟨_, rfl⟩
    have aCC : S3.length ≤ 1000 * i + 32 + 300 * k := by rw [pG]; split <;> simp <;> omega
    rw [← pG]
    try dsimp only
    refine wz.g.M.a.v.g.a.c.z ?_
    refine cj rfl rfl ((gD _).du 1 rfl) ?_
    refine wz.p.b.a.c.b.a.AR.AR.z ?_
    obtain ⟨S4, lg⟩ : ∃ S4, S4 = S3 ++ ([32] ++ c.name) := ⟨_, rfl⟩
    have aCD : S4.length ≤ 1000 * i + 39 + 300 * k := by rw [lg]; simp; omega
    rw [← lg]
    refine aX (ι := Nat) (fun f => [(1, ptr b1 0), (3, str (S4 ++ eN (c.fields.take f))), (4, .int .i64 i), (5, ptr b5 0), (7, .int .i64 k), (8, .int .i64 f)]) (fun _ => g) (fun _ => [.ae b5 60 [.int .i64 d.pos, str d.name, .slice p1 d.params.length p2, .slice (some ⟨b3, Q0, none⟩) d.cons.length p4], .ae b1 28 [.slice (some ⟨b, off, none⟩) p.al.length dc, .slice ba p.binds.length bc]])
     (fun f => f ≤ c.fields.length ∧ (eN (c.fields.take f)).length ≤ 103 * f) (fun f => c.fields.length - f) 0 ⟨Nat.zero_le _, by simp [eN]⟩ ⟨rfl, by simp [eN]; rfl, rfl, rfl, rfl, rfl, trivial⟩ rfl rfl ?_
    rintro f ⟨hf, pI⟩
    refine wz.g.M.a.v.g.a.c.e.z ?_
    refine cj rfl rfl ((gD _).du 2 rfl) ?_
    refine wz.b.a.A.z ?_
    refine an rfl (fun Gd => ?_) (fun Gd => ?_)
    ·have vN : f < c.fields.length := by omega
     obtain ⟨b4, of4, cp4, Hj, FF⟩ := gF.held vN
     cases Hj
     obtain ⟨s1, t1, r1⟩ := eZ mY FF vN
     have IS := Ky vN
     obtain ⟨gt, gl⟩ := Q1 _ (List.getElem_mem vN)
     have n7 := Fc c.fields[f]
     generalize c.fields[f] = ft at t1 r1 IS gt gl n7
     refine wz.g.M.a.v.g.a.r.p.e.d.j.z ?_
     refine cj rfl rfl ((gD _).du 2 rfl) ?_
     refine wz.M.a.z ?_
     refine eY rfl rfl (r1 _) rfl ?_
     refine aO rfl rfl (KB g ft _ oM ⟨_, rfl, t1⟩ (Fq g ft _ gt oM ⟨_, rfl, t1⟩)) ?_
     refine wz.b.a.E.a.r.d.y.N.a.AR.AR.z ?_
     exact aM (f + 1) ⟨oM, by rw [IS]; simp; omega⟩ oM ⟨rfl, oO rfl (by rw [IS]; simp), rfl, rfl, rfl, rfl, trivial⟩ rfl rfl
    ·obtain rfl : f = c.fields.length := by omega
     rw [List.take_length] at pI ⊢
     refine wz.b.a.E.a.r.d.y.D.m.m.C.z ?_
     have jt : A ++ ((if k = 0 then [] else [32, 124]) ++ sU c) = A ++ ((if k = 0 then [] else [32, 124]) ++ ([32] ++ c.name ++ eN c.fields)) := by simp [sU]
     exact aM (k + 1) ⟨oM, by rw [IP, jt]; split <;> simp <;> omega⟩ oM ⟨rfl, oO rfl (by rw [IP, jt, lg, pG]; simp), rfl, rfl, rfl, trivial⟩ rfl rfl
   ·obtain rfl : k = d.cons.length := by omega
    rw [List.take_length] at dj ⊢
    refine wz.Bk.b.a.E.a.r.d.y.N.a.AR.a.r.d.D.m.m.C.z ?_
    have jt : Di ++ nw d = (S2 ++ nv d.cons) ++ [59, 10] := by
     rw [pD, lN]
     simp [nw, eC]
    exact aM (i + 1) ⟨oM, by rw [IM, jt]; simp; omega⟩ oM ⟨rfl, oO rfl (by rw [IM, jt]), rfl, trivial⟩ rfl rfl
 ·obtain rfl : i = p.al.length := by omega
  rw [List.take_length] at dw ⊢
  have aCE : (p.al.flatMap nw).length ≤ 8000 := by omega
  obtain ⟨A0, D8⟩ : ∃ A0, A0 = p.al.flatMap nw := ⟨_, rfl⟩
  rw [← D8] at aCE ⊢
  refine wz.p.b.a.c.e.d.D.m.m.C.z ?_
  refine aX (ι := Nat) (fun j => [(1, ptr b1 0), (3, str (A0 ++ (p.binds.take j).flatMap l9)), (9, .int .i64 j)]) (fun _ => g) (fun _ => [.ae b1 28 [.slice da p.al.length dc, .slice ba p.binds.length bc]]) (fun j => j ≤ p.binds.length ∧ ((p.binds.take j).flatMap l9).length ≤ 20000000000 * j) (fun j => p.binds.length - j) 0 ⟨Nat.zero_le _, sM⟩ ⟨rfl, by simp; rfl, rfl, trivial⟩ rfl rfl ?_
  rintro j ⟨hj, eK⟩
  refine wz.b.a.A.v.g.a.c.e.z ?_
  refine an rfl (fun xe => ?_) (fun xe => ?_)
  ·have dr : j < p.binds.length := by omega
   obtain ⟨b2, IN, cp2, lz, jd⟩ := h3.held dr
   cases lz
   obtain ⟨Gy, y1, eM⟩ := dt (fun _ _ h => h.one.1) h4 jd dr
   have kL := hp.b _ (List.getElem_mem dr)
   have D9 := QY (f := l9) dr
   generalize p.binds[j] = bd at y1 eM kL D9
   obtain ⟨tc, ec, rfl, e2, e3, e4, e5⟩ := y1.open
   obtain ⟨sl, rfl⟩ := e2.cells
   obtain ⟨sa, sq, rfl⟩ := e2.slice
   obtain ⟨z1, z2, z3, z4, z5, z6, z7, z8, z9, zk, za, rfl, _⟩ := id e3.form
   have Q2 := kL.s
   have KE := kL.e.len
   have hez := kL.z
   have nt := kL.nl
   have aFI : aN bd.body * 6010000 ≤ 3000 * 6010000 := Nat.mul_le_mul_right _ hez
   obtain ⟨Bj, hB⟩ : ∃ Bj, Bj = (p.binds.take j).flatMap l9 := ⟨_, rfl⟩
   rw [← hB] at eK D9 ⊢
   refine wz.M.a.v.g.c.p.e.d.j.z ?_
   refine eY rfl rfl (eM _) rfl ?_
   skip
   refine aj rfl (fun bh => ?_)
   refine wz.b.a.AR.a.c.b.q.z ?_
   obtain ⟨S1, lN⟩ : ∃ S1, S1 = (A0 ++ Bj) ++ [108, 101, 116, 32] := ⟨_, rfl⟩
   have Mo : S1.length ≤ 8004 + 20000000000 * j := by rw [lN]; simp; omega
   rw [← lN]
   refine cD (ι := Unit) (fun _ => [(1, ptr b1 0), (3, str (S1 ++ (if bd.isRec = true then [114, 101, 99, 32] else []))), (9, .int .i64 j), (10, ptr bh 0)]) (fun _ => g) (fun _ => [.ae bh 49 [.int .i64 bd.pos, .bool bd.isRec, str bd.name, .bool bd.fD, .int .i64 bd.sig.kind, str bd.sig.name, .int .i64 bd.sig.id, .int .i64 bd.sig.home, .slice sa bd.sig.args.length sq, .int .i64 bd.body.kind, .int .i64 bd.body.pos, str bd.body.name, .int .i64 bd.body.num, .slice z1 z2 z3, .slice z4 z5 z6, .int .i64 bd.body.ty.kind, str bd.body.ty.name, .int .i64 bd.body.ty.id, .int .i64 bd.body.ty.home, .slice z7 z8 z9], .ae b1 28 [.slice da p.al.length dc, .slice (some ⟨b2, IN, none⟩) p.binds.length bc]]) (fun _ => True) ?_ ?_
   case refine_2 =>
    intro K hK
    cases vQ : bd.isRec with
    | true =>
     rw [vQ] at hK
     refine wz.b.a.AR.a.r.t.b.v.g.c.z ?_
     exact hK () _ trivial ⟨rfl, oO rfl sM, rfl, rfl, trivial⟩
    | false =>
     rw [vQ] at hK
     refine wz.d.j.o.b.v.g.c.z ?_
     exact hK () _ trivial ⟨rfl, oO rfl sM, rfl, rfl, trivial⟩
   rintro _ -
   obtain ⟨S2, pD⟩ : ∃ S2, S2 = S1 ++ (if bd.isRec = true then [114, 101, 99, 32] else []) := ⟨_, rfl⟩
   have aCA : S2.length ≤ 8008 + 20000000000 * j := by rw [pD]; split <;> simp <;> omega
   rw [← pD]
   try dsimp only
   refine wz.b.a.AR.v.g.a.c.z ?_
   obtain ⟨S3, pG⟩ : ∃ S3, S3 = S2 ++ bd.name := ⟨_, rfl⟩
   have aCC : S3.length ≤ 8010 + 20000000000 * j := by rw [pG]; simp; omega
   rw [← pG]
   refine cD (ι := Unit) (fun _ => [(1, ptr b1 0), (3, str (S3 ++ (if bd.fD = true then [32, 58, 32] ++ cK bd.sig else []))), (9, .int .i64 j), (10, ptr bh 0)]) (fun _ => g) (fun _ => [.ae bh 49 [.int .i64 bd.pos, .bool bd.isRec, str bd.name, .bool bd.fD, .int .i64 bd.sig.kind, str bd.sig.name, .int .i64 bd.sig.id, .int .i64 bd.sig.home, .slice sa bd.sig.args.length sq, .int .i64 bd.body.kind, .int .i64 bd.body.pos, str bd.body.name, .int .i64 bd.body.num, .slice z1 z2 z3, .slice z4 z5 z6, .int .i64 bd.body.ty.kind, str bd.body.ty.name, .int .i64 bd.body.ty.id, .int .i64 bd.body.ty.home, .slice z7 z8 z9], .ae b1 28 [.slice da p.al.length dc, .slice (some ⟨b2, IN, none⟩) p.binds.length bc]]) (fun _ => True) ?_ ?_
   case refine_2 =>
    intro K hK
    cases vQ : bd.fD with
    | true =>
     rw [vQ] at hK
     obtain ⟨gt, gl⟩ := Q2 vQ
     refine wz.G.g.a.r.t.b.v.g.c.z ?_
     refine aO rfl rfl (Fq g bd.sig _ gt oM ⟨_, rfl, e2⟩) ?_
     refine wz.b.a.AR.AR.z ?_
     exact hK () _ trivial ⟨rfl, oO rfl sM, rfl, rfl, trivial⟩
    | false =>
     rw [vQ] at hK
     refine wz.d.j.o.b.v.g.c.z ?_
     exact hK () _ trivial ⟨rfl, oO rfl sM, rfl, rfl, trivial⟩
   rintro _ -
   obtain ⟨S4, lg⟩ : ∃ S4, S4 = S3 ++ (if bd.fD = true then [32, 58, 32] ++ cK bd.sig else []) := ⟨_, rfl⟩
   have aCD : S4.length ≤ 10000 + 20000000000 * j := by
    rw [lg]
    split
    ·rename_i h
     have := (Q2 h).2
     simp; omega
    ·simp; omega
   rw [← lg]
   try dsimp only
   refine wz.G.g.a.r.z ?_
   refine aO rfl rfl (aB6 g bd.body _ kL.e.ak oM ⟨_, rfl, e3⟩) ?_
   refine wz.Bk.b.a.E.a.r.d.y.N.a.AR.AR.AR.z ?_
   have jt : A0 ++ (Bj ++ l9 bd) = S4 ++ (([32, 61, 32] ++ bL bd.body) ++ [59, 10]) := by
    rw [lg, pG, pD, lN]
    simp only [l9, uJ, dI, fy]
    cases bd.isRec <;> cases bd.fD <;> simp
   have pI := congrArg List.length jt
   exact aM (j + 1) ⟨oM, by rw [D9]; simp only [List.length_append, List.length_cons, List.length_nil] at pI ⊢; omega⟩ oM ⟨rfl, oO rfl (by rw [D9, jt]), rfl, trivial⟩ rfl rfl
  ·obtain rfl : j = p.binds.length := by omega
   rw [List.take_length] at eK ⊢
   refine wz.i.b.a.a.c.d.D.m.m.C.z ?_
   exact ao [] rfl rfl sM ⟨by rw [o_, D8], rfl, rfl⟩
end Go.Proofs.YtlnjfkfojkgiiaaGreatDoor
namespace Go.Th
mutual
theorem D_ : ∀ e : Ex, aN (bV e) = aN e
 | .mk _ _ _ _ ks ra _ => by simp only [bV, aN, Q3 ks, Q4 ra]
theorem Q3 : ∀ l : List Ex, cd (ku l) = cd l
 | [] => rfl
 | a :: r => by simp only [ku, cd, D_ a, Q3 r]
theorem aCF : ∀ a : Ar, hY (jJ a) = hY a
 | .mk _ _ _ b => by simp only [jJ, hY, D_ b]
theorem Q4 : ∀ l : List Ar, bZ (gB l) = bZ l
 | [] => rfl
 | a :: r => by simp only [gB, bZ, aCF a, Q4 r]
end
mutual
theorem Q5 : ∀ t : Ty, cu t + 1 ≤ aE t
 | .mk _ _ _ _ a => by have := Q6 a; simp only [cu, aE]; omega
theorem Q6 : ∀ l : List Ty, eX l ≤ bM l
 | [] => by simp [eX]
 | a :: r => by have := Q5 a; have := Q6 r; simp only [eX, bM]; omega
end
theorem IT {t : Ty} (h : fr t) : cu t ≤ (cK t).length := by
 have := Q5 t
 have := Ds h
 omega
theorem aCG (a : Ar) : (bL a.body).length ≤ (iO a).length := by
 obtain ⟨p, c, vs, b⟩ := a
 simp only [iO, Ar.body, List.length_append, List.length_cons]
 omega
theorem aCH {e : Ex} (h : eQ e) : (bL e).length ≤ 1000000 → dP 1000000 e := by
 induction h with
 | var p n h => exact fun _ => .leaf ..
 | bQ p n h => exact fun _ => .leaf ..
 | int p m h => exact fun _ => .leaf ..
 | hole p => exact fun _ => .leaf ..
 | lam p n b h hb ih =>
  intro hl
  rw [qT] at hl
  simp only [List.length_append, List.length_cons] at hl
  exact .kids _ _ _ (fun c hc => by rw [List.mem_singleton.1 hc]; exact ih oM)
 | app p f a hf ha i1 i2 =>
  intro hl
  rw [pW] at hl
  have h1 := Ib f
  have h2 := Ic a
  simp only [List.length_append, List.length_cons] at hl
  exact .kids _ _ _ (fun c hc => by
   simp only [List.mem_cons, List.not_mem_nil, or_false] at hc
   rcases hc with rfl | rfl
   ·exact i1 oM
   ·exact i2 oM)
 | bind k p n a b hk h ha hb i1 i2 =>
  intro hl
  have hs : (bL a).length ≤ 1000000 ∧ (bL b).length ≤ 1000000 := by
   rcases hk with rfl | rfl
   ·rw [sL] at hl
    simp only [List.length_append, List.length_cons] at hl
    omega
   ·rw [sN] at hl
    simp only [List.length_append, List.length_cons] at hl
    omega
  exact .kids _ _ _ (fun c hc => by
   simp only [List.mem_cons, List.not_mem_nil, or_false] at hc
   rcases hc with rfl | rfl
   ·exact i1 hs.1
   ·exact i2 hs.2)
 | iY p e t he ht ih =>
  intro hl
  rw [sO] at hl
  have := IT ht
  simp only [List.length_append, List.length_cons] at hl
  exact .iY _ (ih oM) oM
 | held p e he ih =>
  intro hl
  rw [sP] at hl
  simp only [List.length_append, List.length_cons] at hl
  exact .kids _ _ _ (fun c hc => by rw [List.mem_singleton.1 hc]; exact ih oM)
 | case p e az he hne hc ha ih iha =>
  intro hl
  rw [sS] at hl
  simp only [List.length_append, List.length_cons] at hl
  exact .case _ (ih oM) (fun a h => iha a h (by have := aCG a; have := PU h; omega))
theorem Q7 {α : Type} {f : α → Bytes} : ∀ {l : List α} {x : α}, x ∈ l → (f x).length ≤ (l.flatMap f).length
 | [], _, h => by cases h
 | a :: r, x, h => by
  rw [List.flatMap_cons, List.length_append]
  rcases List.mem_cons.1 h with rfl | h
  ·omega
  ·have := Q7 (f := f) h; omega
end Go.Th
namespace Go.Proofs.YtlnjfkfojkgiiaaGreatDoor
attribute [local irreducible] wpList Code.wp ah bodyPost Go.aZ.Ends Exit.then Exit.inBlock dJ Wq Kq
theorem Q8 {p : Pg} (h : qz 3000 p) : FH p :=
 ⟨fun d hd => (IL d (h.d d hd)).g, fun b hb => let q := h.b b hb; ⟨q.n, fun hs => (q.s hs).1, q.o, q.e.ak⟩⟩
theorem aCI {p : Pg} (h : qz 3000 p) (hl : (o_ p).length ≤ 4000) : wZ p := by
 refine ⟨fun d hd c hc t ht => ?_, fun b hb => ?_⟩
 ·have := ((IL d (h.d d hd)).c c hc).2.2 t ht
  have := IT this.1
  omega
 ·have q := h.b b hb
  have dh : (l9 b).length ≤ 4000 := by
   have := Q7 (f := l9) hb
   rw [o_, List.length_append] at hl
   omega
  have he : (bL b.body).length ≤ 4000 := by
   simp only [l9, List.length_append, List.length_cons] at dh
   omega
  have oc : cu b.sig ≤ 1000000 ∧ (b.fD = false → cu b.sig ≤ 40) := by
   cases hs : b.fD with
   | true =>
    have := (q.s hs).2
    have := IT (q.s hs).1
    exact ⟨oM, fun h => by cases h⟩
   | false => rw [q.o hs, pR]; exact ⟨oM, fun _ => by omega⟩
  exact ⟨oc.2, oc.1, by have := q.z; omega, aCH q.e.ak oM⟩
theorem aCJ {p q : Pg} (h : nz q = nz p) (hz : ∀ b ∈ p.binds, aN b.body ≤ 1000000) : xD p q := by
 obtain ⟨te, nX⟩ := Uy h
 have hd : p.al.map l_ = q.al.map l_ := (congrArg Pg.al h).symm
 have hb : p.binds.map lJ = q.binds.map lJ := (congrArg Pg.binds h).symm
 refine ⟨te, nX, fun i h1 h2 => ?_, fun i h1 h2 => ?_⟩
 ·have e : l_ p.al[i] = l_ q.al[i] := by
   have := List.getElem_of_eq hd (i := i) (by rw [List.length_map]; exact h1)
   rwa [List.getElem_map, List.getElem_map] at this
  have ec : p.al[i].cons.map pf = q.al[i].cons.map pf := (congrArg Da.cons e :)
  refine ⟨(congrArg Da.name e :), (congrArg Da.params e :), by simpa using congrArg List.length ec, fun k k1 k2 => ?_⟩
  have e2 : pf p.al[i].cons[k] = pf q.al[i].cons[k] := by
   have := List.getElem_of_eq ec (i := k) (by rw [List.length_map]; exact k1)
   rwa [List.getElem_map, List.getElem_map] at this
  exact ⟨(congrArg Cn.name e2 :), (congrArg Cn.fields e2 :)⟩
 ·have e : lJ p.binds[i] = lJ q.binds[i] := by
   have := List.getElem_of_eq hb (i := i) (by rw [List.length_map]; exact h1)
   rwa [List.getElem_map, List.getElem_map] at this
  have eb : bV p.binds[i].body = bV q.binds[i].body := (congrArg Bi.body e :)
  have z1 := hz _ (List.getElem_mem h1)
  have z2 : aN q.binds[i].body ≤ 1000000 := by rw [← D_, ← eb, D_]; exact z1
  exact ⟨(congrArg Bi.isRec e :), (congrArg Bi.name e :), (congrArg Bi.fD e :), (congrArg Bi.sig e :), eb, z1, z2⟩
theorem aCK {p : Pg} (h : qz 3000 p) (hl : (o_ p).length ≤ 4000) (hd : (fH p).1 = 0) : ∃ q, nC (o_ p) = .ok q ∧ xD p q := by
 have hs := Um (Q8 h) 0 [] [] aCL (fun j => ⟨[], rfl, rfl⟩)
 rw [List.append_nil, List.append_nil] at hs
 obtain ⟨l, h1, h2⟩ := aCM hl hs
 obtain ⟨q, h3, h4⟩ := Us (Q8 h) h2
 refine ⟨q, ?_, aCJ h4 (fun b hb => by have := (h.b b hb).z; omega)⟩
 unfold nC
 rw [h1]
 simp only [h3]
 rw [if_pos ((LP q).1 (by rw [h4]; exact (LP p).2 hd))]
end Go.Proofs.YtlnjfkfojkgiiaaGreatDoor
namespace Go.Proofs.YtlnjfkfojkgiiaaGreatDoor
attribute [local irreducible] wpList Code.wp ah bodyPost Go.aZ.Ends Exit.then Exit.inBlock dJ Wq Kq
theorem aCN {E : Env} {n : Nat} {L : dz} {g : ab} {own : List aA} {ty : TypeId} {x : Operand} {a b : Int} (hx : ev L x = some (.agg #[.int .i64 a, .int .i64 b])) : cH prog E n L g own ty (.field 33 x 0) (.int .i64 a) := fun _ w _ _ _ hF _ => by
 have h : ∀ w, (Instr.field 33 (.agg #[.int .i64 a, .int .i64 b]) 0).run prog w = .ok (.int .i64 a) w := fun _ => by kernel_rfl
 simp [execOp, hF.eval hx, h]
theorem aCO (g : ab) (hg : fN g) (bits : Int) (_hb : -9223372036854775808 ≤ bits ∧ bits ≤ 9223372036854775807) (vc : Value) (lc : List Int) (ez : au g 1 vc lc.length (ints lc)) (_hw : ∀ n ∈ lc, -9223372036854775808 ≤ n ∧ n ≤ 9223372036854775807)
  (uh : Int) (_hw2 : -9223372036854775808 ≤ uh ∧ uh ≤ 9223372036854775807) : Pure prog 3 [.int .i64 bits, vc, .int .i64 uh] g (.bool true) := by
 have Qi := ez.le
 refine aw func3 rfl ntmps3 rfl fun E hE => ?_
 refine wz.c.e.b.a.c.z ?_
 refine aB rfl rfl (Xv g hg) ?_
 rintro _ g1 rfl a8
 have cG := hg.mono a8
 have Q9 := ez.mono a8
 obtain ⟨ca, cc, rfl⟩ := aU ez
 refine wz.a.c.e.d.j.o.b.a.z ?_
 refine aO rfl rfl (TL g1 _ lc Q9) ?_
 refine wz.b.a.z ?_
 refine fS rfl (fun Q_ => ?_) (fun Q_ => ?_)
 ·refine l6 hE a8 ?_
  refine wz.l.i.b.a.c.z ?_
  exact ao [] rfl rfl sM ⟨rfl, rfl, rfl⟩
 have hlc : lc.length ≤ 60 := by simp at Q_; omega
 refine wz.a.a.a.c.d.j.z ?_
 refine aB rfl rfl (aB5 g1 bits uh lc _ oM Q9) ?_
 rintro w1 g2 ⟨p, ⟨_, rfl, sd, xd, sb, xb, rfl, p1, p2, p3, p4⟩, hp⟩ aD
 obtain ⟨da, dc, rfl⟩ := aU p1
 obtain ⟨ba, bc, rfl⟩ := aU p3
 have uf : ug g2 p [.slice da p.al.length dc, .slice ba p.binds.length bc] := ⟨_, xd, _, xb, rfl, p1, p2, p3, p4⟩
 have dy := cG.mono aD
 have jP := ab.le_trans a8 aD
 skip
 refine aj rfl (fun b7 => ?_)
 refine wz.G.c.b.q.z ?_
 refine aO rfl rfl (aB9 g2 p _ ⟨_, rfl, uf⟩ hp) ?_
 refine wz.a.a.AI.a.c.e.b.a.z ?_
 refine bw rfl rfl (fun aCP => ?_) (fun aCP => ?_)
 ·refine wz.l.i.b.a.c.t.b.a.h.h.h.h.z ?_
  refine l6 hE jP ?_
  skip
  exact ao [] rfl rfl sM ⟨rfl, rfl, rfl⟩
 have hl : (o_ p).length ≤ 4000 := by omega
 refine wz.k.G.k.z ?_
 refine aO rfl rfl (Wj g2 p _ (aCI hp hl) ⟨_, rfl, uf⟩) ?_
 obtain ⟨⟨fe, fp⟩, hF⟩ : ∃ x : Int × Int, fH p = x := ⟨_, rfl⟩
 rw [hF]
 unfold pq
 refine wz.k.z ?_; refine cX rfl (aCN rfl) ?_; refine wz.b.a.u.z ?_
 refine fS rfl (fun hfe => ?_) (fun hfe => ?_)
 ·refine l6 hE jP ?_
  refine wz.l.i.b.a.c.z ?_
  exact ao [] rfl rfl sM ⟨rfl, rfl, rfl⟩
 have aCQ : (fH p).1 = 0 := by rw [hF]; simpa using hfe
 obtain ⟨q, hq, aCR⟩ := aCK hp hl aCQ
 refine wz.a.c.d.j.z ?_
 refine aB rfl rfl (Gu g2 dy (o_ p) oM) ?_
 unfold A7
 rw [hq]
 rintro _ g3 ⟨pv, rfl, hV⟩ aF
 obtain ⟨pc, rfl, IU⟩ := id hV
 obtain ⟨vj, vl, vk, vn, rfl, q1, _, q3, _⟩ := id IU
 obtain ⟨B5, vp, rfl⟩ := aU q1
 obtain ⟨xE, sI, rfl⟩ := aU q3
 simp only [uW, xt] at hV IU ⊢
 unfold pq
 refine wz.a.a.a.z ?_
 refine aj rfl (fun b9 => ?_)
 skip
 refine aj rfl (fun bh => ?_)
 refine wz.k.O.k.Af.k.a.a.v.g.c.b.q.B.z ?_
 refine aO rfl rfl (XE g3 p q aCR _ _ ⟨_, rfl, uf.mono aF⟩ ⟨_, rfl, IU⟩) ?_
 refine wz.i.b.a.a.z ?_
 refine l6 hE (ab.le_trans jP aF) ?_
 skip
 exact ao [] rfl rfl sM ⟨rfl, rfl, rfl⟩
end Go.Proofs.YtlnjfkfojkgiiaaGreatDoor
namespace Go.Proofs.YtlnjfkfojkgiiaaGreatDoor
open Go Go.aZ Go.Proofs Go.RowKit
theorem aCS : prog.globalNamed "errors.errorType" = some 0 := by kernel_rfl
theorem aCT : (prog.cutTypes.find? (·.1 == "internal/reflectlite.rtype")).map (·.2) = some 241 := by kernel_rfl
theorem aCU : ((List.range prog.types.size).filter fun t => prog.rowNamed t [101, 114, 114, 111, 114]) = [131] := by kernel_rfl
theorem aCV {W : World} {L : List (String × DataW Unit)} (h : laidMetH prog L W) (hm : ("errors.errorType", Rows.laid_errors_errorType) ∈ L) : fN (uP W) := by
 obtain ⟨name, u, ty, e1, e2, e3, e4, e5⟩ := (laidMetH_iff.1 h).2 _ (List.mem_filter.2 ⟨hm, rfl⟩)
 have en : name = [101, 114, 114, 111, 114] := (Option.some.inj e1).symm
 subst en
 obtain rfl := Option.some.inj (aCT.symm.trans e2)
 have hm : ty ∈ (List.range prog.types.size).filter fun t => prog.rowNamed t [101, 114, 114, 111, 114] := List.mem_filter.2 ⟨List.mem_range.2 e3, e4⟩
 rw [aCU] at hm
 obtain rfl := List.mem_singleton.1 hm
 show W.cell? _ = _
 simpa using World.var?_cell aCS e5 0
noncomputable def Ea (os : Os) : World :=
 let w0 := World.holding prog os ⟨#[], #[], []⟩
 { w0 with heap := w0.heap.modify 0 fun
   | .cells _ t frozen => .cells #[nA 131] t frozen
   | o => o }
noncomputable def yL (os : Os) (L : List (String × DataW Unit)) : World := (Ea os).layVars prog L
theorem aCW (os : Os) (L : List (String × DataW Unit)) : (yL os L).os = os := World.layVars_os _ _ _
theorem aCX {os : Os} {L : List (String × DataW Unit)} (args : Array Value) (hf : (Ea os).layFits prog L [] = true) (hi : (Ea os).layIfaces prog L (yL os L) = true) :
  laidMet prog L ((yL os L).forCall (fun _ _ => 0) ⟨#[], args, []⟩).memory := by
 have e1 : (L.filter fun x => (L.map (·.1)).contains x.1) = L := List.filter_eq_self.2 fun x hx => List.contains_iff_mem.2 (List.mem_map.2 ⟨x, hx, rfl⟩)
 have e2 : (L.filter fun x => !(L.map (·.1)).contains x.1) = [] := List.filter_eq_nil_iff.2 fun x hx => by rw [List.contains_iff_mem.2 (List.mem_map.2 ⟨x, hx, rfl⟩)]; simp
 have h : laidMet prog L (yL os L) := laidMet_layVars (w0 := Ea os) (L.map (·.1)) [] (by rw [e1]; rfl) (by rw [e1]; exact hf) (by rw [e1]; exact hi) (by rw [e2]; exact LaidIn.none)
 exact h.of_heap (by simp [World.memory, World.forCall, Input.heap])
end Go.Proofs.YtlnjfkfojkgiiaaGreatDoor

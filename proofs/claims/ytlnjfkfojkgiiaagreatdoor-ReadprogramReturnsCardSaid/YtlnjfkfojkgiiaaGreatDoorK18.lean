/- The walks of the reference's depth and width of expressions: typedholesref4.Depth; typedholesref7's deepType, deepExpr, wide. -/
import Derived.Test.YtlnjfkfojkgiiaaGreatDoorK17
open Go Go.aZ Go.Th Go.Proofs Tryz
set_option maxRecDepth 10000
set_option maxHeartbeats 4000000
attribute [local irreducible] wpList Code.wp ah bodyPost Go.aZ.Ends Exit.then Exit.inBlock dJ Wq Kq
namespace Go.Proofs.YtlnjfkfojkgiiaaGreatDoor
theorem MD : ∀ (N : Nat) (g : ab) (e : Ex) (v : Value), aN e < N → aN e ≤ 1000000 → cT g v e → Pure prog 59 [v] g (.int .i64 (jK e))
 | 0, _, _, _, h, _, _ => by omega
 | N + 1, g, e, v, h, bN, hv => by
  have ih := MD N
  have gk := my e
  have iB := zq e
  have ie := hv
  obtain ⟨a1, c1, a2, c2, a3, m3, c3, xk, xa, rfl, h1, h2, h3, h4, h5⟩ := hv.open
  rw [JV] at iB ⊢
  refine aw func59 rfl ntmps59 rfl fun E hE => ?_
  refine aS ?_
  refine aP rfl rfl rfl (fun b1 => ?_)
  refine wz.G.c.b.a.c.b.a.z ?_
  refine aB rfl rfl (rY g _ e ie bN) ?_
  rintro w g1 ⟨xs, aJ, j9⟩ a8
  obtain ⟨sa, sc, rfl⟩ := aU aJ
  refine wz.BA.p.b.a.c.e.b.a.z ?_
  refine aX (ι := Nat) (fun i => [(3, .int .i64 (hJ ((aY e).take i))), (4, .slice sa (aY e).length sc), (5, .int .i64 i)]) (fun _ => g1) (fun _ => []) (fun i => i ≤ (aY e).length) (fun i => (aY e).length - i) 0 (Nat.zero_le _) ⟨rfl, rfl, rfl, trivial⟩ rfl rfl ?_
  intro i hi
  refine wz.b.a.A.a.a.c.e.z ?_
  refine an rfl (fun hlt => ?_) (fun hlt => ?_)
  ·have af : i < (aY e).length := by omega
   obtain ⟨b, off, cap, aq, dB⟩ := aJ.held af
   cases aq
   obtain ⟨cs, k1, hr⟩ := me j9 dB af
   have A1 := mC (List.getElem_mem af)
   have fz := JW af
   have Mt := JX (aY e) (i + 1)
   refine wz.M.a.a.a.r.p.e.d.j.z ?_
   refine eY rfl rfl (hr _) k1.one.1 ?_
   refine aO rfl rfl (ih g1 (aY e)[i] _ oM oM ⟨_, rfl, k1⟩) ?_
   refine wz.b.a.E.a.r.d.y.N.a.BY.E.z ?_
   refine aM (i + 1) oM oM ⟨?_, rfl, rfl, trivial⟩ rfl rfl
   rw [fz]
   refine qF rfl ?_
   omega
  ·have dw : i = (aY e).length := by omega
   subst dw
   refine wz.i.b.a.a.c.d.D.m.m.C.z ?_
   refine l6 hE a8 ?_
   exact ao [] rfl rfl sM ⟨by rw [List.take_length], rfl, rfl⟩
theorem Wi (g : ab) (e : Ex) (v : Value) (bN : aN e ≤ 1000000) (hv : cT g v e) : Pure prog 59 [v] g (.int .i64 (jK e)) := MD _ g e v (Nat.lt_succ_self _) bN hv
theorem ME (M : Nat) (hM : M ≤ 1000000) : ∀ (N : Nat) (g : ab) (e : Ex) (v : Value), aN e < N → aN e ≤ 1000000 → dP M e → cT g v e → Pure prog 60 [v] g (.bool (lp e))
 | 0, _, _, _, h, _, _, _ => by omega
 | N + 1, g, e, v, h, bN, lP, hv => by
  have ih := ME M hM N
  have ie := hv
  have qd := lP.p1
  have lQ := lP.p2
  have gk := my e
  obtain ⟨a1, c1, a2, c2, a3, m3, c3, xk, xa, rfl, h1, h2, h3, h4, h5⟩ := hv.open
  rw [J2]
  refine aw func60 rfl ntmps60 rfl fun E hE => ?_
  refine aS ?_
  refine aP rfl rfl rfl (fun b1 => ?_)
  refine wz.b.a.z ?_
  refine cD (ι := Unit) (fun _ => [(1, ptr b1 0)]) (fun _ => g) (fun _ => [.ae b1 47 [.int .i64 e.kind, .int .i64 e.pos, str e.name, .int .i64 e.num, .slice a1 e.kids.length c1, .slice a2 e.aK.length c2, .int .i64 e.ty.kind, str e.ty.name, .int .i64 e.ty.id, .int .i64 e.ty.home, .slice a3 m3 c3]]) (fun _ => decide (40 < cu e.ty) = false) ?_ ?_
  ·rintro _ hb
   rw [hb, Bool.false_or]
   refine wz.G.c.z ?_
   refine aB rfl rfl (rY g _ e ie bN) ?_
   rintro w g1 ⟨xs, aJ, j9⟩ a8
   obtain ⟨sa, sc, rfl⟩ := aU aJ
   refine wz.BA.p.b.a.c.e.b.a.z ?_
   refine aX (ι := Nat) (fun i => [(3, .slice sa (aY e).length sc), (4, .int .i64 i)]) (fun _ => g1) (fun _ => []) (fun i => i ≤ (aY e).length ∧ iN (aY e) = iN ((aY e).drop i)) (fun i => (aY e).length - i) 0 ⟨Nat.zero_le _, by rw [List.drop_zero]⟩ ⟨rfl, rfl, trivial⟩ rfl rfl ?_
   rintro i ⟨hi, hj⟩
   refine wz.b.a.A.a.a.c.e.z ?_
   refine an rfl (fun hlt => ?_) (fun hlt => ?_)
   ·have af : i < (aY e).length := by omega
    obtain ⟨b, off, cap, aq, dB⟩ := aJ.held af
    cases aq
    obtain ⟨cs, k1, hr⟩ := me j9 dB af
    have A1 := mC (List.getElem_mem af)
    rw [S6 af] at hj
    refine wz.M.a.a.c.p.e.d.j.z ?_
    refine eY rfl rfl (hr _) k1.one.1 ?_
    refine aO rfl rfl (ih g1 (aY e)[i] _ oM oM (lP.p3 _ (List.getElem_mem af)) ⟨_, rfl, k1⟩) ?_
    cases hd : lp (aY e)[i] with
    | true =>
     rw [hd, Bool.true_or] at hj
     rw [hj]
     refine wz.l.x.l.l.x.i.b.a.c.t.b.z ?_
     refine l6 hE a8 ?_
     exact ao [] rfl rfl sM ⟨rfl, rfl, rfl⟩
    | false =>
     rw [hd, Bool.false_or] at hj
     refine wz.b.a.E.a.r.d.y.j.o.b.z ?_
     exact aM (i + 1) ⟨oM, hj⟩ oM ⟨rfl, rfl, trivial⟩ rfl rfl
   ·have dw : i = (aY e).length := by omega
    rw [dw, List.drop_length] at hj
    rw [hj]
    refine wz.i.b.a.c.d.D.m.m.C.z ?_
    refine l6 hE a8 ?_
    exact ao [] rfl rfl sM ⟨by simp [iN], rfl, rfl⟩
  ·intro K hK
   refine wz.a.a.v.g.c.z ?_
   refine bw rfl rfl (fun h9 => ?_) (fun h9 => ?_)
   ·refine wz.k.G.k.g.k.z ?_
    refine aO rfl rfl (zh g e.ty _ oM ⟨_, rfl, h5⟩) ?_
    refine wz.b.a.u.z ?_
    refine an rfl (fun hd => ?_) (fun hd => ?_)
    ·have hb : decide (40 < cu e.ty) = true := decide_eq_true oM
     rw [hb]
     refine wz.l.i.b.a.c.z ?_
     exact ao [] rfl rfl sM ⟨rfl, rfl, rfl⟩
    ·refine wz.d.j.z ?_
     exact hK () _ (decide_eq_false oM) ⟨rfl, trivial⟩
   ·have := qd h9
    refine wz.d.j.o.b.a.h.h.h.h.z ?_
    exact hK () _ (decide_eq_false oM) ⟨rfl, trivial⟩
theorem MF {M : Nat} (hM : M ≤ 1000000) (g : ab) (e : Ex) (v : Value) (bN : aN e ≤ 1000000) (lP : dP M e) (hv : cT g v e) : Pure prog 23 [v] g (.bool (kT e)) := by
 have ie := hv
 obtain ⟨a1, c1, a2, c2, a3, m3, c3, xk, xa, rfl, h1, h2, h3, h4, h5⟩ := hv.open
 unfold kT
 refine aw func23 rfl ntmps23 rfl fun E hE => ?_
 refine aS ?_
 refine aP rfl rfl rfl (fun b1 => ?_)
 refine wz.G.c.b.a.z ?_
 refine aO rfl rfl (Wi g e _ bN ie) ?_
 refine wz.a.a.z ?_
 refine bw rfl rfl (fun hd => ?_) (fun hd => ?_)
 ·have hb : decide (40 < jK e) = true := decide_eq_true oM
  rw [hb]
  refine wz.i.b.a.a.h.h.z ?_
  exact ao [] rfl rfl sM ⟨rfl, rfl, rfl⟩
 ·have hb : decide (40 < jK e) = false := decide_eq_false oM
  rw [hb]
  refine wz.k.G.k.z ?_
  refine aO rfl rfl (ME M hM _ g e _ (Nat.lt_succ_self _) bN lP ie) ?_
  refine wz.i.b.a.a.z ?_
  exact ao [] rfl rfl sM ⟨by rw [Bool.false_or], rfl, rfl⟩
theorem MG : ∀ (N : Nat) (g : ab) (e : Ex) (v : Value), aN e < N → aN e ≤ 1000000 → cT g v e → Pure prog 24 [v] g (.tuple #[.int .i64 ((hO e).getD 0), .bool (hO e).isSome])
 | 0, _, _, _, h, _, _ => by omega
 | N + 1, g, e, v, h, bN, hv => by
  have ih := MG N
  have ie := hv
  have gk := my e
  obtain ⟨a1, c1, a2, c2, a3, m3, c3, xk, xa, rfl, h1, h2, h3, h4, h5⟩ := hv.open
  have aF := h3.le
  rw [J5]
  refine aw func24 rfl ntmps24 rfl fun E hE => ?_
  refine aS ?_
  refine aP rfl rfl rfl (fun b1 => ?_)
  refine wz.p.b.a.c.e.b.a.a.z ?_
  refine aX (ι := Nat) (fun i => [(1, ptr b1 0), (4, .int .i64 i)]) (fun _ => g) (fun _ => [.ae b1 47 [.int .i64 e.kind, .int .i64 e.pos, str e.name, .int .i64 e.num, .slice a1 e.kids.length c1, .slice a2 e.aK.length c2, .int .i64 e.ty.kind, str e.ty.name, .int .i64 e.ty.id, .int .i64 e.ty.home, .slice a3 m3 c3]]) (fun i => i ≤ e.aK.length ∧ kv e.aK = kv (e.aK.drop i)) (fun i => e.aK.length - i) 0 ⟨Nat.zero_le _, by rw [List.drop_zero]⟩ ⟨rfl, rfl, trivial⟩ rfl rfl ?_
  rintro i ⟨hi, hj⟩
  refine wz.b.a.A.v.g.a.c.e.z ?_
  refine an rfl (fun hlt => ?_) (fun hlt => ?_)
  ·have af : i < e.aK.length := by omega
   obtain ⟨b, off, cap, aq, iX⟩ := h3.held af
   cases aq
   obtain ⟨fG, bc, lk, eL, hr⟩ := zY h4 iX af
   obtain ⟨va, vc, rfl⟩ := aU lk
   rw [J7 af] at hj
   refine wz.g.M.a.v.g.c.p.e.d.j.z ?_
   refine cj rfl rfl ((hr _).du 2 rfl) ?_
   refine wz.b.a.A.z ?_
   refine an rfl (fun hw => ?_) (fun hw => ?_)
   ·rw [if_pos oM] at hj
    rw [hj]
    refine wz.g.M.a.v.g.c.z ?_
    refine cj rfl rfl ((hr _).du 0 rfl) ?_
    refine wz.l.x.l.l.x.i.b.a.a.z ?_
    exact cB [] rfl (.tmp rfl) (.tmp rfl) sM ⟨rfl, rfl, rfl⟩
   ·rw [if_neg oM] at hj
    refine wz.b.a.E.a.r.d.y.j.z ?_
    exact aM (i + 1) ⟨oM, hj⟩ oM ⟨rfl, rfl, trivial⟩ rfl rfl
  ·have dw : i = e.aK.length := by omega
   rw [dw, List.drop_length] at hj
   rw [hj, show kv [] = none from rfl, Option.none_or]
   refine wz.G.c.d.D.m.m.C.z ?_
   refine aB rfl rfl (rY g _ e ie bN) ?_
   rintro w g1 ⟨xs, aJ, j9⟩ a8
   obtain ⟨sa, sc, rfl⟩ := aU aJ
   refine wz.BA.p.b.a.c.e.b.a.z ?_
   refine aX (ι := Nat) (fun i => [(5, .slice sa (aY e).length sc), (6, .int .i64 i)]) (fun _ => g1) (fun _ => []) (fun i => i ≤ (aY e).length ∧ gU (aY e) = gU ((aY e).drop i)) (fun i => (aY e).length - i) 0 ⟨Nat.zero_le _, by rw [List.drop_zero]⟩ ⟨rfl, rfl, trivial⟩ rfl rfl ?_
   rintro i ⟨hi, hj⟩
   refine wz.b.a.A.a.a.c.e.z ?_
   refine an rfl (fun dk => ?_) (fun dk => ?_)
   ·have af : i < (aY e).length := by omega
    obtain ⟨b, off, cap, aq, dB⟩ := aJ.held af
    cases aq
    obtain ⟨cs, k1, hr⟩ := me j9 dB af
    have A1 := mC (List.getElem_mem af)
    rw [J6 af] at hj
    refine wz.M.a.a.c.p.e.d.j.z ?_
    refine eY rfl rfl (hr _) k1.one.1 ?_
    refine aO rfl rfl (ih g1 (aY e)[i] _ oM oM ⟨_, rfl, k1⟩) ?_
    generalize hO (aY e)[i] = o at hj
    cases o with
    | some q =>
     rw [hj]
     refine wz.l.x.l.l.x.i.b.a.a.a.c.t.b.a.c.b.a.a.a.a.a.z ?_
     refine l6 hE a8 ?_
     exact cB [] rfl (.tmp rfl) (.tmp rfl) sM ⟨rfl, rfl, rfl⟩
    | none =>
     rw [Option.none_or] at hj
     refine wz.b.a.E.a.r.d.y.j.o.b.a.c.b.a.a.a.a.a.z ?_
     exact aM (i + 1) ⟨oM, hj⟩ oM ⟨rfl, rfl, trivial⟩ rfl rfl
   ·have dw : i = (aY e).length := by omega
    rw [dw, List.drop_length] at hj
    rw [hj, show gU [] = none from by simp [gU]]
    refine wz.i.b.a.a.c.d.D.m.m.C.z ?_
    refine l6 hE a8 ?_
    exact cB [] rfl (.tmp rfl) (.tmp rfl) sM ⟨rfl, rfl, rfl⟩
theorem MH (g : ab) (e : Ex) (v : Value) (bN : aN e ≤ 1000000) (hv : cT g v e) : Pure prog 24 [v] g (.tuple #[.int .i64 ((hO e).getD 0), .bool (hO e).isSome]) := MG _ g e v (Nat.lt_succ_self _) bN hv
theorem Gc {p : Pg} {q : Int} (h : jL p = some q) : fH p = (5, q) := by unfold fH; rw [h]
theorem Wj (g : ab) (p : Pg) (v : Value) (hw : wZ p) (hv : ll g v p) : Pure prog 8 [v] g (pq (fH p)) := by
 obtain ⟨cs, rfl, sd, xd, sb, xb, rfl, h1, h2, h3, h4⟩ := hv
 obtain ⟨da, dc, rfl⟩ := aU h1
 obtain ⟨ba, bc, rfl⟩ := aU h3
 have te := h1.le
 have A2 := h3.le
 refine aw func8 rfl ntmps8 rfl fun E hE => ?_
 refine aS ?_
 refine aP rfl rfl rfl (fun b1 => ?_)
 refine aj rfl (fun b2 => ?_)
 refine wz.p.b.a.c.e.b.z ?_
 refine aX (ι := Nat) (fun i => [(1, ptr b1 0), (2, ptr b2 0), (3, .int .i64 i)]) (fun _ => g) (fun _ => [.ae b2 33 [.int .i64 0, .int .i64 0], .ae b1 28 [.slice da p.al.length dc, .slice ba p.binds.length bc]]) (fun i => i ≤ p.al.length ∧ l0 0 p.al = l0 i (p.al.drop i)) (fun i => p.al.length - i) 0 ⟨Nat.zero_le _, by rw [List.drop_zero]⟩ ⟨rfl, rfl, rfl, trivial⟩ rfl rfl ?_
 rintro i ⟨hi, hj⟩
 refine wz.b.a.A.I.g.a.c.e.z ?_
 refine an rfl (fun hlt => ?_) (fun hlt => ?_)
 ·have af : i < p.al.length := by omega
  obtain ⟨b, off, cap, aq, hx⟩ := h1.held af
  cases aq
  obtain ⟨c, e1, hr⟩ := dt (fun _ _ h => h.one.1) h2 hx af
  obtain ⟨a1, c1, a2, c2, xc, rfl, _, e3, e4⟩ := e1.form
  have aF := e3.le
  rw [J9 af] at hj
  have found : (8 ≤ i ∨ 4 < p.al[i].params.length ∨ 6 < p.al[i].cons.length) → fH p = (5, p.al[i].pos) := fun h => by
   rw [if_pos h] at hj
   exact Gc (by unfold jL; rw [hj]; rfl)
  refine wz.An.M.a.I.g.c.p.e.d.j.z ?_
  refine aj rfl (fun b4 => ?_)
  refine wz.a.a.a.c.e.b.q.z ?_
  refine bw rfl rfl (fun h8 => ?_) (fun h8 => ?_)
  ·rw [found oM]
   refine wz.l.x.l.l.x.l.i.b.B.K.v.g.c.t.b.a.h.h.h.h.a.a.h.h.h.h.z ?_
   exact bp [] rfl (ay 1 rfl rfl rL) sM ⟨rfl, rfl, rfl⟩
  ·refine wz.a.a.u.A.k.v.k.g.k.z ?_
   refine bw rfl rfl (fun hp => ?_) (fun hp => ?_)
   ·rw [found oM]
    refine wz.l.x.l.l.x.l.i.b.B.K.v.g.c.t.b.a.h.h.h.h.z ?_
    exact bp [] rfl (ay 1 rfl rfl rL) sM ⟨rfl, rfl, rfl⟩
   ·refine wz.b.a.u.A.k.v.k.g.k.z ?_
    refine an rfl (fun hc => ?_) (fun hc => ?_)
    ·rw [found oM]
     refine wz.l.x.l.l.x.l.i.b.B.K.v.g.c.z ?_
     exact bp [] rfl (ay 1 rfl rfl rL) sM ⟨rfl, rfl, rfl⟩
    ·rw [if_neg oM] at hj
     refine wz.p.b.a.c.d.j.z ?_
     refine aX (ι := Nat) (fun k => [(1, ptr b1 0), (2, ptr b2 0), (3, .int .i64 i), (4, ptr b4 0), (5, .int .i64 k)]) (fun _ => g) (fun _ => [.ae b4 60 [.int .i64 p.al[i].pos, str p.al[i].name, .slice a1 p.al[i].params.length c1, .slice a2 p.al[i].cons.length c2], .ae b2 33 [.int .i64 0, .int .i64 0], .ae b1 28 [.slice (some ⟨b, off, none⟩) p.al.length dc, .slice ba p.binds.length bc]]) (fun k => k ≤ p.al[i].cons.length ∧ lq p.al[i].cons = lq (p.al[i].cons.drop k)) (fun k => p.al[i].cons.length - k) 0 ⟨Nat.zero_le _, by rw [List.drop_zero]⟩ ⟨rfl, rfl, rfl, rfl, rfl, trivial⟩ rfl rfl ?_
     rintro k ⟨hk, fO⟩
     refine wz.b.a.A.v.g.a.c.e.z ?_
     refine an rfl (fun dk => ?_) (fun dk => ?_)
     ·have fk : k < p.al[i].cons.length := by omega
      obtain ⟨b', fo, jZ, fq, db⟩ := e3.held fk
      cases fq
      obtain ⟨cc, f1, dA⟩ := dt (fun _ _ h => h.one.1) e4 db fk
      obtain ⟨a3, c3, xf, rfl, _, _⟩ := f1.form
      rw [J8 fk] at fO
      refine wz.g.M.a.v.g.c.p.e.d.j.z ?_
      refine cj rfl rfl ((dA _).du 2 rfl) ?_
      refine wz.b.a.A.z ?_
      refine an rfl (fun hf => ?_) (fun hf => ?_)
      ·have lR : fH p = (5, p.al[i].cons[k].pos) := by
        rw [if_pos oM] at fO
        exact Gc (by unfold jL; rw [hj, fO]; rfl)
       rw [lR]
       refine wz.g.M.a.v.g.c.z ?_
       refine cj rfl rfl ((dA _).du 0 rfl) ?_
       refine wz.l.x.l.l.x.x.l.l.x.i.b.B.K.z ?_
       exact bp [] rfl (ay 1 rfl rfl rL) sM ⟨rfl, rfl, rfl⟩
      ·rw [if_neg oM] at fO
       refine wz.b.a.E.a.r.d.y.j.z ?_
       exact aM (k + 1) ⟨oM, fO⟩ oM ⟨rfl, rfl, rfl, rfl, rfl, trivial⟩ rfl rfl
     ·have dj : k = p.al[i].cons.length := by omega
      rw [dj, List.drop_length] at fO
      rw [fO, show lq [] = none from rfl, Option.none_or] at hj
      refine wz.Bi.b.a.E.a.r.d.y.D.m.m.C.z ?_
      exact aM (i + 1) ⟨oM, hj⟩ oM ⟨rfl, rfl, rfl, trivial⟩ rfl rfl
 ·have dw : i = p.al.length := by omega
  rw [dw, List.drop_length] at hj
  have dr : l0 0 p.al = none := hj
  refine wz.b.a.A.I.g.c.e.d.D.m.m.C.z ?_
  refine an rfl (fun F9 => ?_) (fun F9 => ?_)
  ·have qc : 16 < p.binds.length := by omega
   obtain ⟨b, off, cap, aq, hx⟩ := h3.held qc
   cases aq
   obtain ⟨c, e1, hr⟩ := dt (fun _ _ h => h.one.1) h4 hx qc
   obtain ⟨y1, y2, y3, y4, y5, y6, y7, y8, y9, tf, tg, th, rfl, _⟩ := e1.form
   have lR : fH p = ((5 : Int), p.binds[16].pos) := Gc (by
    unfold jL
    rw [dr, Option.none_or, if_pos qc, MB qc])
   rw [lR]
   refine wz.g.M.I.g.c.z ?_
   refine cj rfl rfl ((hr _).du 0 rfl) ?_
   refine wz.l.i.b.q.K.z ?_
   exact bp [] rfl (ay 0 rfl rfl rL) sM ⟨rfl, rfl, rfl⟩
  ·have hm : jL p = none := by
    unfold jL
    rw [dr, Option.none_or, if_neg oM]
   have e2 := MC hm
   clear hj dr
   refine wz.p.b.a.c.e.d.j.z ?_
   refine aX (ι := Nat) (fun i => [(1, ptr b1 0), (2, ptr b2 0), (6, .int .i64 i)]) (fun _ => g) (fun _ => [.ae b2 33 [.int .i64 0, .int .i64 0], .ae b1 28 [.slice da p.al.length dc, .slice ba p.binds.length bc]]) (fun i => i ≤ p.al.length ∧ kx p.al = kx (p.al.drop i)) (fun i => p.al.length - i) 0 ⟨Nat.zero_le _, by rw [List.drop_zero]⟩ ⟨rfl, rfl, rfl, trivial⟩ rfl rfl ?_
   rintro i ⟨hi, hj⟩
   refine wz.b.a.A.I.g.a.c.e.z ?_
   refine an rfl (fun iM => ?_) (fun iM => ?_)
   ·have af : i < p.al.length := by omega
    obtain ⟨b, off, cap, aq, hx⟩ := h1.held af
    cases aq
    obtain ⟨c, mv, hr⟩ := dt (fun _ _ h => h.one.1) h2 hx af
    obtain ⟨a1, c1, a2, c2, xc, rfl, _, e3, e4⟩ := mv.form
    have aF := e3.le
    have F_ := hw.d _ (List.getElem_mem af)
    rw [J_ af] at hj
    refine wz.An.M.a.I.g.c.p.e.d.j.z ?_
    refine aj rfl (fun b7 => ?_)
    refine wz.p.b.a.c.b.q.z ?_
    refine aX (ι := Nat) (fun k => [(1, ptr b1 0), (2, ptr b2 0), (6, .int .i64 i), (7, ptr b7 0), (8, .int .i64 k)]) (fun _ => g) (fun _ => [.ae b7 60 [.int .i64 p.al[i].pos, str p.al[i].name, .slice a1 p.al[i].params.length c1, .slice a2 p.al[i].cons.length c2], .ae b2 33 [.int .i64 0, .int .i64 0], .ae b1 28 [.slice (some ⟨b, off, none⟩) p.al.length dc, .slice ba p.binds.length bc]]) (fun k => k ≤ p.al[i].cons.length ∧ l3 p.al[i].cons = l3 (p.al[i].cons.drop k)) (fun k => p.al[i].cons.length - k) 0 ⟨Nat.zero_le _, by rw [List.drop_zero]⟩ ⟨rfl, rfl, rfl, rfl, rfl, trivial⟩ rfl rfl ?_
    rintro k ⟨hk, fO⟩
    refine wz.b.a.A.v.g.a.c.e.z ?_
    refine an rfl (fun Gd => ?_) (fun Gd => ?_)
    ·have fk : k < p.al[i].cons.length := by omega
     obtain ⟨b', fo, jZ, fq, db⟩ := e3.held fk
     cases fq
     obtain ⟨cc, f1, dA⟩ := dt (fun _ _ h => h.one.1) e4 db fk
     obtain ⟨a3, c3, xf, rfl, f2, f3⟩ := f1.form
     have uU := f2.le
     have Ga := F_ _ (List.getElem_mem fk)
     rw [Ka fk] at fO
     refine wz.p.b.a.c.p.e.d.j.z ?_
     refine aX (ι := Nat) (fun j => [(1, ptr b1 0), (2, ptr b2 0), (6, .int .i64 i), (7, ptr b7 0), (8, .int .i64 k), (9, .int .i64 j)]) (fun _ => g) (fun _ => [.ae b7 60 [.int .i64 p.al[i].pos, str p.al[i].name, .slice a1 p.al[i].params.length c1, .slice (some ⟨b', fo, none⟩) p.al[i].cons.length c2], .ae b2 33 [.int .i64 0, .int .i64 0], .ae b1 28 [.slice (some ⟨b, off, none⟩) p.al.length dc, .slice ba p.binds.length bc]]) (fun j => j ≤ p.al[i].cons[k].fields.length ∧ oW p.al[i].cons[k].fields = oW (p.al[i].cons[k].fields.drop j)) (fun j => p.al[i].cons[k].fields.length - j) 0 ⟨Nat.zero_le _, by rw [List.drop_zero]⟩ ⟨rfl, rfl, rfl, rfl, rfl, rfl, trivial⟩ rfl rfl ?_
     rintro j ⟨eK, ti⟩
     refine wz.g.M.a.v.g.a.c.e.z ?_
     refine cj rfl rfl ((dA _).du 2 rfl) ?_
     refine wz.b.a.A.z ?_
     refine an rfl (fun xe => ?_) (fun xe => ?_)
     ·have qG : j < p.al[i].cons[k].fields.length := by omega
      have JP := Ga _ (List.getElem_mem qG)
      obtain ⟨SU, SV, SW, EN, EO⟩ := f2.held qG
      cases EN
      obtain ⟨cS, t2, EP⟩ := eZ f3 EO qG
      rw [S7 qG] at ti
      refine wz.g.M.a.v.g.c.p.e.d.j.z ?_
      refine cj rfl rfl ((dA _).du 2 rfl) ?_
      refine wz.M.a.z ?_; refine eY rfl rfl (EP _) rfl ?_
      refine aO rfl rfl (zh g _ _ JP ⟨cS, rfl, t2⟩) ?_
      refine wz.b.a.z ?_
      refine an rfl (fun hd => ?_) (fun hd => ?_)
      ·rw [decide_eq_true oM, Bool.true_or] at ti
       rw [ti, Bool.true_or] at fO
       rw [fO, if_pos rfl] at hj
       rw [hj] at e2
       rw [e2]
       refine wz.l.x.l.l.x.x.l.l.x.x.l.l.x.i.b.B.K.v.g.c.z ?_
       exact bp [] rfl (ay 1 rfl rfl rL) sM ⟨rfl, rfl, rfl⟩
      ·rw [decide_eq_false oM, Bool.false_or] at ti
       refine wz.b.a.E.a.r.d.y.j.z ?_
       exact aM (j + 1) ⟨oM, ti⟩ oM ⟨rfl, rfl, rfl, rfl, rfl, rfl, trivial⟩ rfl rfl
     ·have mI : j = p.al[i].cons[k].fields.length := by omega
      rw [mI, List.drop_length] at ti
      rw [ti, show oW [] = false from rfl, Bool.false_or] at fO
      refine wz.b.a.E.a.r.d.y.D.m.m.C.z ?_
      exact aM (k + 1) ⟨oM, fO⟩ oM ⟨rfl, rfl, rfl, rfl, rfl, trivial⟩ rfl rfl
    ·have dj : k = p.al[i].cons.length := by omega
     rw [dj, List.drop_length] at fO
     rw [fO, if_neg (by simp [l3])] at hj
     refine wz.Bi.b.a.E.a.r.d.y.D.m.m.C.z ?_
     exact aM (i + 1) ⟨oM, hj⟩ oM ⟨rfl, rfl, rfl, trivial⟩ rfl rfl
   ·have dw : i = p.al.length := by omega
    rw [dw, List.drop_length] at hj
    have dr : kx p.al = none := hj
    rw [dr] at e2
    simp only at e2
    clear hj dr
    refine wz.p.b.a.c.e.d.D.m.m.C.z ?_
    refine aX (ι := Nat) (fun i => [(1, ptr b1 0), (2, ptr b2 0), (10, .int .i64 i)]) (fun _ => g) (fun _ => [.ae b2 33 [.int .i64 0, .int .i64 0], .ae b1 28 [.slice da p.al.length dc, .slice ba p.binds.length bc]]) (fun i => i ≤ p.binds.length ∧ iz p.binds = iz (p.binds.drop i)) (fun i => p.binds.length - i) 0 ⟨Nat.zero_le _, by rw [List.drop_zero]⟩ ⟨rfl, rfl, rfl, trivial⟩ rfl rfl ?_
    rintro i ⟨hi, eR⟩
    refine wz.b.a.A.I.g.a.c.e.z ?_
    refine an rfl (fun w_ => ?_) (fun w_ => ?_)
    ·have af : i < p.binds.length := by omega
     obtain ⟨b, off, cap, aq, hx⟩ := h3.held af
     cases aq
     obtain ⟨c, mv, hr⟩ := dt (fun _ _ h => h.one.1) h4 hx af
     obtain ⟨y1, y2, y3, y4, y5, y6, y7, y8, y9, tf, tg, th, rfl, e3, e4⟩ := mv.form
     obtain ⟨w1, w2, w3, w4⟩ := hw.b _ (List.getElem_mem af)
     rw [Kb af] at eR
     have Wk : (40 < cu p.binds[i].sig) → fH p = (4, p.binds[i].pos) := fun hd => by
      rw [if_pos (by rw [decide_eq_true hd, Bool.true_or])] at eR
      rw [eR] at e2
      exact e2
     have MI : ¬ (40 < cu p.binds[i].sig) → iz p.binds = if kT p.binds[i].body = true then some (4, p.binds[i].pos) else ((hO p.binds[i].body).map fun q => (5, q)).or (iz (p.binds.drop (i + 1))) := fun hd => by
      rw [decide_eq_false hd, Bool.false_or] at eR
      exact eR
     refine wz.An.M.a.I.g.c.p.e.d.j.z ?_
     refine aj rfl (fun dY => ?_)
     refine wz.a.v.g.c.e.b.q.z ?_
     cases hs : p.binds[i].fD with
     | true =>
      refine wz.k.G.k.g.k.z ?_
      refine aO rfl rfl (zh g p.binds[i].sig _ w2 ⟨_, rfl, e3⟩) ?_
      refine wz.a.a.u.z ?_
      refine bw rfl rfl (fun hd => ?_) (fun hd => ?_)
      ·rw [Wk oM]
       refine wz.l.x.l.l.x.l.i.b.B.K.v.g.c.t.b.a.h.h.h.z ?_
       exact bp [] rfl (ay 1 rfl rfl rL) sM ⟨rfl, rfl, rfl⟩
      ·replace eR := MI oM
       refine wz.k.G.k.g.k.z ?_
       refine aO rfl rfl (MF (Nat.le_refl _) g p.binds[i].body _ w3 w4 ⟨_, rfl, e4⟩) ?_
       cases qZ : kT p.binds[i].body with
       | true =>
        rw [qZ, if_pos rfl] at eR
        rw [eR] at e2
        rw [e2]
        refine wz.l.x.l.l.x.l.i.b.B.K.v.g.c.t.b.a.z ?_
        exact bp [] rfl (ay 1 rfl rfl rL) sM ⟨rfl, rfl, rfl⟩
       | false =>
        rw [qZ, if_neg dC] at eR
        refine wz.G.g.c.d.j.o.b.a.z ?_
        refine aO rfl rfl (MH g p.binds[i].body _ w3 ⟨_, rfl, e4⟩) ?_
        generalize hO p.binds[i].body = o at eR
        cases o with
        | some q' =>
         rw [eR] at e2
         rw [e2]
         refine wz.l.x.l.l.x.i.b.B.K.a.c.t.b.a.c.b.a.a.a.a.a.z ?_
         exact bp [] rfl (ay 1 rfl rfl rL) sM ⟨rfl, rfl, rfl⟩
        | none =>
         rw [Option.map_none, Option.none_or] at eR
         refine wz.Bi.b.a.E.a.r.d.y.j.o.b.a.c.b.a.a.a.a.a.z ?_
         exact aM (i + 1) ⟨oM, eR⟩ oM ⟨rfl, rfl, rfl, trivial⟩ rfl rfl
     | false =>
      have hd := w1 hs
      replace eR := MI oM
      refine wz.k.G.k.g.k.a.a.h.h.h.h.z ?_
      skip
      refine aO rfl rfl (MF (Nat.le_refl _) g p.binds[i].body _ w3 w4 ⟨_, rfl, e4⟩) ?_
      cases qZ : kT p.binds[i].body with
      | true =>
       rw [qZ, if_pos rfl] at eR
       rw [eR] at e2
       rw [e2]
       refine wz.l.x.l.l.x.l.i.b.B.K.v.g.c.t.b.a.z ?_
       exact bp [] rfl (ay 1 rfl rfl rL) sM ⟨rfl, rfl, rfl⟩
      | false =>
       rw [qZ, if_neg dC] at eR
       refine wz.G.g.c.d.j.o.b.a.z ?_
       refine aO rfl rfl (MH g p.binds[i].body _ w3 ⟨_, rfl, e4⟩) ?_
       generalize hO p.binds[i].body = o at eR
       cases o with
       | some q' =>
        rw [eR] at e2
        rw [e2]
        refine wz.l.x.l.l.x.i.b.B.K.a.c.t.b.a.c.b.a.a.a.a.a.z ?_
        exact bp [] rfl (ay 1 rfl rfl rL) sM ⟨rfl, rfl, rfl⟩
       | none =>
        rw [Option.map_none, Option.none_or] at eR
        refine wz.Bi.b.a.E.a.r.d.y.j.o.b.a.c.b.a.a.a.a.a.z ?_
        exact aM (i + 1) ⟨oM, eR⟩ oM ⟨rfl, rfl, rfl, trivial⟩ rfl rfl
    ·have dw : i = p.binds.length := by omega
     rw [dw, List.drop_length] at eR
     have Gb : iz p.binds = none := eR
     rw [Gb] at e2
     rw [e2]
     refine wz.i.b.q.K.c.d.D.m.m.C.z ?_
     exact bp [] rfl (ay 0 rfl rfl rL) sM ⟨rfl, rfl, rfl⟩
def MJ (mk : RS → aA) (l : List Tok) (i : Nat) (r : Except Int (Bi × Nat)) (v : Value) (g' : ab) (r' : aA) : Prop := match r with
 | .ok (x, j) => xg g' v x ∧ r' = mk (.ak j) ∧ i < j ∧ j ≤ l.length
 | .error p => (∃ x, xg g' v x) ∧ ∃ j, j ≤ l.length ∧ r' = mk (.bad j p)
theorem Wl {mk : RS → aA} {l : List Tok} {i : Nat} {R : Except Int (Bi × Nat)} {x : Bi} {s : RS} {v : Value} {g' : ab} (h : JL l i x s R) (hv : xg g' v x) : MJ mk l i R v g' (mk s) := by
 cases R with
 | error p =>
  obtain ⟨j, h1, rfl⟩ := h
  exact ⟨⟨_, hv⟩, j, h1, rfl⟩
 | ok q =>
  obtain ⟨y, j⟩ := q
  obtain ⟨rfl, rfl, h3, h4⟩ := h
  exact ⟨hv, rfl, h3, h4⟩
def RS.MK : RS → Int
 | .ak _ => 0
 | .bad _ _ => 3
def RS.ML : RS → Int
 | .ak _ => 0
 | .bad _ p => p
def RS.MM (lv : Value) : RS → List Value
 | .ak i => [lv, .int .i64 i, .int .i64 0, .int .i64 0]
 | .bad i p => [lv, .int .i64 i, .int .i64 3, .int .i64 p]
abbrev eI (b : Nat) (lv : Value) (s : RS) : aA := .ae b 74 (s.MM lv)
theorem iF (g : ab) (lv : Value) (b : Nat) (s : RS) : lB prog 32 [ptr b 0] g (eI b lv s) (.bool (!s.EF)) := by
 cases s with
 | bad i p =>
  refine aw func32 rfl ntmps32 rfl fun E hE => ?_
  refine wz.i.b.a.a.v.g.g.a.a.c.b.a.c.z ?_
  exact ao [_] rfl rfl sR ⟨rfl, rfl, rfl⟩
 | ak i =>
  refine aw func32 rfl ntmps32 rfl fun E hE => ?_
  refine wz.i.b.a.a.v.g.g.a.a.c.b.a.c.z ?_
  exact ao [_] rfl rfl sR ⟨rfl, rfl, rfl⟩
theorem uV (g : ab) (l : List Tok) (hb : TB l) (lv : Value) (hs : cg g lv l) (b : Nat) (s : RS) : cR prog 31 [ptr b 0] g (eI b lv s) fun _ g' r' => g' = g ∧ r' = eI b lv (s.fail l) := by
 cases s with
 | bad i p =>
  refine aw func31 rfl ntmps31 rfl fun E hE => ?_
  refine wz.a.c.e.z ?_
  refine eo 0 rfl rfl rfl (iF g lv b (.bad i p)) ?_
  refine wz.l.i.t.b.a.z ?_
  exact iR [_] rfl sR ⟨_, rfl, rfl, rfl⟩
 | ak i =>
  obtain ⟨la, lc, rfl⟩ := aU hs
  refine aw func31 rfl ntmps31 rfl fun E hE => ?_
  refine wz.a.c.e.z ?_
  refine eo 0 rfl rfl rfl (iF g _ b (.ak i)) ?_
  refine wz.b.a.a.a.v.g.a.a.c.p.b.a.A.v.g.a.a.c.b.Ac.g.g.a.a.c.d.j.o.b.a.z ?_
  refine an rfl (fun hlt => ?_) (fun hlt => ?_)
  ·have af : i < l.length := by omega
   have hf : bH l i = l[i].pos := by unfold bH; rw [eB af]
   obtain ⟨b0, off, cap, aq, hx⟩ := hs.held af
   cases aq
   skip
   refine wI 12 mixed kR ?_; refine wz.AK.CP.Bq.AK.Ap.Ap.Bq.AK.Ap.Ap.Ap.z ?_
   refine jw rfl ⟨_, cU rfl (au.cell eP hx af 2 rfl), ?_⟩
   refine wJ ?_; refine wz.AX.y.N.Ac.g.g.a.z ?_
   exact iR [_] rfl sR ⟨_, rfl, rfl, by show _ = eI b _ (.bad i (bH l i)); rw [hf]; rfl⟩
  ·have hn : l[i]? = none := List.getElem?_eq_none oM
   refine wz.b.a.a.a.c.z ?_
   refine an rfl (fun h0 => ?_) (fun h0 => ?_)
   ·have f_ : l.length - 1 < l.length := by omega
    have dh := hb.1
    have eL := hb.2 _ (List.getElem_mem f_)
    obtain ⟨b0, off, cap, aq, hx⟩ := hs.held f_
    cases aq
    have hf : bH l i = l[l.length - 1].pos + l[l.length - 1].text.length := by
     unfold bH; rw [hn, List.getLast?_eq_getElem?, eB f_]
    skip
    refine wI 21 mixed kR ?_; refine wz.Ck.Ap.Bq.AK.Ap.Ap.Ap.z ?_
    refine jw rfl ⟨_, bU (j := l.length - 1) rfl rfl oM f_, ?_⟩
    refine wz.AK.z ?_
    refine jw rfl ⟨_, cU rfl (au.cell eP hx f_ 2 rfl), ?_⟩
    refine wz.Ck.Ap.Bq.AK.Ap.Ap.z ?_
    refine jw rfl ⟨_, bU (j := l.length - 1) rfl rfl oM f_, ?_⟩
    refine wz.AK.z ?_
    refine jw rfl ⟨_, cU rfl (au.cell eP hx f_ 1 rfl), ?_⟩
    refine jw rfl ⟨_, (zF rfl), ?_⟩; refine jw rfl ⟨_, (val_add rfl rfl oM), ?_⟩; refine wJ ?_; refine wz.AX.y.N.Ac.g.g.a.z ?_
    exact iR [_] rfl sR ⟨_, rfl, rfl, by show _ = eI b _ (.bad i (bH l i)); rw [hf]; rfl⟩
   ·have hf : bH l i = 0 := by
     unfold bH; rw [hn, List.getLast?_eq_getElem?, List.getElem?_eq_none oM]
    refine wz.AX.y.j.z ?_
    exact iR [_] rfl sR ⟨_, rfl, rfl, by show _ = eI b _ (.bad i (bH l i)); rw [hf]; rfl⟩
theorem MN (g : ab) (l : List Tok) (lv : Value) (hs : cg g lv l) (b i : Nat) (e p : Int) : lB prog 27 [ptr b 0] g (.ae b 74 [lv, .int .i64 i, .int .i64 e, .int .i64 p]) (.int .i64 (iw l i)) := by
 obtain ⟨la, lc, rfl⟩ := aU hs
 refine aw func27 rfl ntmps27 rfl fun E hE => ?_
 refine wz.T.s.BR.Q.J.s.s.Q.J.s.s.Ab.e.e.b.a.c.z ?_
 skip
 refine wz.d.z ?_
 refine an rfl (fun hlt => ?_) (fun hlt => ?_)
 ·have af : i < l.length := by omega
  have hk : iw l i = l[i].pos := by unfold iw; rw [eB af]
  obtain ⟨b0, off, cap, aq, hx⟩ := hs.held af
  cases aq
  refine wz.J.Aj.Q.J.s.s.Q.J.s.s.Ab.e.z ?_
  refine bR rfl (cU rfl (au.cell eP hx af 2 rfl)) ?_
  refine wz.T.s.z ?_
  skip
  refine wz.l.i.d.z ?_
  exact ao [_] rfl rfl sR ⟨by rw [hk], rfl, rfl⟩
 ·have hk : iw l i = 0 := by unfold iw; rw [List.getElem?_eq_none oM]
  refine wz.i.b.a.c.d.j.z ?_
  exact ao [_] rfl rfl sR ⟨by rw [hk], rfl, rfl⟩
theorem MO (g : ab) (l : List Tok) (lv : Value) (hs : cg g lv l) (b : Nat) (s : RS) : lB prog 27 [ptr b 0] g (eI b lv s) (.int .i64 (iw l s.idx)) := by
 cases s with
 | ak i => exact MN g l lv hs b i 0 0
 | bad i p => exact MN g l lv hs b i 3 p
def RS.Ge (l : List Tok) (k : Int) (w : Bytes) : RS → Bool
 | .ak i => df l i k w
 | .bad _ _ => false
def RS.qe (l : List Tok) (k : Int) (w : Bytes) : RS → RS
 | .ak i => if df l i k w then .ak (i + 1) else .ak i
 | .bad i p => .bad i p
theorem MP (g : ab) (l : List Tok) (hb : TB l) (lv : Value) (hs : cg g lv l) (b : Nat) (s : RS) (k : Int) (w : Bytes) : cR prog 28 [ptr b 0, .int .i64 k, str w] g (eI b lv s) fun v g' r' => v = .bool (s.Ge l k w) ∧ g' = g ∧ r' = eI b lv (s.qe l k w) := by
 have dh := hb.1
 obtain ⟨la, lc, rfl⟩ := aU hs
 cases s with
 | bad i p =>
  refine aw func28 rfl ntmps28 rfl fun E hE => ?_
  refine wz.s.Ab.e.e.b.a.c.z ?_
  refine q_ 0 rfl rfl rfl (iF g _ b (.bad i p)) ?_
  refine wz.l.i.b.a.c.t.d.T.s.n.n.n.n.n.n.n.n.n.n.n.n.n.s.s.n.n.n.n.n.n.n.n.n.n.n.n.n.s.s.n.n.n.n.n.n.n.n.n.n.s.s.z ?_
  exact ao [_] rfl rfl sR ⟨_, rfl, rfl, rfl, rfl⟩
 | ak i =>
  refine aw func28 rfl ntmps28 rfl fun E hE => ?_
  refine wz.s.Ab.e.e.b.a.c.z ?_
  refine q_ 0 rfl rfl rfl (iF g _ b (.ak i)) ?_
  refine wz.s.s.L.BR.H.Q.H.J.H.L.L.Q.H.J.H.L.L.s.s.z ?_
  refine lC rfl rfl (fun hlt => ?_) (fun hlt => ?_)
  ·have hk : df l i k w = false := KK oM k w
   refine wz.l.i.b.a.c.t.d.T.s.n.n.n.n.n.n.n.n.n.n.n.n.n.s.s.n.n.n.n.n.n.n.n.n.n.n.n.n.z ?_
   exact ao [_] rfl rfl sR ⟨_, rfl, by show _ = Value.bool (df l i k w); rw [hk], rfl, by simp only [RS.qe]; rw [if_neg (by rw [hk]; decide)]⟩
  ·have af : i < l.length := by omega
   have hk := KJ af k w
   obtain ⟨b0, off, cap, aq, hx⟩ := hs.held af
   cases aq
   refine wz.H.J.H.Aj.H.Q.H.J.H.L.L.Q.H.J.H.L.L.z ?_
   refine bR rfl (cU rfl (au.cell eP hx af 0 rfl)) ?_
   refine wz.s.s.L.L.z ?_
   refine lC rfl rfl (fun h5 => ?_) (fun h5 => ?_)
   ·have c_ : df l i k w = false := by rw [hk]; simp [h5]
    refine wz.l.i.b.a.c.t.d.T.s.n.n.n.n.n.n.n.n.n.n.n.n.n.z ?_
    exact ao [_] rfl rfl sR ⟨_, rfl, by show _ = Value.bool (df l i k w); rw [c_], rfl, by simp only [RS.qe]; rw [if_neg (by rw [c_]; decide)]⟩
   ·refine wz.H.J.H.Aj.H.Q.H.J.H.L.L.Q.H.J.H.L.L.z ?_
    refine bR rfl (cU rfl (au.cell eP hx af 1 rfl)) ?_
    refine wz.d.T.s.L.L.z ?_
    refine an rfl (fun h6 => ?_) (fun h6 => ?_)
    ·have c_ : df l i k w = false := by rw [hk]; simp [h6]
     refine wz.l.i.b.a.c.z ?_
     exact ao [_] rfl rfl sR ⟨_, rfl, by show _ = Value.bool (df l i k w); rw [c_], rfl, by simp only [RS.qe]; rw [if_neg (by rw [c_]; decide)]⟩
    ·have c_ : df l i k w = true := by rw [hk]; simp only [Decidable.not_not] at h5 h6; simp [h5, h6]
     refine wz.i.b.a.c.b.Ac.g.a.E.v.g.a.a.c.d.j.z ?_
     exact ao [_] rfl rfl sR ⟨_, rfl, by show _ = Value.bool (df l i k w); rw [c_], rfl, by simp only [RS.qe]; rw [if_pos c_]; rfl⟩
theorem Wm {l : List Tok} (bI : KW l) {w : Bytes} (hw : kindOf w = 5) (s : RS) : s.Ge l 5 w = s.fV l w ∧ s.qe l 5 w = s.skip l w := by
 cases s with
 | bad i p => exact ⟨rfl, rfl⟩
 | ak i =>
  have h : dZ l i w = df l i 5 w := lZ bI hw i
  exact ⟨h.symm, by simp only [RS.qe, RS.skip, h]⟩
theorem Wn {l : List Tok} (bI : KW l) {w : Bytes} (hw : kindOf w = 4) (s : RS) : s.Ge l 4 w = s.fV l w ∧ s.qe l 4 w = s.skip l w := by
 cases s with
 | bad i p => exact ⟨rfl, rfl⟩
 | ak i =>
  have h : dZ l i w = df l i 4 w := pM bI hw i
  exact ⟨h.symm, by simp only [RS.qe, RS.skip, h]⟩
theorem Gf (g : ab) (l : List Tok) (hb : TB l) (bI : KW l) (lv : Value) (hs : cg g lv l) (b : Nat) (s : RS) {w : Bytes} (hw : kindOf w = 5) : cR prog 28 [ptr b 0, .int .i64 5, str w] g (eI b lv s) fun v g' r' => v = .bool (s.fV l w) ∧ g' = g ∧ r' = eI b lv (s.skip l w) := by
 obtain ⟨e1, e2⟩ := Wm bI hw s
 rw [← e1, ← e2]
 exact MP g l hb lv hs b s 5 w
theorem Gg (g : ab) (l : List Tok) (hb : TB l) (bI : KW l) (lv : Value) (hs : cg g lv l) (b : Nat) (s : RS) {w : Bytes} (hw : kindOf w = 4) : cR prog 28 [ptr b 0, .int .i64 4, str w] g (eI b lv s) fun v g' r' => v = .bool (s.fV l w) ∧ g' = g ∧ r' = eI b lv (s.skip l w) := by
 obtain ⟨e1, e2⟩ := Wn bI hw s
 rw [← e1, ← e2]
 exact MP g l hb lv hs b s 4 w
theorem Wo (l : List Tok) (w : Bytes) (s : RS) : s.fi l w = if s.fV l w then s.skip l w else (s.skip l w).fail l := by
 cases s with
 | bad i p => rfl
 | ak i =>
  cases h : dZ l i w with
  | true => simp [RS.fi, RS.fV, RS.skip, h]
  | false => simp [RS.fi, RS.fV, RS.skip, RS.fail, h]
theorem A3 (g : ab) (l : List Tok) (hb : TB l) (bI : KW l) (lv : Value) (hs : cg g lv l) (b : Nat) (s : RS) {w : Bytes} (hw : kindOf w = 5) : cR prog 66 [ptr b 0, str w] g (eI b lv s) fun _ g' r' => g' = g ∧ r' = eI b lv (s.fi l w) := by
 rw [Wo]
 refine aw func66 rfl ntmps66 rfl fun E hE => ?_
 refine wz.a.a.c.z ?_
 refine aG 0 rfl rfl rfl (Gf g l hb bI lv hs b s hw) ?_
 rintro v g' r' ⟨rfl, rfl, rfl⟩ _
 cases hk : s.fV l w with
 | true =>
  refine wz.AX.j.o.b.a.z ?_
  exact iR [_] rfl sR ⟨_, rfl, rfl, rfl⟩
 | false =>
  refine wz.a.r.t.b.a.z ?_
  refine aG 0 rfl rfl rfl (uV g' l hb lv hs b (s.skip l w)) ?_
  rintro v g1 r' ⟨rfl, rfl⟩ _
  refine wz.AX.N.z ?_
  exact iR [_] rfl sR ⟨_, rfl, rfl, rfl⟩
theorem MQ {l : List Tok} {i : Nat} (h : i < l.length) (k : Int) : dq l i k = decide (l[i].kind = k) := by unfold dq; rw [eB h]
theorem MR {l : List Tok} {i : Nat} (h : ¬ i < l.length) (k : Int) : dq l i k = false := by unfold dq; rw [List.getElem?_eq_none oM]
theorem A4 (g : ab) (l : List Tok) (hb : TB l) (lv : Value) (hs : cg g lv l) (b : Nat) (s : RS) (k : Int) : cR prog 65 [ptr b 0, .int .i64 k] g (eI b lv s) fun v g' r' => v = str (s.text l k) ∧ g' = g ∧ r' = eI b lv (s.word l k) := by
 have dh := hb.1
 obtain ⟨la, lc, rfl⟩ := aU hs
 cases s with
 | bad i p =>
  refine aw func65 rfl ntmps65 rfl fun E hE => ?_
  refine wz.s.Ab.e.e.b.a.c.z ?_
  refine q_ 0 rfl rfl rfl (iF g _ b (.bad i p)) ?_
  refine wz.a.c.t.d.T.s.n.n.n.n.n.n.n.n.n.n.n.n.n.s.s.n.n.n.n.n.n.n.n.n.n.s.s.z ?_
  refine aG 0 rfl rfl rfl (uV g l hb _ hs b (.bad i p)) ?_
  rintro v g1 r' ⟨rfl, rfl⟩ _
  refine wz.l.i.b.a.c.b.z ?_
  exact ao [_] rfl rfl sR ⟨_, rfl, rfl, rfl, rfl⟩
 | ak i =>
  have no : dq l i k = false → RS.text l k (.ak i) = [] ∧ RS.word l k (.ak i) = RS.fail l (.ak i) := fun h => ⟨(pL h).2.2, (pL h).2.1⟩
  refine aw func65 rfl ntmps65 rfl fun E hE => ?_
  refine wz.s.Ab.e.e.b.a.c.z ?_
  refine q_ 0 rfl rfl rfl (iF g _ b (.ak i)) ?_
  refine wz.s.s.L.BR.H.Q.H.J.H.L.L.Q.H.J.H.L.L.s.s.z ?_
  refine lC rfl rfl (fun hlt => ?_) (fun hlt => ?_)
  ·obtain ⟨e1, e2⟩ := no (MR oM k)
   rw [e1, e2]
   refine wz.a.c.t.d.T.s.n.n.n.n.n.n.n.n.n.n.n.n.n.z ?_
   refine aG 0 rfl rfl rfl (uV g l hb _ hs b (.ak i)) ?_
   rintro v g1 r' ⟨rfl, rfl⟩ _
   refine wz.l.i.b.a.c.b.z ?_
   exact ao [_] rfl rfl sR ⟨_, rfl, rfl, rfl, rfl⟩
  ·have af : i < l.length := by omega
   have hk := MQ af k
   obtain ⟨b0, off, cap, aq, hx⟩ := hs.held af
   cases aq
   refine wz.H.J.H.Aj.H.Q.H.J.H.L.L.Q.H.J.H.L.L.z ?_
   refine bR rfl (cU rfl (au.cell eP hx af 0 rfl)) ?_
   refine wz.d.T.s.L.L.z ?_
   refine an rfl (fun h5 => ?_) (fun h5 => ?_)
   ·obtain ⟨e1, e2⟩ := no (by rw [hk]; simp [h5])
    rw [e1, e2]
    refine wz.a.c.z ?_
    refine aG 0 rfl rfl rfl (uV g l hb _ hs b (.ak i)) ?_
    rintro v g1 r' ⟨rfl, rfl⟩ _
    refine wz.l.i.b.a.c.b.z ?_
    exact ao [_] rfl rfl sR ⟨_, rfl, rfl, rfl, rfl⟩
   ·have c_ : dq l i k = true := by rw [hk]; simp only [Decidable.not_not] at h5; simp [h5]
    have e2 := (mZ c_).2.1
    have e1 : RS.text l k (.ak i) = l[i].text := by simp only [RS.text]; rw [eB af]; simp only [Decidable.not_not] at h5; simp [h5]
    rw [e1, e2]
    refine wz.Ch.Q.J.s.s.Q.J.s.s.Ab.e.b.Ac.g.a.E.v.g.a.a.c.d.j.z ?_
    refine bR rfl (bU (j := i) rfl rfl oM af) ?_
    refine wz.J.z ?_
    refine bR rfl (cU rfl (au.cell eP hx af 1 rfl)) ?_
    refine wz.i.d.T.s.z ?_
    exact ao [_] rfl rfl sR ⟨_, rfl, rfl, rfl, rfl⟩
theorem A5 (g : ab) (b i i' : Nat) (la : Option Addr) (ln lc : Nat) (e p e' p' : Int) : cR prog 69 [ptr b 0, .int .i64 i', .agg #[.int .i64 e', .int .i64 p']] g (.ae b 74 [.slice la ln lc, .int .i64 i, .int .i64 e, .int .i64 p]) fun _ g' r' => g' = g ∧ r' = .ae b 74 [.slice la ln lc, .int .i64 i', .int .i64 e', .int .i64 p'] := by
 refine aw func69 rfl ntmps69 rfl fun E hE => ?_
 refine aS ?_
 refine aP rfl rfl rfl (fun b5 => ?_)
 refine iV ?_
 refine bO [1] mixed (fun hG => ?_)
 refine wz.P.z ?_; refine ⟨_, (ag rfl), ?_⟩; refine wz.R.z ?_; refine ⟨_, (ag rfl), ?_⟩; refine wz.S.z ?_; refine ⟨_, (ag rfl), ?_⟩; refine wz.X.z ?_; refine ⟨_, (bP 0 rfl rfl rL), ?_⟩; refine wz.Z.z ?_; refine ⟨_, (ag rfl), ?_⟩; refine wz.Ad.z ?_; refine ⟨_, (aI rfl), ?_⟩
 refine wz.Aa.f.b.Ah.Ao.z ?_; refine ⟨_, (ag rfl), ?_⟩; refine wz.AV.z ?_; refine ⟨_, (aI rfl), ?_⟩
 refine wz.AX.F.f.b.B.Ai.z ?_
 exact iR [_] rfl sA ⟨_, rfl, rfl, rfl⟩
theorem xi (g : ab) (l : List Tok) (lv : Value) (hs : cg g lv l) (b : Nat) (s s' : RS) : cR prog 69 [ptr b 0, .int .i64 s'.idx, .agg #[.int .i64 s'.MK, .int .i64 s'.ML]] g (eI b lv s) fun _ g' r' => g' = g ∧ r' = eI b lv s' := by
 obtain ⟨la, lc, rfl⟩ := aU hs
 cases s with
 | ak i =>
  cases s' with
  | ak i' => exact A5 g b i i' la l.length lc 0 0 0 0
  | bad i' p' => exact A5 g b i i' la l.length lc 0 0 3 p'
 | bad i p =>
  cases s' with
  | ak i' => exact A5 g b i i' la l.length lc 3 p 0 0
  | bad i' p' => exact A5 g b i i' la l.length lc 3 p 3 p'
end Go.Proofs.YtlnjfkfojkgiiaaGreatDoor
namespace Go.Th
end Go.Th
namespace Go.Proofs.YtlnjfkfojkgiiaaGreatDoor
end Go.Proofs.YtlnjfkfojkgiiaaGreatDoor
namespace Go.Th
theorem MS {l : List Tok} {f : EQ → Nat → ER} {k p : Int} {i : Nat} {e : Ex} {j : Nat} (hf : ∀ q i e j, i ≤ l.length → f q i = .ok (e, j) → j ≤ l.length) (h : j8 l f k p i = .ok (e, j)) : j ≤ l.length := by
 unfold j8 at h
 split at h
 ·cases h
 ·split at h
  ·rename_i hm
   have hi := cF hm
   split at h
   ·cases h
   ·rename_i a k1 h1
    have i1 := hf _ _ _ _ hi h1
    split at h
    ·rename_i hw
     have cL := cF hw
     split at h
     ·cases h
     ·rename_i b m h2
      have i2 := hf _ _ _ _ cL h2
      cases h
      exact i2
    ·cases h
  ·cases h
theorem MT (l : List Tok) : ∀ (N : Nat) (q : EQ) (i : Nat) (e : Ex) (j : Nat), fB l q i < N → i ≤ l.length → bt l q i = .ok (e, j) → j ≤ l.length
 | 0, _, _, _, _, h, _, _ => by omega
 | N + 1, q, i, e, j, hN, hi, h => by
  have ih := MT l N
  rw [zt] at h
  have hf : ∀ q' i' e' j', i' ≤ l.length → iZ l (bt l) q i q' i' = .ok (e', j') → j' ≤ l.length := fun q' i' e' j' dR hc => by
   obtain ⟨h1, h2⟩ := E0 hc
   exact ih q' i' e' j' oM dR h2
  cases q with
  | expr =>
   simp only [dM] at h
   split at h
   ·split at h
    ·cases h
    ·split at h
     ·rename_i hm
      have := cF hm
      split at h
      ·cases h
      ·rename_i b k h1
       have i1 := hf _ _ _ _ this h1
       cases h; exact i1
     ·cases h
   ·split at h
    ·rename_i hm
     have h0 := cF hm
     split at h
     ·exact MS hf h
     ·exact MS hf h
    ·split at h
     ·rename_i hm
      have h0 := cF hm
      split at h
      ·cases h
      ·rename_i e1 j1 h1
       split at h
       ·rename_i hw
        exact hf _ _ _ _ (cF hw) h
       ·cases h
     ·split at h
      ·cases h
      ·rename_i e1 j1 h1
       exact hf _ _ _ _ (hf _ _ _ _ hi h1) h
  | apps x =>
   simp only [dM] at h
   split at h
   ·split at h
    ·cases h
    ·rename_i a j1 h1
     exact hf _ _ _ _ (hf _ _ _ _ hi h1) h
   ·cases h; exact hi
  | aK p x acc =>
   simp only [dM] at h
   split at h
   ·cases h
   ·split at h
    ·rename_i hm
     have h0 := cF hm
     split at h
     ·cases h
     ·rename_i b m h1
      split at h
      ·rename_i hw
       exact hf _ _ _ _ (cF hw) h
      ·split at h
       ·rename_i hw
        cases h
        exact cF hw
       ·cases h
    ·cases h
  | atom =>
   simp only [dM] at h
   split at h
   ·cases h
   ·rename_i t ht
    have h0 := (List.getElem?_eq_some_iff.1 ht).1
    split at h
    ·cases h; exact h0
    ·split at h
     ·cases h; exact h0
     ·split at h
      ·cases h; exact h0
      ·split at h
       ·cases h; exact h0
       ·split at h
        ·split at h
         ·cases h
         ·rename_i x1 j1 h1
          split at h
          ·rename_i hw
           cases h; exact cF hw
          ·cases h
        ·split at h
         ·split at h
          ·cases h
          ·rename_i x1 j1 h1
           split at h
           ·split at h
            ·cases h
            ·rename_i y k h2
             split at h
             ·rename_i hw
              cases h; exact cF hw
             ·cases h
           ·split at h
            ·rename_i hw
             cases h; exact cF hw
            ·cases h
         ·cases h
end Go.Th
namespace Go.Proofs.YtlnjfkfojkgiiaaGreatDoor
end Go.Proofs.YtlnjfkfojkgiiaaGreatDoor

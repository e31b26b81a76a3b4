/- The walk of typedholesref4.With. -/
import Derived.Test.YtlnjfkfojkgiiaaGreatDoorK29
open Go Go.aZ Go.Th Go.Proofs Tryz
set_option maxRecDepth 10000
set_option maxHeartbeats 4000000
attribute [local irreducible] wpList Code.wp ah bodyPost Go.aZ.Ends Exit.then Exit.inBlock dJ Wq Kq
namespace Go.Th
theorem aBR {az acc : List Ar} {l : List Ex} (hl : l.length = az.length) (ha : acc.length = az.length) (h : ∀ t (h1 : t < acc.length) (h2 : t < az.length) (h3 : t < l.length), acc[t] = setBody az[t] l[t]) : acc = List.zipWith setBody az l :=
 List.ext_getElem (by simp [ha, hl]) fun t h1 h2 => by
  rw [h t h1 oM oM, List.getElem_zipWith]
end Go.Th
namespace Go.Proofs.YtlnjfkfojkgiiaaGreatDoor
theorem gG.open {g : ab} {a : Ar} {cs : List Value} (h : gG g a cs) : ∃ fG bc, cs = [.int .i64 a.pos, str a.bQ, fG] ++ bc ∧ au g 1 fG a.vars.length (a.vars.map str) ∧ cJ g a.body bc := by
 cases a
 unfold gG at h
 exact h
theorem gG.set {g : ab} {a : Ar} {fG : Value} {b : Ex} {bc : List Value} (h1 : au g 1 fG a.vars.length (a.vars.map str)) (h2 : cJ g b bc) : gG g (setBody a b) ([.int .i64 a.pos, str a.bQ, fG] ++ bc) := by
 unfold setBody gG
 exact ⟨fG, bc, rfl, h1, h2⟩
theorem QA {g : ab} {ks : List Ex} {xa : List Value} {b off : Nat} (ht : dp g ks xa) (hx : ∀ k x, xa[k]? = some x → g b (off + k) = some x) {i : Nat} (h : i < ks.length) :
  ∃ c, cJ g ks[i] c ∧ ∀ g', ab.le g g' → ∀ own, Rd g' own b (off + i * 11) c := rz (fun _ _ h => h.one.1) (mw.1 ht) hx h
theorem aBS {g : ab} {ks : List Ex} {xa : List Value} (h : dp g ks xa) (n : Nat) : dp g (ks.take n) (xa.take (n * 11)) := by
 have : ∀ (n : Nat) (ks : List Ex) (xa : List Value), aL (cJ g) ks xa → aL (cJ g) (ks.take n) (xa.take (n * 11)) := by
  intro n
  induction n with
  | zero => intro ks xa _; simp [aL]
  | succ n ih =>
   intro ks xa h
   cases ks with
   | nil => rw [show xa = [] from h]; simp [aL]
   | cons a r =>
    obtain ⟨c, s, e, h1, h2⟩ := h
    have hl := h1.one.1
    refine ⟨c, s.take (n * 11), ?_, h1, ih r s h2⟩
    rw [e, show (n + 1) * 11 = c.length + n * 11 by rw [hl]; omega, List.take_length_add_append]
 exact mw.2 (this n ks xa (mw.1 h))
theorem aBT (g : ab) (v cv : Value) (e : Ex) (l : List Ex) (xl : List Value) (hv : cT g v e) (bN : aN e ≤ 1000000) (hl : l.length = (aY e).length) (hc : au g 11 cv l.length xl) (hx : dp g l xl) :
  bK prog 91 [v, cv] g fun w g' => cT g' w (t_ e l) := by
 obtain ⟨a1, c1, a2, c2, a3, m3, c3, xk, xa, rfl, h1, h2, h3, h4, h5⟩ := hv.open
 have hlen := my e
 have gk : (aY e).length = e.kids.length + e.aK.length := by simp [aY]
 obtain ⟨la, lc, rfl⟩ := aU hc
 obtain ⟨hqc, hcs⟩ := hc.hi (q := e.kids.length) oM
 have QB := aBS hx e.kids.length
 have hkt : (l.take e.kids.length).length = e.kids.length := by rw [List.length_take]; omega
 refine aw func91 rfl ntmps91 rfl fun E hE => ?_
 refine aS ?_
 refine aP rfl rfl rfl (fun b2 => ?_)
 skip
 refine aj rfl (fun b4 => ?_)
 refine wz.b.a.E.A.I.g.a.A.a.c.e.b.a.A.I.g.c.b.z ?_
 refine an rfl (fun hne => ?_) (fun hne => ?_)
 ·exact absurd hne nM
 ·refine wz.O.c.d.j.z ?_
  refine aj rfl (fun b6 => ?_)
  refine wz.e.b.q.z ?_
  refine bO [0] mixed (fun hG => ?_)
  refine wz.P.z ?_; refine ⟨_, (ag rfl), ?_⟩; refine wz.R.z ?_; refine ⟨_, (ag rfl), ?_⟩
  refine bn 2 rfl kR rfl hG ⟨_, (PJ (q := e.kids.length) rfl rfl rfl hqc), ?_⟩
  refine wz.Z.z ?_; refine ⟨_, (aI rfl), ?_⟩; refine wz.Ad.z ?_; refine ⟨_, (a7 1 rfl rfl rfl), ?_⟩
  refine wz.Ci.Aw.z ?_
  refine jr 0 rfl rfl rfl rfl hcs rL rL (by
   have := (zj QB).2
   simpa using this) mL oM (fun v1 _ => ?_)
  refine wz.BF.z ?_
  rintro ⟨q1, q2, rfl⟩
  rw [Nat.zero_add, List.nil_append]
  refine bg (fun g1 a8 aJ => ?_)
  refine wz.Aa.f.b.z ?_; refine ⟨_, (aI rfl), ?_⟩
  refine wz.CA.Ao.z ?_
  refine jr 0 rfl rfl rfl rfl (h3.mono a8) rL rL (SC h4).2 mL oM (fun v2 _ => ?_)
  refine wz.BF.z ?_
  rintro ⟨q3, q4, rfl⟩
  rw [List.nil_append, Nat.zero_add]
  refine wz.Av.f.b.Ah.Ae.f.b.z ?_; refine ⟨_, (aI rfl), ?_⟩
  refine wz.F.f.b.Ah.AW.z ?_
  have hd : (l.drop e.kids.length).length = e.aK.length := by rw [List.length_drop]; omega
  refine fF (own' := [_, _, _]) (.cons_cons _ (.cons_cons _ (.cons_cons _ sZ))) ?_; refine wz.p.b.a.c.e.d.z ?_
  refine aX (ι := Nat × List Ar × List Value) (fun o => [(1, .slice la l.length lc), (4, ptr b4 0), (5, .int .i64 e.kids.length), (6, ptr b6 0), (7, .int .i64 o.1)]) (fun _ => g1) (fun o => [.row 111 14 (.slice q3 e.aK.length q4) e.aK.length o.2.2, .ae b6 47 [.int .i64 e.kind, .int .i64 e.pos, str e.name, .int .i64 e.num, .slice q1 e.kids.length q2, .slice q3 e.aK.length q4, .int .i64 e.ty.kind, str e.ty.name, .int .i64 e.ty.id, .int .i64 e.ty.home, .slice a3 m3 c3], .ae b4 47 dK])
   (fun o => o.1 ≤ e.aK.length ∧ fw g1 o.2.1 o.2.2 ∧ o.2.1.length = e.aK.length ∧ ∀ t (h1 : t < o.2.1.length) (h2 : t < e.aK.length) (h3 : t < (l.drop e.kids.length).length), o.2.1[t] = if t < o.1 then setBody e.aK[t] (l.drop e.kids.length)[t] else e.aK[t]) (fun o => e.aK.length - o.1)
   (0, e.aK, xa) ⟨Nat.zero_le _, h4.mono a8, rfl, fun t _ _ _ => by simp⟩ ⟨rfl, rfl, rfl, rfl, rfl, trivial⟩ rfl rfl ?_
  rintro ⟨j, acc, xs⟩ ⟨hj, dV, n7, uv⟩
  simp only at hj dV n7 uv
  try dsimp only
  refine wz.b.a.A.I.g.a.c.e.z ?_
  refine an rfl (fun hlt => ?_) (fun hlt => ?_)
  ·have dr : j < e.aK.length := by omega
   have QC : j < acc.length := by omega
   have hjd : j < (l.drop e.kids.length).length := by omega
   have eK : e.kids.length + j < l.length := by omega
   refine wz.CK.z ?_
   rintro ⟨rb, aFH, fJ⟩
   cases fJ
   obtain ⟨bb, off, cap, aq, kF⟩ := (hc.mono a8).held eK
   cases aq
   obtain ⟨cs, y1, hr⟩ := QA (hx.mono a8) kF eK
   obtain ⟨z1, z2, z3, z4, z5, z6, z7, z8, z9, zk, za, rfl, _⟩ := id y1.form
   obtain ⟨pre, cc, post, p1, p2, p3, p4⟩ := aL.split (fun _ _ h => gG.one h |>.1) (nK.1 dV) j QC
   obtain ⟨fG, bc, rfl, s1, s2⟩ := p3.open
   have QD := s2.one.1
   subst p1
   refine wz.p.e.d.j.z ?_
   refine bO [0] mixed (fun hG => ?_)
   refine wz.P.z ?_; refine ⟨_, (aI rfl), ?_⟩; refine wz.R.z ?_; refine ⟨_, (a7 0 rfl rfl rfl), ?_⟩; refine wz.S.z ?_; refine ⟨_, (ag rfl), ?_⟩; refine wz.X.z ?_; refine ⟨_, (ag rfl), ?_⟩; refine wz.Z.z ?_; refine ⟨_, (ag rfl), ?_⟩; refine wz.Ad.z ?_; refine ⟨_, (ag rfl), ?_⟩
   refine bn 6 rfl kR rfl hG ⟨_, (val_add rfl rfl oM), ?_⟩
   refine bn 7 rfl kR rfl hG ⟨_, (bU (j := e.kids.length + j) rfl rfl oM eK), ?_⟩
   refine bn 8 rfl kR rfl hG ⟨_, (dL rfl (hr _ (ab.le_refl _) _) rfl), ?_⟩
   refine bn 9 rfl kR rfl hG ⟨_, (bU (j := j) rfl rfl rfl dr), ?_⟩
   refine wz.Al.z ?_; refine ⟨_, (aI rfl), ?_⟩
   refine wz.Bf.z ?_
   refine Dv (fun rest g_ eM gD qq => ?_)
   have lr : (pre ++ [Value.int .i64 acc[j].pos, str acc[j].bQ, fG]).length = j * 14 + 3 := by rw [List.length_append, p2]; rfl
   have e1 : pre ++ ([Value.int .i64 acc[j].pos, str acc[j].bQ, fG] ++ bc ++ post) ++ rest = (pre ++ [Value.int .i64 acc[j].pos, str acc[j].bQ, fG]) ++ (bc ++ (post ++ rest)) := by simp only [List.append_assoc]
   have IE := p4 (setBody acc[j] l[e.kids.length + j]) _ (gG.set s1 y1)
   rw [e1] at qq ⊢
   refine kE 0 rfl rfl rfl rfl rL rfl (xX _ _ _ _ _ (by rw [lr]; omega) QD) ?_
   have jB := y1.one.1
   refine IF (size := 14) (m := e.aK.length) (cap := q4) (xs := pre ++ ([Value.int .i64 acc[j].pos, str acc[j].bQ, fG] ++ [.int .i64 l[e.kids.length + j].kind, .int .i64 l[e.kids.length + j].pos, str l[e.kids.length + j].name, .int .i64 l[e.kids.length + j].num, .slice z1 z2 z3, .slice z4 z5 z6, .int .i64 l[e.kids.length + j].ty.kind, str l[e.kids.length + j].ty.name, .int .i64 l[e.kids.length + j].ty.id, .int .i64 l[e.kids.length + j].ty.home, .slice z7 z8 z9] ++ post)) (by
    rw [← qq]
    simp only [List.length_append]
    rw [QD, jB]) g_ eM ?_ ?_ ?_
   rotate_left 2
   ·refine wz.b.a.E.a.r.d.y.F.f.b.z ?_
    refine aM (j + 1, acc.set j (setBody acc[j] l[e.kids.length + j]), _) ⟨oM, nK.2 IE, by simp only [List.length_set]; exact n7, fun t t1 t2 t3 => ?_⟩ uM ⟨rfl, rfl, rfl, rfl, rfl, trivial⟩ rfl rfl
    simp only
    rw [List.getElem_set]
    by_cases QE : j = t
    ·subst QE
     rw [if_pos rfl, if_pos (Nat.lt_succ_self _), uv j QC dr hjd, if_neg (Nat.lt_irrefl _)]
     congr 1
     rw [List.getElem_drop]
    ·rw [if_neg QE, uv t (by simpa using t1) t2 t3]
     by_cases h : t < j
     ·rw [if_pos h, if_pos oM]
     ·rw [if_neg h, if_neg oM]
   ·rw [← List.append_assoc, ← List.append_assoc, ← List.append_assoc, List.take_append_of_le_length (by
     simp only [List.length_append, List.length_cons, List.length_nil] at gD ⊢
     omega)]
    refine (List.take_of_length_le ?_).trans (by simp only [List.append_assoc])
    simp only [List.length_append, List.length_cons, List.length_nil] at gD ⊢
    omega
   ·simp only [List.length_append, List.length_cons, List.length_nil] at gD ⊢
    omega
  ·have Om : j = e.aK.length := by omega
   have hz : acc = List.zipWith setBody e.aK (l.drop e.kids.length) := aBR hd n7 fun t t1 t2 t3 => by rw [uv t t1 t2 t3, if_pos oM]
   refine bg (fun g2 aD bj => ?_)
   refine wz.i.b.B.G.c.d.D.m.m.C.z ?_
   have hV : cJ g2 (t_ e l) [.int .i64 e.kind, .int .i64 e.pos, str e.name, .int .i64 e.num, .slice q1 e.kids.length q2, .slice q3 e.aK.length q4, .int .i64 e.ty.kind, str e.ty.name, .int .i64 e.ty.id, .int .i64 e.ty.home, .slice a3 m3 c3] :=
    cJ.mk (e := t_ e l) (slk := .slice q1 e.kids.length q2) (by show au _ 11 _ (l.take e.kids.length).length _; rw [hkt]; exact aJ.mono aD) (((QB.mono a8)).mono aD) (by show au _ 14 _ (List.zipWith setBody e.aK (l.drop e.kids.length)).length _; rw [← hz, n7]; exact bj) (by show fw _ (List.zipWith setBody e.aK (l.drop e.kids.length)) _; rw [← hz]; exact dV.mono aD) ((h5.mono a8).mono aD)
   exact bp [] rfl (ay 1 rfl rfl rL) sZ ⟨⟨_, rfl, hV⟩, rfl⟩
theorem QF : ∀ {l : List Ex} {i : Nat} (h : i < l.length) (x : Ex), cd (l.set i x) + aN l[i] = cd l + aN x
 | a :: l, 0, _, x => by simp only [List.set_cons_zero, cd, List.getElem_cons_zero]; omega
 | a :: l, i + 1, h, x => by
  have := QF (l := l) (i := i) (by simpa using h) x
  simp only [List.set_cons_succ, cd, List.getElem_cons_succ]
  omega
theorem IG {e : Ex} (h : GE e) : ∀ c ∈ aY e, GE c := by
 cases h with
 | var p n h hl => intro c hc; cases hc
 | bQ p n h hl => intro c hc; cases hc
 | int p m h => intro c hc; cases hc
 | hole p => intro c hc; cases hc
 | lam p n b h hl hb =>
  intro c hc; obtain rfl : c = b := by simpa [aY, bC, Ex.kids, Ex.aK] using hc
  exact hb
 | app p f a hf ha =>
  intro c hc
  have : c = f ∨ c = a := by simpa [aY, bC, Ex.kids, Ex.aK] using hc
  rcases this with rfl | rfl <;> assumption
 | bind k p n a b hk h hl ha hb =>
  intro c hc
  have : c = a ∨ c = b := by simpa [aY, bC, Ex.kids, Ex.aK] using hc
  rcases this with rfl | rfl <;> assumption
 | iY p e t he ht hs =>
  intro c hc; obtain rfl : c = e := by simpa [aY, h_, Ex.kids, Ex.aK] using hc
  exact he
 | held p e he =>
  intro c hc; obtain rfl : c = e := by simpa [aY, bC, Ex.kids, Ex.aK] using hc
  exact he
 | case p e az he hne hc ha =>
  intro c hcm
  have : c = e ∨ ∃ a ∈ az, a.body = c := by simpa [aY, eS, Ex.kids, Ex.aK] using hcm
  rcases this with rfl | ⟨a, h1, rfl⟩
  ·exact he
  ·exact ha a h1
def QG (g : ab) (e part : Ex) (w : Value) : Prop := ∃ w1 b e', w = .tuple #[w1, .bool b] ∧ cT g w1 e' ∧ GE e' ∧ aN e' ≤ aN e + aN part
theorem QH : ∀ (N : Nat) (g : ab) (v pv u : Value) (e part : Ex) (path : List Int), path.length < N → path.length ≤ 1000 → cT g v e → GE e → aN e ≤ 100000 → au g 1 pv path.length (ints path) → cT g u part → GE part →
  bK prog 52 [v, pv, u] g fun w g' => QG g' e part w
 | 0, g, v, pv, u, e, part, path, h, _, _, _, _, _, _, _ => by omega
 | N + 1, g, v, pv, u, e, part, path, hN, lr, hv, he, bN, hp, hu, yH => by
  have ih := QH N
  obtain ⟨a1, m1, c1, a2, m2, c2, a3, m3, c3, rfl, eD⟩ := hv.form
  obtain ⟨d1, n1, f1, d2, n2, f2, d3, n3, f3, rfl, gq⟩ := hu.form
  obtain ⟨pa, pc, rfl⟩ := aU hp
  have gk := my e
  refine aw func52 rfl ntmps52 rfl fun E hE => ?_
  refine aS ?_
  refine aP rfl rfl rfl (fun b3 => ?_)
  skip
  refine aP rfl rfl rfl (fun b5 => ?_)
  skip
  refine aj rfl (fun b6 => ?_)
  refine wz.b.a.A.a.c.e.b.a.z ?_
  refine an rfl (fun h0 => ?_) (fun h0 => ?_)
  ·refine wz.l.i.b.a.q.O.c.z ?_
   exact cB [] rfl (ay 0 rfl rfl rL) (.tmp rfl) sZ ⟨⟨_, _, part, rfl, ⟨_, rfl, gq⟩, yH, oM⟩, rfl⟩
  ·have tj : 0 < path.length := by omega
   obtain ⟨b0, off, cap, aq, QI⟩ := hp.held tj
   cases aq
   have jb : ∀ own, Rd g own b0 (off + 0 * 1) [.int .i64 path[0]] := fun own => eT (QI (0 * 1) _ (by simp [ints, tj]))
   refine wz.Af.c.d.j.z ?_
   refine uy rfl rfl (aA7 g _ e ⟨_, rfl, eD⟩ oM) ?_
   rintro w g1 own' ⟨rfl, xs, rfl, hx⟩ _
   refine wz.BF.z ?_
   rintro ⟨ra, rc, rfl⟩
   refine wz.CF.a.c.e.b.a.z ?_
   refine cj rfl rfl (jb _) ?_
   refine wz.a.a.z ?_
   refine bw rfl rfl (fun k1 => ?_) (fun k1 => ?_)
   ·refine wz.l.i.b.a.B.Y.c.t.b.a.h.h.h.h.h.h.z ?_
    exact cB [] rfl (ay 1 rfl rfl rL) (.tmp rfl) sZ ⟨⟨_, _, e, rfl, ⟨_, rfl, eD⟩, he, oM⟩, rfl⟩
   ·refine wz.k.CF.k.u.z ?_
    refine cj rfl rfl (jb _) ?_
    refine wz.b.a.u.A.k.u.z ?_
    refine an rfl (fun k2 => ?_) (fun k2 => ?_)
    ·refine wz.l.i.b.a.B.Y.c.z ?_
     exact cB [] rfl (ay 1 rfl rfl rL) (.tmp rfl) sZ ⟨⟨_, _, e, rfl, ⟨_, rfl, eD⟩, he, oM⟩, rfl⟩
    ·obtain ⟨k, hk⟩ : ∃ k : Nat, path[0] = k := ⟨path[0].toNat, oM⟩
     have dj : k < (aY e).length := by omega
     refine wz.CK.z ?_
     rintro ⟨rb, rq, fJ⟩
     cases fJ
     obtain ⟨cc, y1, y2⟩ := aL.get (fun _ _ h => h.one.1) (mw.1 hx) k dj
     obtain ⟨z1, z2, z3, z4, z5, z6, z7, z8, z9, zk, za, rfl, _⟩ := id y1.form
     have hcs := mC (List.getElem_mem dj)
     have D2 := IG he _ (List.getElem_mem dj)
     obtain ⟨-, tD, kh⟩ := hp.lo (p := 1) oM
     refine wz.d.j.z ?_
     refine cD (ι := ab × Nat × Ex × Bool × (Option Addr × Nat × Nat) × (Option Addr × Nat × Nat) × (Option Addr × Nat × Nat)) (fun o => [(1, .slice (some ⟨b0, off, none⟩) path.length pc), (3, ptr b3 0), (5, ptr b5 0), (6, ptr b6 0), (8, .slice (some ⟨rb, 0, none⟩) (aY e).length rc), (9, ptr o.2.1 0), (10, .bool o.2.2.2.1)]) (fun o => o.1) (fun o => [.ae o.2.1 47 [.int .i64 o.2.2.1.kind, .int .i64 o.2.2.1.pos, str o.2.2.1.name, .int .i64 o.2.2.1.num, .slice o.2.2.2.2.1.1 o.2.2.2.2.1.2.1 o.2.2.2.2.1.2.2, .slice o.2.2.2.2.2.1.1 o.2.2.2.2.2.1.2.1 o.2.2.2.2.2.1.2.2, .int .i64 o.2.2.1.ty.kind, str o.2.2.1.ty.name, .int .i64 o.2.2.1.ty.id, .int .i64 o.2.2.1.ty.home, .slice o.2.2.2.2.2.2.1 o.2.2.2.2.2.2.2.1 o.2.2.2.2.2.2.2.2], .row 47 11 (.slice (some ⟨rb, 0, none⟩) (aY e).length rc) (aY e).length xs, .ae b6 47 dK, .ae b5 47 [.int .i64 part.kind, .int .i64 part.pos, str part.name, .int .i64 part.num, .slice d1 n1 f1, .slice d2 n2 f2, .int .i64 part.ty.kind, str part.ty.name, .int .i64 part.ty.id, .int .i64 part.ty.home, .slice d3 n3 f3], .ae b3 47 [.int .i64 e.kind, .int .i64 e.pos, str e.name, .int .i64 e.num, .slice a1 m1 c1, .slice a2 m2 c2, .int .i64 e.ty.kind, str e.ty.name, .int .i64 e.ty.id, .int .i64 e.ty.home, .slice a3 m3 c3]]) (fun o => ab.le g1 o.1 ∧ cJ o.1 o.2.2.1 [.int .i64 o.2.2.1.kind, .int .i64 o.2.2.1.pos, str o.2.2.1.name, .int .i64 o.2.2.1.num, .slice o.2.2.2.2.1.1 o.2.2.2.2.1.2.1 o.2.2.2.2.1.2.2, .slice o.2.2.2.2.2.1.1 o.2.2.2.2.2.1.2.1 o.2.2.2.2.2.1.2.2, .int .i64 o.2.2.1.ty.kind, str o.2.2.1.ty.name, .int .i64 o.2.2.1.ty.id, .int .i64 o.2.2.1.ty.home, .slice o.2.2.2.2.2.2.1 o.2.2.2.2.2.2.2.1 o.2.2.2.2.2.2.2.2] ∧ GE o.2.2.1 ∧ aN o.2.2.1 ≤ aN (aY e)[k] + aN part) ?_ ?_
     case refine_2 =>
      intro K hK
      skip
      refine bO [] mixed (fun hG => ?_)
      refine wz.P.z ?_; refine ⟨_, (ag rfl), ?_⟩; refine wz.R.z ?_; refine ⟨_, (ag rfl), ?_⟩; refine wz.S.z ?_; refine ⟨_, (bU (j := 0) rfl rfl rfl oM), ?_⟩
      refine bn 3 rfl kR rfl hG ⟨_, (cU rfl (jb _)), ?_⟩
      refine bn 4 rfl kR rfl hG ⟨_, (bU (j := k) rfl rfl hk dj), ?_⟩
      refine bn 5 rfl kR rfl hG ⟨_, (dL rfl (A_ (vs := [.int .i64 (aY e)[k].kind, .int .i64 (aY e)[k].pos, str (aY e)[k].name, .int .i64 (aY e)[k].num, .slice z1 z2 z3, .slice z4 z5 z6, .int .i64 (aY e)[k].ty.kind, str (aY e)[k].ty.name, .int .i64 (aY e)[k].ty.id, .int .i64 (aY e)[k].ty.home, .slice z7 z8 z9]) 0 rfl (fun j x hj => by rw [Nat.zero_add]; exact y2 j x hj)) rfl), ?_⟩
      refine wz.Ak.z ?_; refine ⟨_, (ag rfl), ?_⟩
      refine bn 7 rfl kR rfl hG ⟨_, (C_ (p := 1) rfl rfl rfl oM tD), ?_⟩
      refine wz.AV.z ?_; refine ⟨_, (bP 2 rfl rfl rL), ?_⟩
      refine eH 9 13 kR rfl rfl ?_ ?_
      ·refine aB rfl rfl (ih g1 _ _ _ (aY e)[k] part (path.drop 1) (by rw [List.length_drop]; omega) (by rw [List.length_drop]; omega) ⟨_, rfl, y1⟩ D2 oM (by
        rw [List.length_drop]
        have e1 : ints (path.drop 1) = (ints path).drop (1 * 1) := by simp [ints, List.map_drop]
        rw [e1]
        exact kh) ⟨_, rfl, gq⟩ yH) ?_
       rintro w2 g2 ⟨w1, bz, e2, rfl, gY, dy, bj⟩ aD
       obtain ⟨p1, p2, p3, p4, p5, p6, p7, p8, p9, rfl, IH⟩ := gY.form
       refine wz.Al.f.b.z ?_; refine ⟨_, (ag rfl), ?_⟩; refine wz.As.z ?_; refine ⟨_, (ag rfl), ?_⟩; refine wz.Az.z ?_; refine ⟨_, (ag rfl), ?_⟩
       refine wz.AJ.z ?_
       refine aj rfl (fun b9 => ?_)
       refine wz.d.F.f.b.a.At.f.b.q.AO.f.b.z ?_
       exact hK (g2, b9, e2, bz, (p1, p2, p3), (p4, p5, p6), (p7, p8, p9)) _ ⟨aD, IH, dy, bj⟩ ⟨rfl, rfl, rfl, rfl, rfl, rfl, rfl, trivial⟩
      ·refine aj rfl (fun b9 => ?_)
       refine wz.Ai.f.b.z ?_
       refine aB rfl rfl (ih g1 _ _ _ (aY e)[k] part (path.drop 1) (by rw [List.length_drop]; omega) (by rw [List.length_drop]; omega) ⟨_, rfl, y1⟩ D2 oM (by
        rw [List.length_drop]
        have e1 : ints (path.drop 1) = (ints path).drop (1 * 1) := by simp [ints, List.map_drop]
        rw [e1]
        exact kh) ⟨_, rfl, gq⟩ yH) ?_
       rintro w2 g2 ⟨w1, bz, e2, rfl, gY, dy, bj⟩ aD
       obtain ⟨p1, p2, p3, p4, p5, p6, p7, p8, p9, rfl, IH⟩ := gY.form
       refine wz.Al.f.b.z ?_; refine ⟨_, (ag rfl), ?_⟩; refine wz.As.z ?_; refine ⟨_, (ag rfl), ?_⟩; refine wz.Az.z ?_; refine ⟨_, (ag rfl), ?_⟩
       refine wz.d.F.f.b.a.At.f.b.q.AO.z ?_
       exact hK (g2, b9, e2, bz, (p1, p2, p3), (p4, p5, p6), (p7, p8, p9)) _ ⟨aD, IH, dy, bj⟩ ⟨rfl, rfl, rfl, rfl, rfl, rfl, rfl, trivial⟩
     rintro ⟨g2, b9, e2, bz, ⟨p1, p2, p3⟩, ⟨p4, p5, p6⟩, ⟨p7, p8, p9⟩⟩ ⟨aD, gY, dy, bj⟩
     simp only at aD gY dy bj
     try dsimp only
     cases bz with
     | false =>
      refine wz.l.i.b.a.V.Cf.c.t.b.a.a.c.e.z ?_
      exact cB [] rfl (ay 2 rfl rfl rL) (.tmp rfl) sZ ⟨⟨_, _, e, rfl, ⟨_, rfl, eD.mono aD⟩, he, oM⟩, rfl⟩
     | true =>
      have jd := mw.1 (hx.mono aD)
      obtain ⟨pre, cc, post, s1, s2, s3, s4⟩ := aL.split (fun _ _ h => cJ.one h |>.1) jd k dj
      have C9 := s3.one.1
      have IE := s4 e2 _ gY
      have aBU : ∀ own, Rd g2 own b0 (off + 0 * 1) [.int .i64 path[0]] := fun own => eT (aD _ _ _ (QI (0 * 1) _ (by simp [ints, tj])))
      clear y2
      subst s1
      refine wz.e.d.j.o.b.a.a.c.e.z ?_
      refine bO [1] mixed (fun hG => ?_)
      refine wz.P.z ?_; refine ⟨_, (ag rfl), ?_⟩; refine wz.R.z ?_; refine ⟨_, (ag rfl), ?_⟩; refine wz.S.z ?_; refine ⟨_, (bU (j := 0) rfl rfl rfl oM), ?_⟩
      refine bn 3 rfl kR rfl hG ⟨_, (cU rfl (aBU _)), ?_⟩
      refine wz.Z.z ?_; refine ⟨_, (bP 0 rfl rfl rL), ?_⟩
      refine bn 5 rfl kR rfl hG ⟨_, (bU (j := k) rfl rfl hk dj), ?_⟩
      refine wz.Ao.z ?_; refine ko (own' := [_, _, _, _, _]) (.swap _ _ _) ?_
      refine Dv (fun rest g_ eM gD qq => ?_)
      have e1 : pre ++ (cc ++ post) ++ rest = pre ++ (cc ++ (post ++ rest)) := by simp only [List.append_assoc]
      rw [e1] at qq ⊢
      refine kE 0 rfl rfl rfl rfl rL rfl (xX _ _ _ _ _ (by rw [s2, Nat.zero_add]) C9) ?_
      have jB := gY.one.1
      refine IF (size := 11) (m := (aY e).length) (cap := rc) (xs := pre ++ ([.int .i64 e2.kind, .int .i64 e2.pos, str e2.name, .int .i64 e2.num, .slice p1 p2 p3, .slice p4 p5 p6, .int .i64 e2.ty.kind, str e2.ty.name, .int .i64 e2.ty.id, .int .i64 e2.ty.home, .slice p7 p8 p9] ++ post)) (by
       rw [← qq]
       simp only [List.length_append]
       rw [C9, jB]) g_ eM ?_ ?_ ?_
      rotate_left 2
      ·refine wz.F.f.b.z ?_
       refine bg (fun g3 aF bY => ?_)
       have hlen : ((aY e).set k e2).length = (aY e).length := List.length_set ..
       refine wz.a.Y.c.d.z ?_
       refine aB rfl rfl (aBT g3 _ _ e ((aY e).set k e2) _ ⟨_, rfl, (eD.mono aD).mono aF⟩ oM hlen (by rw [hlen]; exact bY) (mw.2 (aL.mono (fun _ _ h => h.mono aF) IE))) ?_
       rintro w4 g4 fZ aR
       obtain ⟨q1, q2, q3, q4, q5, q6, q7, q8, q9, rfl, Hn⟩ := fZ.form
       refine wz.i.b.a.B.z ?_
       refine cB [] rfl (ay 1 rfl rfl rL) (.tmp rfl) sZ ⟨⟨_, _, t_ e ((aY e).set k e2), rfl, ⟨_, rfl, Hn⟩, he.with hlen (fun x hx => ?_), ?_⟩, rfl⟩
       ·rcases List.mem_or_eq_of_mem_set hx with h | rfl
        ·exact IG he x h
        ·exact dy
       ·rw [aA6 hlen]
        have h1 := aA5 e
        have h2 := QF (l := aY e) (i := k) dj e2
        omega
      ·rw [← List.append_assoc, ← List.append_assoc, ← List.append_assoc, List.take_append_of_le_length (by
        simp only [List.length_append] at gD ⊢
        omega)]
       refine (List.take_of_length_le ?_).trans (by simp only [List.append_assoc])
       simp only [List.length_append] at gD ⊢
       omega
      ·simp only [List.length_append] at gD ⊢
       omega
theorem aBV (g : ab) (v pv u : Value) (e part : Ex) (path : List Int) (lr : path.length ≤ 1000) (hv : cT g v e) (he : GE e) (bN : aN e ≤ 100000) (hp : au g 1 pv path.length (ints path)) (hu : cT g u part) (yH : GE part) :
  bK prog 52 [v, pv, u] g fun w g' => QG g' e part w := QH _ g v pv u e part path (Nat.lt_succ_self _) lr hv he bN hp hu yH
end Go.Proofs.YtlnjfkfojkgiiaaGreatDoor
namespace Go.Th
theorem II {n : Bytes} {k : Int} (h0 : k ≠ 0) (h : kindOf n = k) : 1 ≤ n.length := by
 cases n with
 | nil => exact absurd (h.symm.trans (by decide : kindOf [] = 0)) h0
 | cons => simp
theorem QJ : ∀ {vs : List Bytes}, vs.length ≤ (eU vs).length
 | [] => by simp
 | v :: r => by
  have := QJ (vs := r)
  simp only [eU, List.flatMap_cons, List.length_append, List.length_cons] at this ⊢
  omega
theorem QK : ∀ {az : List Ar}, (∀ a ∈ az, hY a ≤ (iO a).length) → bZ az ≤ (ig az).length
 | [], _ => by simp [bZ]
 | a :: r, h => by
  have h1 := h a (List.mem_cons_self ..)
  have h2 := QK (az := r) (fun x hx => h x (List.mem_cons_of_mem _ hx))
  simp only [bZ, ig, List.length_append, List.length_cons, List.length_nil]
  omega
theorem aBW {az : List Ar} (h : ∀ a ∈ az, hY a ≤ (iO a).length) : bZ az ≤ (gI az).length := by
 cases az with
 | nil => simp [bZ]
 | cons a r =>
  have h1 := h a (List.mem_cons_self ..)
  have h2 := QK (az := r) (fun x hx => h x (List.mem_cons_of_mem _ hx))
  simp only [bZ, gI, List.length_append]
  omega
theorem aBX {e : Ex} (h : eQ e) : aN e ≤ (bL e).length := by
 induction h with
 | var p n h => rw [sJ]; have := II dC h; simp only [cN, aN, cd, bZ]; omega
 | bQ p n h => rw [sK]; have := II dC h; simp only [cN, aN, cd, bZ]; omega
 | int p m h => rw [wM]; simp [cN, aN, cd, bZ]
 | hole p => rw [wO]; simp [cN, aN, cd, bZ]
 | lam p n b h hb ih => rw [qT]; simp only [bC, aN, cd, bZ, List.length_append, List.length_cons]; omega
 | app p f a hf ha i1 i2 =>
  have h1 := Ib f
  have h2 := Ic a
  rw [pW]
  simp only [bC, aN, cd, bZ, List.length_append, List.length_cons]
  omega
 | bind k p n a b hk h ha hb i1 i2 =>
  rcases hk with rfl | rfl
  ·rw [sL]; simp only [bC, aN, cd, bZ, List.length_append, List.length_cons]; omega
  ·rw [sN]; simp only [bC, aN, cd, bZ, List.length_append, List.length_cons]; omega
 | iY p e t he ht ih => rw [sO]; simp only [h_, aN, cd, bZ, List.length_append, List.length_cons]; omega
 | held p e he ih => rw [sP]; simp only [bC, aN, cd, bZ, List.length_append, List.length_cons]; omega
 | case p e az he hne hc ha ih iha =>
  have := aBW (az := az) (fun a h => by
   have h1 := iha a h
   have h2 := II dC (hc a h).1
   obtain ⟨q, c, vs, b⟩ := a
   have h3 := QJ (vs := vs)
   simp only [Ar.bQ, Ar.body] at h1 h2
   simp only [hY, iO, List.length_append, List.length_cons]
   omega)
  rw [sS]
  simp only [eS, aN, cd, List.length_append, List.length_cons]
  omega
end Go.Th
namespace Go.Proofs.YtlnjfkfojkgiiaaGreatDoor
theorem aBY (g : ab) (ar : List Int) (lv : Value) (hs : au g 1 lv ar.length (ar.map (Value.int .i64))) (b i : Nat) :
  cR prog 50 [ptr b 0] g (c8 b lv i) fun v g' r' => g' = g ∧ r' = c8 b lv i ∧ ∃ z, v = .bool z := by
 obtain ⟨ca, cc, rfl⟩ := aU hs
 refine aw func50 rfl ntmps50 rfl fun E hE => ?_
 refine wz.i.d.T.s.s.BR.Q.J.s.s.Q.J.s.s.Ab.e.b.a.c.z ?_
 exact ao [_] rfl rfl sR ⟨_, rfl, rfl, rfl, _, rfl⟩
theorem iQ.open {g : ab} {x : Bi} {cs : List Value} (h : iQ g x cs) : ∃ tc ec, cs = [.int .i64 x.pos, .bool x.isRec, str x.name, .bool x.fD] ++ (tc ++ ec) ∧ bx g x.sig tc ∧ cJ g x.body ec ∧ tc.length = 5 ∧ ec.length = 11 := by
 obtain ⟨tc, ec, e, h1, h2⟩ := h
 exact ⟨tc, ec, e, h1, h2, h1.one.1, h2.one.1⟩
theorem aBZ {xs ys rest : List Value} {n : Nat} (h : ys = xs ++ rest) (hn : xs.length = n) : ys.take n = xs := by
 subst h
 subst hn
 exact List.take_left ..
theorem aL.QL {α : Type} {R : α → List Value → Prop} {sz : Nat} (hR : ∀ a c, R a c → c.length = sz) : ∀ {l : List α} {xs : List Value}, aL R l xs → ∀ (i : Nat) (h : i < l.length), ∃ pre c post, xs = pre ++ (c ++ post) ∧ pre.length = i * sz ∧ R l[i] c ∧ ∀ (R' : α → List Value → Prop), (∀ x c, R x c → R' x c) → ∀ x c', R' x c' → aL R' (l.set i x) (pre ++ (c' ++ post))
 | a :: l, xs, ⟨c, r, e, h1, h2⟩, 0, h => ⟨[], c, r, e, sM, h1, fun R' hm x c' hc => ⟨c', r, rfl, hc, aL.mono hm h2⟩⟩
 | a :: l, xs, ⟨c, r, e, h1, h2⟩, i + 1, h => by
  obtain ⟨pre, c1, post, e1, e2, e3, e4⟩ := aL.QL hR h2 i (by simpa using h)
  exact ⟨c ++ pre, c1, post, by rw [e, e1, List.append_assoc], by rw [List.length_append, hR _ _ h1, e2]; simp [Nat.add_mul, Nat.add_comm], e3, fun R' hm x c' hc => ⟨c, pre ++ (c' ++ post), by rw [List.append_assoc], hm _ _ h1, e4 R' hm x c' hc⟩⟩
theorem aB0 (g : ab) (v lv : Value) (p : Pg) (ar : List Int) (hv : ll g v p) (hp : qz 2000 p) (hc : ar.length ≤ 1000000) (gA : au g 1 lv ar.length (ar.map (Value.int .i64))) :
  bK prog 18 [v, lv] g fun w g' => ∃ p', ll g' w p' ∧ qz 3000 p' := by
 obtain ⟨_, rfl, sd, xd, sb, xb, rfl, h1, h2, h3, h4⟩ := id hv
 obtain ⟨da, dc, rfl⟩ := aU h1
 obtain ⟨ba, bc, rfl⟩ := aU h3
 obtain ⟨ca, cc, rfl⟩ := aU gA
 obtain ⟨pd, D3, QM, pb⟩ := id hp
 have tP : qz 3000 p := ⟨pd, D3, QM, fun b hb => let ⟨x1, x2, x3, x4, x5, x6⟩ := pb b hb; ⟨x1, x2, x3, x4, x5, oM⟩⟩
 have QN : pV g ar (.slice ca ar.length cc) p.al (.slice da p.al.length dc) := ⟨gA, hc, ⟨xd, h1, h2⟩, pd, fun d hd => ⟨KA d (D3 d hd), KF d (D3 d hd)⟩⟩
 refine aw func18 rfl ntmps18 rfl fun E hE => ?_
 refine aS ?_
 refine aP rfl rfl rfl (fun b2 => ?_)
 skip
 refine aj rfl (fun b4 => ?_)
 refine wz.K.a.c.b.z ?_
 refine aP rfl rfl rfl (fun b5 => ?_)
 refine wz.b.a.z ?_
 generalize Qh : (Value.slice ca ar.length cc) = lv at gA QN
 refine cD (ι := Unit) (fun _ => [(2, ptr b2 0), (4, ptr b4 0), (5, ptr b5 0)]) (fun _ => g) (fun _ => [c8 b5 lv 0, .ae b4 28 [.slice none 0 0, .slice none 0 0], .ae b2 28 [.slice da p.al.length dc, .slice ba p.binds.length bc]]) (fun _ => 0 < p.binds.length) ?_ ?_
 case refine_2 =>
  intro K hK
  refine wz.a.a.A.Ag.g.c.z ?_
  refine bw rfl rfl (fun c0 => ?_) (fun c0 => ?_)
  ·refine wz.l.i.b.B.Af.c.t.b.a.h.h.z ?_
   exact bp [] rfl (ay 1 rfl rfl rL) sZ ⟨⟨p, hv, tP⟩, rfl⟩
  ·refine wz.k.u.z ?_
   subst Qh
   refine aG 0 rfl rfl rfl (aBY g ar _ gA b5 0) ?_
   rintro w g r' ⟨rfl, rfl, z, rfl⟩ _
   cases z with
   | true =>
    refine wz.l.i.b.B.Af.c.t.b.a.z ?_
    exact bp [] rfl (ay 1 rfl rfl rL) sZ ⟨⟨p, hv, tP⟩, rfl⟩
   | false =>
    refine wz.d.j.o.b.a.z ?_
    exact hK () _ oM ⟨rfl, rfl, rfl, trivial⟩
 intro _ hb0
 try dsimp only
 refine wz.A.Ag.g.a.c.z ?_
 refine aG 0 rfl rfl rfl (e_ g ar hc lv gA b5 0 (Nat.zero_le _) p.binds.length oM) ?_
 rintro w g r' ⟨rfl, q, j1, rfl, gp, ep, rfl, ik⟩ _
 obtain ⟨k, rfl⟩ : ∃ k : Nat, q = k := ⟨q.toNat, oM⟩
 have dj : k < p.binds.length := by omega
 obtain ⟨bb, off, cap, aq, hxb⟩ := h3.held dj
 cases aq
 obtain ⟨cs, e1, hr⟩ := rz (fun _ _ h => h.one.1) h4 hxb dj
 have kL := pb _ (List.getElem_mem dj)
 have iq := e1
 obtain ⟨tc, ec, rfl, e2, e3, e4, e5⟩ := e1.open
 obtain ⟨z1, z2, z3, z4, z5, z6, z7, z8, z9, zk, za, rfl, _⟩ := id e3.form
 generalize QO : p.binds[k] = bk at e2 e3 hr kL iq
 have yI : ∀ g', ab.le g g' → ∀ own, Rd g' own bb (off + k * 20 + 9) [.int .i64 bk.body.kind, .int .i64 bk.body.pos, str bk.body.name, .int .i64 bk.body.num, .slice z1 z2 z3, .slice z4 z5 z6, .int .i64 bk.body.ty.kind, str bk.body.ty.name, .int .i64 bk.body.ty.id, .int .i64 bk.body.ty.home, .slice z7 z8 z9] := fun g' hg own => (hr g' hg own).part 9 (fun j x hj => by
  rw [List.getElem?_append_right (by simp only [List.length_cons, List.length_nil]; omega), List.getElem?_append_right (by simp only [List.length_cons, List.length_nil, e4]; omega)]
  simp only [List.length_cons, List.length_nil]
  rw [e4, show 9 + j - 4 - 5 = j by omega]
  exact hj)
 refine wz.g.M.a.Ag.g.c.b.a.c.b.a.z ?_
 refine eY rfl rfl (yI _ (ab.le_refl _) _) rfl ?_
 skip
 refine aj rfl (fun b8 => ?_)
 refine wz.b.Br.z ?_
 have uf : ug g p [.slice da p.al.length dc, .slice (some ⟨bb, off, none⟩) p.binds.length bc] := ⟨_, xd, _, xb, rfl, h1, h2, h3, h4⟩
 refine cD (ι := ab × Nat × List Int × Value) (fun o => [(2, ptr b2 0), (4, ptr b4 0), (5, ptr b5 0), (6, .int .i64 k), (7, o.2.2.2)]) (fun o => o.1) (fun o => [c8 b5 lv o.2.1, .ae b4 28 [.slice none 0 0, .slice none 0 0], .ae b2 28 [.slice da p.al.length dc, .slice (some ⟨bb, off, none⟩) p.binds.length bc]]) (fun o => ab.le g o.1 ∧ o.2.1 ≤ ar.length ∧ o.2.2.1.length ≤ 5 ∧ au o.1 1 o.2.2.2 o.2.2.1.length (ints o.2.2.1)) ?_ ?_
 case refine_2 =>
  intro K hK
  refine wz.a.c.z ?_
  refine aG 1 rfl rfl rfl (e_ g ar hc lv gA b5 j1 ik 5 oM) ?_
  rintro w g r' ⟨rfl, q5, j2, rfl, uH, wN, rfl, cE⟩ _
  obtain ⟨n, rfl⟩ : ∃ n : Nat, q5 = n := ⟨q5.toNat, oM⟩
  refine wz.p.b.a.z ?_; refine fW 3 1 ?_
  refine aX (ι := Nat × ab × Nat × Ex × List Value × List Int × Option Addr × Nat) (fun o => [(2, ptr b2 0), (4, ptr b4 0), (5, ptr b5 0), (6, .int .i64 k), (7, .slice o.2.2.2.2.2.2.1 o.2.2.2.2.2.1.length o.2.2.2.2.2.2.2), (8, ptr b8 0), (9, .int .i64 o.1)]) (fun o => o.2.1) (fun o => [.row 3 1 (.slice o.2.2.2.2.2.2.1 o.2.2.2.2.2.1.length o.2.2.2.2.2.2.2) o.2.2.2.2.2.1.length (ints o.2.2.2.2.2.1), .ae b8 47 o.2.2.2.2.1, c8 b5 lv o.2.2.1, .ae b4 28 [.slice none 0 0, .slice none 0 0], .ae b2 28 [.slice da p.al.length dc, .slice (some ⟨bb, off, none⟩) p.binds.length bc]])
   (fun o => o.1 + o.2.2.2.2.2.1.length ≤ 4 ∧ ab.le g o.2.1 ∧ o.2.2.1 ≤ ar.length ∧ PZ o.2.1 o.2.2.2.2.1 o.2.2.2.1 ∧ GE o.2.2.2.1 ∧ aN o.2.2.2.1 ≤ 2000) (fun o => o.1)
   (n, g, j2, bk.body, _, [], none, 0) ⟨by simp only [List.length_nil]; omega, ab.le_refl _, cE, ⟨_, _, _, _, _, _, _, _, _, rfl, e3⟩, kL.e, kL.z⟩ ⟨rfl, rfl, rfl, rfl, rfl, rfl, rfl, trivial⟩ rfl rfl ?_
  rintro ⟨m, g2, j3, e, cs, path, pa, pc⟩ ⟨hm, aD, rE, ⟨a1, m1, c1, a2, m2, c2, a3, m3, c3, hcs, vM⟩, nh, xz⟩
  simp only at hm aD rE hcs vM nh xz
  subst hcs
  try dsimp only
  refine wz.b.a.a.c.e.z ?_
  refine an rfl (fun gE => ?_) (fun gE => ?_)
  ·refine wz.O.c.p.e.d.j.z ?_
   refine aB rfl rfl (rY g2 _ e ⟨_, rfl, vM⟩ oM) ?_
   rintro w g3 ⟨xc, j9, jd⟩ aF
   obtain ⟨ra, rc, rfl⟩ := aU j9
   have gk := my e
   refine wz.b.a.A.a.c.e.b.a.z ?_
   refine an rfl (fun hz => ?_) (fun hz => ?_)
   ·refine wz.d.D.m.m.U.m.C.z ?_
    refine bg (fun g4 aR eG => ?_)
    refine wz.Bp.z ?_
    exact hK (g4, j3, path, _) _ ⟨ab.le_trans aD (ab.le_trans aF aR), rE, uM, eG⟩ ⟨rfl, rfl, rfl, rfl, rfl, trivial⟩
   ·refine wz.A.a.a.c.d.j.z ?_
    refine aG 2 rfl rfl rfl (e_ g3 ar hc lv ((gA.mono aD).mono aF) b5 j3 rE (aY e).length oM) ?_
    rintro w g3 r' ⟨rfl, q6, j4, rfl, Io, hq6, rfl, mU⟩ _
    obtain ⟨t, rfl⟩ : ∃ t : Nat, q6 = t := ⟨q6.toNat, oM⟩
    have l4 : t < (aY e).length := by omega
    obtain ⟨b0, of0, cp0, aq, hx0⟩ := j9.held l4
    cases aq
    obtain ⟨Gy, y1, eM⟩ := QA jd hx0 l4
    obtain ⟨q1, q2, q3, q4, q5, q6, q7, q8, q9, qk, qa, rfl, _⟩ := id y1.form
    have hcs := mC (List.getElem_mem l4)
    have D2 := IG nh _ (List.getElem_mem l4)
    refine wz.b.a.z ?_
    refine bO [1, 0] mixed (fun hG => ?_)
    refine wz.P.z ?_; refine ⟨_, (ag rfl), ?_⟩; refine wz.R.z ?_; refine ⟨_, (ag rfl), ?_⟩
    refine wz.Z.z ?_; refine ⟨_, (ag rfl), ?_⟩; refine wz.Ad.z ?_; refine ⟨_, (ag rfl), ?_⟩
    refine bn 6 rfl kR rfl hG ⟨_, (bU (j := t) rfl rfl rfl l4), ?_⟩
    refine bn 7 rfl kR rfl hG ⟨_, (dL rfl (eM _ (ab.le_refl _) _) rfl), ?_⟩
    refine wz.AL.z ?_
    refine bu rfl rfl rL rL rL rL rL (fun y0 => ?_)
    refine wz.Aw.f.b.z ?_
    skip
    refine cV 1 0 rfl rfl rfl rfl rfl rL rL rfl mL oM (fun v' _ => ?_)
    refine wz.AC.z ?_
    rintro ⟨s1, s3, rfl⟩
    refine wz.F.f.b.B.Ai.f.b.a.Ae.f.b.BB.z ?_
    obtain ⟨m', rfl⟩ : ∃ m', m = m' + 1 := ⟨m - 1, oM⟩
    refine wz.b.a.AE.a.r.d.y.z ?_
    rw [show ((m' + 1 : Nat) : Int) - 1 = (m' : Int) by omega]
    refine aM (m', g3, j4, (aY e)[t], _, path ++ [(t : Int)], s1, s3) ⟨by simp only [List.length_append, List.length_singleton]; omega, ab.le_trans aD aF, mU, ⟨_, _, _, _, _, _, _, _, _, rfl, y1⟩, D2, uM⟩ uM ⟨rfl, rfl, rfl, rfl, by rw [List.length_append]; rfl, rfl, rfl, trivial⟩ rfl ?_
    simp only [List.length_append, List.length_singleton, ints, List.map_append]
    rfl
  ·refine bg (fun g4 aR eG => ?_)
   refine wz.Bp.d.D.m.m.C.z ?_
   exact hK (g4, j3, path, _) _ ⟨ab.le_trans aD aR, rE, uM, eG⟩ ⟨rfl, rfl, rfl, rfl, rfl, trivial⟩
 rintro ⟨g2, j2, path, pv⟩ ⟨aD, cE, lr, vo⟩
 simp only at aD cE lr vo
 try dsimp only
 refine wz.Af.c.z ?_
 refine aj rfl (fun kW => ?_)
 refine wz.AN.g.c.b.q.z ?_
 have aB1 := ql aD h4
 refine fW 49 20 ?_
 refine jr 0 rfl rfl rfl rfl (h3.mono aD) rL rL (aL.one (fun _ _ h => h.one) h4).2 mL oM (fun v2 _ => ?_)
 rw [Nat.zero_add p.binds.length, List.nil_append]
 refine wz.CK.z ?_
 rintro ⟨rb, rq, rfl⟩
 obtain ⟨pre, cell, post, s1, s2, s3, s4⟩ := aL.QL (fun _ _ h => iQ.one h |>.1) aB1 k dj
 obtain ⟨D4, QP, rfl, t1, t2, t3, t4⟩ := s3.open
 subst s1
 rw [QO] at t1 t2
 have aB2 := QN.mono aD
 refine wz.e.b.Ah.g.z ?_
 refine bO [2, 0] mixed (fun hG => ?_)
 refine wz.P.z ?_; refine ⟨_, (aI rfl), ?_⟩; refine wz.R.z ?_; refine ⟨_, (a7 0 rfl rfl rfl), ?_⟩; refine wz.S.z ?_; refine ⟨_, (ag rfl), ?_⟩; refine wz.X.z ?_; refine ⟨_, (aI rfl), ?_⟩; refine wz.Z.z ?_; refine ⟨_, (a7 2 rfl rfl rfl), ?_⟩; refine wz.Ad.z ?_; refine ⟨_, (ag rfl), ?_⟩
 refine bn 6 rfl kR rfl hG ⟨_, (bU (j := k) rfl rfl rfl dj), ?_⟩
 refine wz.Aa.z ?_; refine ⟨_, (aI rfl), ?_⟩
 refine bn 8 rfl kR rfl hG ⟨_, (dL rfl (yI _ aD _) rfl), ?_⟩
 refine wz.Av.z ?_; refine ⟨_, (ag rfl), ?_⟩; refine wz.Al.z ?_; refine ⟨_, (ag rfl), ?_⟩; refine wz.As.z ?_; refine ⟨_, (aI rfl), ?_⟩; refine wz.Az.z ?_; refine ⟨_, (a7 2 rfl rfl rfl), ?_⟩
 refine wz.AJ.z ?_
 refine aG 2 rfl rfl rfl (Le ar b5 2 oM g2 j2 lv p.al _ aB2 cE) ?_
 rintro w g3 r' ⟨x, j3, hx, gx, lx, rfl, rE⟩ aF
 obtain ⟨x1, x2, x3, x4, x5, x6, x7, x8, x9, rfl, db⟩ := hx.form
 have kF : (bL x).length ≤ 217 := by have : bE 2 = 217 := rfl; omega
 have dV := aBX gx
 refine wz.AO.f.b.z ?_
 refine aB rfl rfl (aBV g3 _ _ _ bk.body x path oM ⟨_, rfl, (e3.mono aD).mono aF⟩ kL.e (by have := kL.z; omega) (vo.mono aF) ⟨_, rfl, db⟩ (aAE gx oM)) ?_
 rintro w g4 ⟨w1, bz, u, rfl, hu, gu, su⟩ aR
 obtain ⟨p1, p2, p3, p4, p5, p6, p7, p8, p9, rfl, gq⟩ := hu.form
 have ju := ab.le_trans aF aR
 have qU := ab.le_trans aD ju
 refine wz.f.b.z ?_; refine bn 15 rfl kR rfl hG ?_; refine ⟨_, (ag rfl), ?_⟩; refine wz.AB.z ?_; refine ⟨_, (ag rfl), ?_⟩; refine bn 17 rfl kR rfl hG ?_; refine ⟨_, (ag rfl), ?_⟩
 refine bn 18 rfl kR rfl hG ⟨_, (bU (j := k) rfl rfl rfl dj), ?_⟩
 refine bn 19 rfl kR rfl hG ?_; refine ⟨_, (aI rfl), ?_⟩
 refine gL 20 kR rfl ?_
 refine Dv (fun rest g_ eM gD qq => ?_)
 have e1 : pre ++ ([Value.int .i64 p.binds[k].pos, .bool p.binds[k].isRec, str p.binds[k].name, .bool p.binds[k].fD] ++ (D4 ++ QP) ++ post) ++ rest = (pre ++ ([Value.int .i64 p.binds[k].pos, .bool p.binds[k].isRec, str p.binds[k].name, .bool p.binds[k].fD] ++ D4)) ++ (QP ++ (post ++ rest)) := by simp only [List.append_assoc]
 have aB3 : (pre ++ ([Value.int .i64 p.binds[k].pos, .bool p.binds[k].isRec, str p.binds[k].name, .bool p.binds[k].fD] ++ D4)).length = k * 20 + 9 := by
  rw [List.length_append, List.length_append, s2, t3]; rfl
 rw [e1] at qq ⊢
 refine kE 0 rfl rfl rfl rfl rL rfl (xX _ _ _ _ _ (by rw [aB3]; omega) t4) ?_
 have jB := gq.one.1
 refine IF (size := 20) (m := p.binds.length) (cap := rq) (xs := pre ++ (([Value.int .i64 p.binds[k].pos, .bool p.binds[k].isRec, str p.binds[k].name, .bool p.binds[k].fD] ++ (D4 ++ [.int .i64 u.kind, .int .i64 u.pos, str u.name, .int .i64 u.num, .slice p1 p2 p3, .slice p4 p5 p6, .int .i64 u.ty.kind, str u.ty.name, .int .i64 u.ty.id, .int .i64 u.ty.home, .slice p7 p8 p9])) ++ post)) (by
  rw [← qq]
  simp only [List.length_append]
  rw [t4, jB]) g_ eM ?_ ?_ ?_
 rotate_left 2
 ·refine wz.F.f.b.z ?_
  refine bg (fun g5 cC qy => ?_)
  have wP := ab.le_trans qU cC
  have hlen : (p.binds.set k ⟨p.binds[k].pos, p.binds[k].isRec, p.binds[k].name, p.binds[k].fD, bk.sig, u⟩).length = p.binds.length := List.length_set ..
  refine wz.i.b.V.G.c.d.z ?_
  have QQ := ab.le_trans ju cC
  have aB4 := s4 (iQ g5) (fun _ _ h => h.mono QQ) ⟨p.binds[k].pos, p.binds[k].isRec, p.binds[k].name, p.binds[k].fD, bk.sig, u⟩ _ ⟨_, _, rfl, t1.mono QQ, gq.mono cC⟩
  refine bp [] rfl (ay 2 rfl rfl rL) sZ ⟨⟨⟨p.al, p.binds.set k ⟨p.binds[k].pos, p.binds[k].isRec, p.binds[k].name, p.binds[k].fD, bk.sig, u⟩⟩, ⟨_, rfl, _, xd, _, _, rfl, h1.mono wP, ng wP h2, by rw [hlen]; exact qy, aB4⟩, pd, D3, by rw [hlen]; exact QM, fun b hb => ?_⟩, rfl⟩
  rcases List.mem_or_eq_of_mem_set hb with h | rfl
  ·exact tP.b b h
  ·rw [QO]
   exact ⟨kL.n, kL.nl, kL.s, kL.o, gu, by have := kL.z; simp only; omega⟩
 ·exact aBZ (rest := rest) (by simp only [List.append_assoc]) (by
   simp only [List.length_append] at gD ⊢
   rw [jB]
   rw [t4] at gD
   exact gD)
 ·simp only [List.length_append] at gD ⊢
  rw [jB]
  rw [t4] at gD
  exact gD
theorem aB5 (g : ab) (bits uh : Int) (ar : List Int) (lv : Value) (hc : ar.length ≤ 1000000) (gA : au g 1 lv ar.length (ar.map (Value.int .i64))) :
  bK prog 6 [.int .i64 bits, lv, .int .i64 uh] g fun v g' => ∃ p, ll g' v p ∧ qz 3000 p := by
 obtain ⟨ca, cc, rfl⟩ := aU gA
 refine aw func6 rfl ntmps6 rfl fun E hE => ?_
 refine aS ?_
 refine aj rfl (fun b6 => ?_)
 refine wz.a.a.c.b.z ?_
 refine aB rfl rfl (aA2 g bits ar _ hc gA) ?_
 rintro w1 g1 ⟨p, ⟨_, rfl, sd, xd, sb, xb, rfl, h1, h2, h3, h4⟩, hp⟩ a8
 obtain ⟨da, dc, rfl⟩ := aU h1
 obtain ⟨ba, bc, rfl⟩ := aU h3
 have uf : ug g1 p [.slice da p.al.length dc, .slice ba p.binds.length bc] := ⟨_, xd, _, xb, rfl, h1, h2, h3, h4⟩
 have eV := gA.mono a8
 obtain ⟨-, tD, kh⟩ := eV.lo (p := min ar.length 3) (Nat.min_le_left _ _)
 skip
 refine aj rfl (fun b7 => ?_)
 refine wz.a.c.e.b.q.z ?_
 refine aO rfl rfl (Kt g1 uh 3 oM) ?_
 refine wz.b.a.z ?_
 refine an rfl (fun h0 => ?_) (fun h0 => ?_)
 ·refine wz.b.a.BL.A.a.c.z ?_
  refine fQ 5 [] mixed kR (fun hG => ?_)
  refine wz.Ar.z ?_; refine ⟨_, (bP 0 rfl rfl rL), ?_⟩; refine wz.Ax.z ?_; refine ⟨_, (ag rfl), ?_⟩; refine wz.Ay.z ?_; refine ⟨_, (ag rfl), ?_⟩
  refine di 3 rfl kR rfl hG ⟨_, (C_ (p := min ar.length 3) rfl rfl oM (Nat.min_le_left _ _) tD), ?_⟩
  refine wz.By.z ?_
  refine aB rfl rfl (aB0 g1 _ _ p (ar.drop (min ar.length 3)) ⟨_, rfl, uf⟩ hp (by rw [List.length_drop]; omega) (by
   rw [List.length_drop, List.map_drop, show List.drop (min ar.length 3) (List.map (Value.int .i64) ar) = List.drop (min ar.length 3 * 1) (List.map (Value.int .i64) ar) by rw [Nat.mul_one]]
   exact kh)) ?_
  rintro w2 g2 ⟨p2, ⟨_, rfl, Xw, NB, Xx, NC, rfl, k1, k2, k3, k4⟩, lQ⟩ aD
  obtain ⟨Xy, Xz, rfl⟩ := aU k1
  obtain ⟨XA, XB, rfl⟩ := aU k3
  refine wz.i.b.B.G.c.b.q.Am.f.b.z ?_
  exact bp [] rfl (ay 1 rfl rfl rL) sZ ⟨⟨p2, ⟨_, rfl, _, NB, _, NC, rfl, k1, k2, k3, k4⟩, lQ⟩, rfl⟩
 ·refine wz.i.b.B.G.c.d.j.z ?_
  exact bp [] rfl (ay 1 rfl rfl rL) sZ ⟨⟨p, ⟨_, rfl, uf⟩, hp.dl, hp.d, hp.bl, fun b hb => let ⟨x1, x2, x3, x4, x5, x6⟩ := hp.b b hb; ⟨x1, x2, x3, x4, x5, oM⟩⟩, rfl⟩
end Go.Proofs.YtlnjfkfojkgiiaaGreatDoor

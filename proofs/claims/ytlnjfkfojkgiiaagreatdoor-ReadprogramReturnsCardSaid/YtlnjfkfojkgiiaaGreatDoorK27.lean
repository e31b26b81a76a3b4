/- A head with its arguments: the walk of typedholesref30.element. -/
import Derived.Test.YtlnjfkfojkgiiaaGreatDoorK26
open Go Go.aZ Go.Th Go.Proofs Tryz
set_option maxRecDepth 10000
set_option maxHeartbeats 4000000
attribute [local irreducible] wpList Code.wp ah bodyPost Go.aZ.Ends Exit.then Exit.inBlock dJ Wq Kq
namespace Go.Proofs.YtlnjfkfojkgiiaaGreatDoor
def HK (g : ab) (st : List Value) (S : List aW) (m : Nat) : Prop := ∃ a c a' c', st = [.slice a S.length c, .slice a' m c'] ∧ eJ g (.agg #[.slice a S.length c, .slice a' m c']) S m
theorem eJ.pC {g : ab} {v : Value} {S : List aW} {m : Nat} (h : eJ g v S m) : ∃ a c a' c', v = .agg #[.slice a S.length c, .slice a' m c'] ∧ eJ g (.agg #[.slice a S.length c, .slice a' m c']) S m := by
 obtain ⟨a, c, a', c', xs, ys, rfl, _⟩ := id h
 exact ⟨a, c, a', c', rfl, h⟩
def yp (g : ab) (tc : List Value) (t : Ty) : Prop := ∃ a c, tc = aH t (.slice a t.args.length c) ∧ bx g t (aH t (.slice a t.args.length c))
theorem aQ.dQ {g : ab} {v : Value} {t : Ty} (h : aQ g v t) : ∃ a c, v = .agg #[.int .i64 t.kind, str t.name, .int .i64 t.id, .int .i64 t.home, .slice a t.args.length c] ∧ bx g t (aH t (.slice a t.args.length c)) := by
 obtain ⟨sl, rfl, h1⟩ := h
 obtain ⟨a, c, rfl⟩ := h1.slice
 exact ⟨a, c, rfl, h1⟩
def DI (g : ab) (az : List Ty) (n : Nat) (v : Value) (own : List aA) : Prop := ∃ a c xs, v = .slice a n c ∧ own = [.row 41 5 (.slice a n c) n xs] ∧ aV g az xs ∧ az.length = n
def Zw (g : ab) (n : Nat) (w : Value) : Prop := ∃ tv av ok, w = .tuple #[tv, av, .bool ok] ∧ (∃ a c, tv = .slice a 0 c) ∧ (∃ a m c, av = .slice a m c) ∧ (ok = true → ∃ az xa V, az.length = n ∧ au g 5 av az.length xa ∧ aV g az xa ∧ (∀ t ∈ az, aE t ≤ 4000) ∧ kG V 0 false az)
theorem Zx (g : ab) (sv cv gv : Value) (gj : Nat) (ct goal : Ty) (n : Nat) (hs : eJ g sv [] 0) (hc : jU g cv gj ct) (hg : aQ g gv goal) (pN : gj ≤ 5000) (HL : OK 0 gj false ct) (Pq : aE ct ≤ 5000) (iu : OK 0 0 false goal) (hn : n ≤ 3) :
  bK prog 192 [sv, cv, gv, .slice none 0 0, .int .i64 n] g fun w g' => Zw g' n w := by
 obtain ⟨a0, c0, Pr, Ps, rfl, wF⟩ := hs.pC
 obtain ⟨ca, cc, rfl, eV⟩ := hc.form
 obtain ⟨ga, gc, rfl, cG⟩ := hg.dQ
 refine aw func192 rfl ntmps192 rfl fun E hE => ?_
 refine aS ?_
 refine aP rfl rfl rfl (fun b5 => ?_)
 skip
 refine aP rfl rfl rfl (fun b6 => ?_)
 skip
 refine aP rfl rfl rfl (fun b7 => ?_)
 refine wz.p.b.a.c.e.b.a.c.b.a.a.a.z ?_; refine ko (own' := [_, _, _]) (List.perm_append_comm (l₁ := [_, _]) (l₂ := [_])) ?_; refine wz.AD.z ?_
 refine aX (ι := Nat × ab × List aW × List Value × Value × List aA) (fun o => [(3, .slice none 0 0), (4, .int .i64 n), (5, ptr b5 0), (6, ptr b6 0), (7, ptr b7 0), (13, o.2.2.2.2.1), (14, .int .i64 o.1)]) (fun o => o.2.1)
  (fun o => o.2.2.2.2.2 ++ [.ae b5 215 o.2.2.2.1, .ae b7 41 (aH goal (.slice ga goal.args.length gc)), .ae b6 95 (.int .i64 gj :: aH ct (.slice ca ct.args.length cc))])
  (fun o => o.1 ≤ gj ∧ ab.le g o.2.1 ∧ HK o.2.1 o.2.2.2.1 o.2.2.1 o.1 ∧ fu o.2.2.1 ∧ o.2.2.1.length = o.1 ∧ ∃ az, DI o.2.1 az o.1 o.2.2.2.2.1 o.2.2.2.2.2 ∧ kG o.1 0 false az ∧ ∀ t ∈ az, aE t ≤ 1) (fun o => gj - o.1)
  (0, g, [], [_, _], _, [_]) ⟨Nat.zero_le _, ab.le_refl _, ⟨_, _, _, _, rfl, wF⟩, (fun i s h => by cases h), rfl, [], ⟨none, 0, [], rfl, rfl, cQ g, rfl⟩, (fun _ h => by cases h), (fun _ h => by cases h)⟩ ⟨rfl, rfl, rfl, rfl, rfl, rfl, rfl, trivial⟩ rfl rfl ?_
 rintro ⟨k, g1, S, st, rv, own⟩ ⟨hk, hle, ⟨s1, s2, s3, s4, bG, lN⟩, mm, HM, az, ⟨ra, rc, xs, fJ, hown, dV, mT⟩, bW, tL⟩
 simp only at hk hle bG lN mm HM fJ hown dV mT bW tL
 subst bG
 subst fJ
 subst hown
 try dsimp only
 refine wz.b.a.AN.g.a.c.e.z ?_
 refine an rfl (fun hlt => ?_) (fun hlt => ?_)
 ·have af : k < gj := by omega
  refine wz.c.p.e.d.j.z ?_
  refine aj rfl (fun yq => ?_)
  refine wz.Af.c.b.z ?_
  refine aB rfl rfl (Hu g1 S k _ false lN oM oM) ?_
  rintro w2 g2 ⟨v2, tv, rfl, h2, Zy⟩ aD
  obtain ⟨q1, q2, q3, q4, rfl, ff⟩ := h2.pC
  obtain ⟨y1, y2, rfl, Zz⟩ := Zy.dQ
  refine wz.G.a.r.b.q.V.a.a.a.z ?_
  refine bu rfl rfl rL rL rL rL rL (fun y0 => ?_)
  refine cV 2 0 rfl rfl rfl rfl rfl rL rL rfl mL oM (fun v' _ => ?_)
  refine wz.BU.z ?_
  rintro ⟨z1, z3, rfl⟩
  refine wz.BN.b.a.E.a.r.d.y.N.a.z ?_
  refine aM (k + 1, g2, S ++ [⟨false, bX, 1000000, false⟩], [_, _], _, [_]) ⟨oM, ab.le_trans hle aD, ⟨_, _, _, _, rfl, ff⟩, Hs mm, by rw [List.length_append, HM]; rfl, az ++ [.mk 1 [] S.length 0 []], ⟨z1, z3, _, rfl, rfl, aV.snoc Zz (dV.mono aD), by rw [List.length_append, mT]; rfl⟩, fun t ht => ?_, fun t ht => ?_⟩ uM ⟨rfl, rfl, rfl, rfl, rfl, rfl, rfl, trivial⟩ rfl rfl
  ·rcases List.mem_append.1 ht with ht | ht
   ·exact Dt oM (Nat.le_refl _) (bW t ht)
   ·rw [List.mem_singleton.1 ht]; exact vu uM
  ·rcases List.mem_append.1 ht with ht | ht
   ·exact tL t ht
   ·rw [List.mem_singleton.1 ht]; simp [aE, bM]
 ·obtain rfl : k = gj := by omega
  refine bg (fun g2 aD bj => ?_)
  have dy := (cG.mono hle).mono aD
  have lF := (eV.mono hle).mono aD
  have pD := lN.mono aD
  refine wz.a.Af.g.c.d.D.m.m.C.z ?_
  refine aB rfl rfl (GJ g2 az oM ct oM _ _ xs ⟨_, rfl, lF⟩ (by rw [mT]; exact bj) (dV.mono aD)) ?_
  rintro w3 g3 hw aF
  have Pt : OK S.length 0 false (c7 (lT az) ct) := G1 oM (by rw [HM]; exact bW) HL
  generalize c7 (lT az) ct = whole at hw Pt
  obtain ⟨w1, w2, rfl, ir⟩ := hw.dQ
  skip
  refine aj rfl (fun lG => ?_)
  refine wz.G.c.b.q.z ?_
  refine aj rfl (fun ru => ?_)
  refine wz.AD.p.e.b.a.c.b.q.z ?_; refine ko (own' := [_, _, _, _, _, _]) (.cons _ (List.Perm.append_right _ (List.perm_append_comm (l₁ := [_, _]) (l₂ := [_])))) ?_
  refine aX (ι := Nat × ab × List aW × Nat × List Value × Ty × List Value × Value × List aA) (fun o => [(3, .slice none 0 0), (4, .int .i64 n), (5, ptr b5 0), (7, ptr b7 0), (16, ptr lG 0), (17, ptr ru 0), (18, o.2.2.2.2.2.2.2.1)]) (fun o => o.2.1)
   (fun o => o.2.2.2.2.2.2.2.2 ++ [.ae b5 215 o.2.2.2.2.1, .ae ru 41 o.2.2.2.2.2.2.1, .ae lG 41 (aH whole (.slice w1 whole.args.length w2)), .ae b7 41 (aH goal (.slice ga goal.args.length gc)), .ae b6 95 (.int .i64 k :: aH ct (.slice ca ct.args.length cc))])
   (fun o => o.1 ≤ n ∧ ab.le g3 o.2.1 ∧ HK o.2.1 o.2.2.2.2.1 o.2.2.1 o.2.2.2.1 ∧ fu o.2.2.1 ∧ S.length ≤ o.2.2.1.length ∧ o.2.2.1.length ≤ 5000 + 2 * o.1 ∧ o.2.2.2.1 ≤ 5000 + 3 * o.1 ∧ yp o.2.1 o.2.2.2.2.2.2.1 o.2.2.2.2.2.1 ∧ OK o.2.2.1.length 0 false o.2.2.2.2.2.1 ∧ ∃ az, DI o.2.1 az o.1 o.2.2.2.2.2.2.2.1 o.2.2.2.2.2.2.2.2 ∧ kG o.2.2.1.length 0 false az ∧ kJ o.2.2.1 whole az o.2.2.2.2.2.1) (fun o => n - o.1)
   (0, g3, S, k, [_, _], whole, _, _, [_]) ⟨Nat.zero_le _, ab.le_refl _, ⟨_, _, _, _, rfl, pD.mono aF⟩, mm, Nat.le_refl _, uM, uM, ⟨_, _, rfl, ir⟩, Pt, [], ⟨none, 0, [], rfl, rfl, cQ g3, rfl⟩, (fun _ h => by cases h), kJ.start⟩ ⟨rfl, rfl, rfl, rfl, rfl, rfl, rfl, trivial⟩ rfl rfl ?_
  clear dV mT bW tL az bj pD mm xs
  rintro ⟨j, g4, S4, m4, st, t, tc, rv, own⟩ ⟨hj, aR, ⟨s1, s2, s3, s4, bG, lg⟩, mm, kh, qh, ZA, ⟨t1, t2, oK, HN⟩, HO, az, ⟨ra, rc, xs, fJ, hown, dV, mT⟩, bW, gi⟩
  simp only at hj aR bG lg mm kh qh ZA oK HN HO fJ hown dV mT bW gi
  subst bG
  subst oK
  subst fJ
  subst hown
  try dsimp only
  have fZ := ir.mono aR
  have eW := (dy.mono aF).mono aR
  refine wz.b.a.a.A.a.c.e.z ?_
  refine an rfl (fun hlt => ?_) (fun hlt => ?_)
  ·have af : j < n := by omega
   refine wz.Af.O.c.p.d.j.z ?_
   refine aB rfl rfl (jm g4 S4 oM m4 _ _ t lg ⟨_, rfl, HN⟩) ?_
   rintro w6 g6 ⟨rfl, yr⟩ _
   have wn := vA mm HO
   have gi := gi.walk mm
   generalize walk S4 t = q at yr wn gi
   obtain ⟨u1, u2, rfl, hq⟩ := yr.dQ
   refine kE 2 rfl rfl rfl rfl rL rfl rfl ?_; refine iV ?_
   refine cD (ι := ab × List aW × Nat × List Value × Ty × List Value) (fun _ => [(3, .slice none 0 0), (4, .int .i64 n), (5, ptr b5 0), (7, ptr b7 0), (16, ptr lG 0), (17, ptr ru 0), (18, .slice ra j rc)]) (fun o => o.1)
    (fun o => [.row 41 5 (.slice ra j rc) j xs, .ae b5 215 o.2.2.2.1, .ae ru 41 o.2.2.2.2.2, .ae lG 41 (aH whole (.slice w1 whole.args.length w2)), .ae b7 41 (aH goal (.slice ga goal.args.length gc)), .ae b6 95 (.int .i64 k :: aH ct (.slice ca ct.args.length cc))])
    (fun o => ab.le g6 o.1 ∧ HK o.1 o.2.2.2.1 o.2.1 o.2.2.1 ∧ fu o.2.1 ∧ S4.length ≤ o.2.1.length ∧ o.2.1.length ≤ S4.length + 2 ∧ o.2.2.1 ≤ m4 + 3 ∧ yp o.1 o.2.2.2.2.2 o.2.2.2.2.1 ∧ OK o.2.1.length 0 false o.2.2.2.2.1 ∧ kJ o.2.1 whole az o.2.2.2.2.1) ?_ ?_
   case refine_2 =>
    intro K hK
    refine wz.a.a.Ag.g.c.z ?_
    refine bw rfl rfl (fun hk => ?_) (fun hk => ?_)
    ·have hid : 0 ≤ q.id ∧ q.id.toNat < S4.length := by rcases iT (lU wn.2) with h | h | h | h | h <;> omega
     obtain ⟨HP, h1, h2⟩ : ∃ HP, au g6 8 (.slice s1 S4.length s2) S4.length HP ∧ aL (kI g6) S4 HP := by
      obtain ⟨e1, e2, e3, e4, e5, e6, e, h1, h2, _⟩ := id lg
      cases e
      exact ⟨_, h1, h2⟩
     obtain ⟨b, off, cap, aq, hx⟩ := h1.held hid.2
     cases aq
     obtain ⟨cs, e1, hr⟩ := dt (fun _ _ h => h.one.1) h2 hx hid.2
     obtain ⟨sa, sc, rfl, e2⟩ := e1.form
     have es := List.getElem?_eq_getElem hid.2
     have iq := wn.1
     rw [xV (by first | exact of_decide_eq_true hk | (simpa using hk)) hid.1 hid.2] at iq
     generalize S4[q.id.toNat] = s0 at e1 e2 hr es iq
     obtain ⟨sb, ZB, sh, sz⟩ := s0
     simp only at iq e2
     subst iq
     refine wz.k.Ag.k.g.k.I.k.g.k.z ?_
     refine gV (j := q.id.toNat) rfl rfl rfl oM hid.2 ?_
     refine wz.k.g.k.z ?_
     refine cj rfl rfl ((hr _).du 7 rfl) ?_
     refine wz.b.a.u.z ?_
     cases sz with
     | true =>
      refine wz.d.j.o.z ?_
      exact hK (g6, S4, m4, [_, _], q, _) _ ⟨ab.le_refl _, ⟨_, _, _, _, rfl, lg⟩, mm, Nat.le_refl _, uM, uM, ⟨_, _, rfl, hq⟩, wn.2, gi⟩ ⟨rfl, rfl, rfl, rfl, rfl, rfl, rfl, trivial⟩
     | false =>
      refine wz.c.t.z ?_
      refine aj rfl (fun b19 => ?_)
      skip
      refine aj rfl (fun ZC => ?_)
      refine wz.Y.c.b.z ?_
      refine aB rfl rfl (Hu g6 S4 m4 _ false lg oM oM) ?_
      rintro w7 g7 ⟨v2, tv, rfl, h7, ZD⟩ fC
      obtain ⟨p1, p2, p3, p4, rfl, s9⟩ := h7.pC
      obtain ⟨p5, p6, rfl, Pu⟩ := ZD.dQ
      refine wz.Y.c.b.B.Au.a.a.a.z ?_
      refine aB rfl rfl (Hu g7 _ (m4 + 1) _ false s9 nM oM) ?_
      rintro w8 g8 ⟨v3, tv3, rfl, h8, ZE⟩ fh
      obtain ⟨r1, r2, r3, r4, rfl, s_⟩ := h8.pC
      obtain ⟨r5, r6, rfl, Pv⟩ := ZE.dQ
      have yt := Hs (t := bX) (z := false) (Hs (t := bX) (z := false) mm)
      have HQ := (OT S4 (⟨false, bX, 1000000, false⟩ : aW)).trans (OT (S4 ++ [(⟨false, bX, 1000000, false⟩ : aW)]) (⟨false, bX, 1000000, false⟩ : aW))
      have HR : (((S4 : List aW) ++ [(⟨false, bX, 1000000, false⟩ : aW)]) ++ [(⟨false, bX, 1000000, false⟩ : aW)])[q.id.toNat]? = some ⟨false, ZB, sh, false⟩ := by
       rw [List.getElem?_append_left nM, List.getElem?_append_left hid.2]; exact es
      have ry : ((S4 ++ [(⟨false, bX, 1000000, false⟩ : aW)]) ++ [(⟨false, bX, 1000000, false⟩ : aW)]).length = S4.length + 2 := by simp
      have Pw : OK (S4.length + 2) 0 false (.mk 1 [] S4.length 0 []) := vu oM
      have Px : OK (S4.length + 2) 0 false (.mk 1 [] (S4 ++ [(⟨false, bX, 1000000, false⟩ : aW)]).length 0 []) := vu sM
      generalize (Ty.mk 1 [] (S4 ++ [(⟨false, bX, 1000000, false⟩ : aW)]).length 0 []) = y at Pv Px
      generalize (Ty.mk 1 [] S4.length 0 []) = x at Pu Pw
      generalize (S4 ++ [(⟨false, bX, 1000000, false⟩ : aW)]) ++ [(⟨false, bX, 1000000, false⟩ : aW)] = S8 at s_ yt HQ HR ry
      obtain ⟨HS, k1, k2⟩ : ∃ HS, au g8 8 (.slice r1 S8.length r2) S8.length HS ∧ aL (kI g8) S8 HS := by
       obtain ⟨e1, e2, e3, e4, e5, e6, e, h1, h2, _⟩ := id s_
       cases e
       exact ⟨_, h1, h2⟩
      have tM : q.id.toNat < S8.length := by omega
      obtain ⟨b8, aE5, aE6, aq, ZF⟩ := k1.held tM
      cases aq
      obtain ⟨cs8, e8, ZG⟩ := dt (fun _ _ h => h.one.1) k2 ZF tM
      rw [List.getElem?_eq_getElem tM, Option.some.injEq] at HR
      have HT := List.getElem?_eq_getElem tM
      have o6 := (yt _ _ HT).1
      rw [HR] at e8 HT o6
      obtain ⟨sa8, sc8, rfl, e28⟩ := e8.form
      refine wz.Bm.g.AN.g.c.b.q.Au.a.a.a.z ?_
      refine gV (j := q.id.toNat) rfl rfl rfl oM tM ?_
      skip
      refine eY rfl rfl (ZG _) rfl ?_
      skip
      refine aj rfl (fun b21 => ?_)
      refine wz.O.Af.c.b.q.z ?_
      refine aB rfl rfl (sj g8 x y _ _ ⟨_, rfl, Pu.mono fh⟩ ⟨_, rfl, Pv⟩) ?_
      rintro w9 g9 ZH gQ
      obtain ⟨z1, z2, rfl, h9⟩ := ZH.dQ
      refine wz.g.Cf.c.b.q.g.Ac.g.z ?_; refine pE 5 rfl rfl rfl rfl <| wz.G.z ?_
      refine aB rfl rfl (Pl g9 S8 (m4 + 1 + 1) _ _ q.id ⟨true, cZ x y, sh, false⟩ (s_.mono gQ) ⟨_, rfl, h9⟩ hid.1 tM oM oM) ?_
      rintro HU g10 ⟨sv, rfl, Fe⟩ mn
      obtain ⟨z3, z4, z5, z6, rfl, ZI⟩ := Fe.pC
      have uI : q.kind = 1 := by first | exact of_decide_eq_true hk | (simpa using hk)
      have Py : OK S8.length 0 false (cZ x y) := C4 (by rw [ry]; exact Pw) (by rw [ry]; exact Px)
      have HV : fu (S8.set q.id.toNat ⟨true, cZ x y, sh, false⟩) := xU yt o6 (fun _ => ⟨Py, fun h => absurd (show (4 : Int) = 1 from h) dC⟩)
      have ZJ := HQ.trans (Hr (x := ⟨true, cZ x y, sh, false⟩) HT (.inl rfl))
      have Pz := Zv (x := ⟨true, cZ x y, sh, false⟩) uI hid.1 tM rfl
      refine fF (own' := [_, _, _, _, _, _, _]) (.cons_cons _ (.cons _ (.cons _ (List.Sublist.refl _)))) ?_; refine wz.BX.b.Au.G.g.r.b.V.a.a.a.z ?_
      exact hK (g10, _, m4 + 1 + 1 + 1, [_, _], cZ x y, _) _ ⟨ab.le_trans fC (ab.le_trans fh (ab.le_trans gQ mn)), ⟨_, _, _, _, rfl, ZI⟩, HV, by simp only [List.length_set]; omega, by simp only [List.length_set]; omega, uM, ⟨_, _, rfl, h9.mono mn⟩, by simp only [List.length_set]; exact Py, (gi.mono ZJ).bind Pz.1 Pz.2⟩ ⟨rfl, rfl, rfl, rfl, rfl, rfl, rfl, trivial⟩
    ·refine wz.d.j.o.b.a.h.h.h.h.h.h.h.h.z ?_
     exact hK (g6, S4, m4, [_, _], q, _) _ ⟨ab.le_refl _, ⟨_, _, _, _, rfl, lg⟩, mm, Nat.le_refl _, uM, uM, ⟨_, _, rfl, hq⟩, wn.2, gi⟩ ⟨rfl, rfl, rfl, rfl, rfl, rfl, rfl, trivial⟩
   rintro ⟨g5, S5, m5, st5, t5, tc5⟩ ⟨cC, ⟨s1, s2, s3, s4, bG, PA⟩, PB, PC, ZK, ZL, ⟨t1, t2, oK, yu⟩, HW, PD⟩
   simp only at cC bG PA PB PC ZK ZL oK yu HW PD
   subst bG
   subst oK
   try dsimp only
   obtain ⟨va, vb, x, y, z, q1, q2, q3, q4, -⟩ := ye g5 HW ⟨_, rfl, yu⟩
   obtain ⟨x1, x2, rfl, hx⟩ := q1.dQ
   obtain ⟨y1, y2, rfl, hy⟩ := q2.dQ
   refine wz.Af.c.z ?_
   refine aO rfl rfl q3 ?_
   cases z with
   | false =>
    refine wz.a.a.a.a.z ?_
    refine aj rfl (fun zo => ?_)
    skip
    refine aj rfl (fun PE => ?_)
    refine wz.l.x.l.x.l.i.b.a.a.a.c.t.b.a.a.c.e.b.a.q.B.z ?_
    exact eO [] rfl (.tmp rfl) (.tmp rfl) (.tmp rfl) sZ ⟨⟨_, _, _, rfl, ⟨_, _, rfl⟩, ⟨_, _, _, rfl⟩, (fun h => by cases h)⟩, rfl⟩
   | true =>
    obtain rfl := q4 rfl
    have yv := oB HW
    refine wz.a.a.a.a.z ?_
    refine aj rfl (fun zo => ?_)
    skip
    refine aj rfl (fun PE => ?_)
    refine wz.d.j.o.b.a.a.c.e.b.a.q.B.z ?_
    refine bO [4, 2] mixed (fun hG => ?_)
    refine wz.P.z ?_; refine ⟨_, (ag rfl), ?_⟩; refine wz.R.z ?_; refine ⟨_, (bP 1 rfl rfl rL), ?_⟩
    refine wz.Z.z ?_; refine ⟨_, (bP 0 rfl rfl rL), ?_⟩
    refine wz.AL.z ?_
    skip
    refine bu rfl rfl rL rL rL rL rL (fun y0 => ?_)
    refine wz.Aw.f.b.z ?_
    skip
    refine cV 3 0 rfl rfl rfl rfl rfl rL rL rfl mL oM (fun v' _ => ?_)
    refine yx 3 rfl ?_
    rintro ⟨z1, z3, rfl⟩
    refine wz.De.d.y.F.f.b.Bw.Ao.f.b.a.Aq.f.b.Dd.z ?_
    refine aM (j + 1, g5, S5, m5, [_, _], y, _, _, [_]) ⟨oM, ab.le_trans aR cC, ⟨_, _, _, _, rfl, PA⟩, PB, uM, uM, uM, ⟨_, _, rfl, hy⟩, yv y (by simp [cZ, bJ, Ty.args]), az ++ [x], ⟨z1, z3, _, rfl, rfl, aV.snoc hx (dV.mono cC), by rw [List.length_append, mT]; rfl⟩, fun t ht => ?_, PD.step⟩ uM ⟨rfl, rfl, rfl, rfl, rfl, rfl, rfl, trivial⟩ rfl rfl
    rcases List.mem_append.1 ht with ht | ht
    ·exact Dt PC (Nat.le_refl _) (bW t ht)
    ·rw [List.mem_singleton.1 ht]; exact yv x (by simp [cZ, bJ, Ty.args])
  ·obtain rfl : j = n := by omega
   refine wz.Af.O.c.d.D.m.m.C.z ?_
   refine aB rfl rfl (jm g4 S4 oM m4 _ _ t lg ⟨_, rfl, HN⟩) ?_
   rintro w6 g6 ⟨rfl, yr⟩ _
   have wn := vA mm HO
   have gi := gi.walk mm
   generalize walk S4 t = q at yr wn gi
   obtain ⟨u1, u2, rfl, hq⟩ := yr.dQ
   obtain ⟨va, vb, x, y, z, q1, q2, q3, -, -⟩ := ye g6 wn.2 ⟨_, rfl, hq⟩
   obtain ⟨x1, x2, rfl, hx⟩ := q1.dQ
   obtain ⟨y1, y2, rfl, hy⟩ := q2.dQ
   refine wz.Af.c.e.b.V.z ?_
   refine aO rfl rfl q3 ?_
   cases z with
   | true =>
    refine wz.a.a.a.a.z ?_
    refine aj rfl (fun ZM => ?_)
    skip
    refine aj rfl (fun ZN => ?_)
    refine wz.l.i.b.a.a.a.c.t.b.a.c.b.a.q.B.z ?_
    exact eO [] rfl (.tmp rfl) (.tmp rfl) (.tmp rfl) sZ ⟨⟨_, _, _, rfl, ⟨_, _, rfl⟩, ⟨_, _, _, rfl⟩, (fun h => by cases h)⟩, rfl⟩
   | false =>
    refine wz.a.a.a.a.z ?_
    refine aj rfl (fun ZM => ?_)
    skip
    refine aj rfl (fun ZN => ?_)
    refine wz.De.e.d.j.o.b.a.c.b.a.q.B.z ?_
    refine bg (fun g7 fC iE => ?_)
    have PF : OK S4.length 0 false goal := Dt (Nat.zero_le _) (Nat.le_refl _) iu
    have ZO := lg.mono fC
    have PG := hq.mono fC
    refine bO [0] mixed (fun hG => ?_)
    refine wz.R.z ?_; refine ⟨_, (bP 0 rfl rfl rL), ?_⟩
    refine wz.X.z ?_; refine ⟨_, (bP 2 rfl rfl rL), ?_⟩
    refine wz.AL.f.b.G.CM.z ?_
    refine aB rfl rfl (Pm g7 S4 m4 _ _ q mm oM oM ZO ⟨_, rfl, PG⟩ wn.2) ?_
    rintro w8 g8 ⟨S8, m8, yt, ZP, ry, HQ, ZQ⟩ fh
    obtain ⟨z1, z2, z3, z4, rfl, ZR⟩ := yt.pC
    refine wz.AH.f.b.z ?_
    refine aB rfl rfl (Pm g8 S8 m8 _ _ goal ZP oM oM ZR ⟨_, rfl, (eW.mono fC).mono fh⟩ (by rw [ry]; exact PF)) ?_
    rintro w9 g9 ⟨S9, m9, ZS, ZT, HX, hm9, ZU⟩ gQ
    obtain ⟨z5, z6, z7, z8, rfl, ZV⟩ := ZS.pC
    have aE7 := ab.le_trans fh gQ
    refine wz.F.f.b.q.Aq.f.b.z ?_
    have hub := HD S9
    have ZW := ab.le_trans fC (ab.le_trans fh gQ)
    refine wz.Y.O.G.c.d.z ?_
    refine aB rfl rfl (Zj g9 S9 m9 _ _ _ q goal ZT oM oM ZV ⟨_, rfl, (PG.mono fh).mono gQ⟩ ⟨_, rfl, ((eW.mono fC).mono fh).mono gQ⟩ (by rw [HX, ry]; exact wn.2) (by rw [HX, ry]; exact PF)) ?_
    rintro HU g10 ⟨sv, e, rfl, nG, m10, HV, hX⟩ mn
    obtain ⟨v1, v2, v3, v4, rfl, HY⟩ := HV.pC
    have ZX := hX.len
    have ZY := (ZQ.trans ZU).trans hX.mono
    refine wz.a.a.a.c.e.b.a.q.a.a.a.z ?_
    refine bw rfl rfl (fun he => ?_) (fun he => ?_)
    ·refine wz.l.i.b.a.a.a.c.t.b.a.h.h.h.h.z ?_
     exact eO [] rfl (.tmp rfl) (.tmp rfl) (.tmp rfl) sZ ⟨⟨_, _, _, rfl, ⟨_, _, rfl⟩, ⟨_, _, _, rfl⟩, (fun h => by cases h)⟩, rfl⟩
    ·refine wz.k.Af.k.G.k.z ?_
     refine aB rfl rfl (Dx g10 nG oM m10 _ _ whole 200 oM HY ⟨_, rfl, (fZ.mono ZW).mono mn⟩) ?_
     rintro HZ g11 ⟨rfl, r, rfl, hr⟩ _
     refine wz.b.a.u.z ?_
     refine an rfl (fun gE => ?_) (fun gE => ?_)
     ·refine wz.l.i.b.a.a.a.c.z ?_
      exact eO [] rfl (.tmp rfl) (.tmp rfl) (.tmp rfl) sZ ⟨⟨_, _, _, rfl, ⟨_, _, rfl⟩, ⟨_, _, _, rfl⟩, (fun h => by cases h)⟩, rfl⟩
     ·obtain ⟨yw, ZZ, hnw⟩ := hr.2.1 oM
      have jt := (gi nG ZY hX.ok yw ZZ).1
      have Z0 : kG nG.length 0 false az := fun t ht => by rw [ZX, HX, ry]; exact bW t ht
      have H0 := ((iE.mono fh).mono gQ).mono mn
      have Z1 := ((((dV.mono fC).mono fh).mono gQ).mono mn)
      refine wz.AD.CG.p.b.a.c.e.b.a.c.d.j.z ?_
      skip
      refine aX (ι := Unit) (fun _ => [(3, .slice none 0 0), (5, ptr b5 0), (18, .slice ra j rc), (29, .slice none 0 0), (30, .int .i64 0)]) (fun _ => g11) (fun _ => [.row 41 5 (.slice none 0 0) 0 [], .ae b5 215 [.slice v1 nG.length v2, .slice v3 m10 v4]]) (fun _ => True) (fun _ => 0) () trivial ⟨rfl, rfl, rfl, rfl, rfl, trivial⟩ rfl rfl ?_
      rintro _ -
      try dsimp only
      refine wz.p.b.a.c.e.d.D.m.m.C.o.b.a.A.a.a.c.e.z ?_
      refine aX (ι := Nat × ab × Value × List aA) (fun o => [(3, .slice none 0 0), (5, ptr b5 0), (18, .slice ra j rc), (29, o.2.2.1), (33, .int .i64 o.1)]) (fun o => o.2.1) (fun o => o.2.2.2 ++ [.ae b5 215 [.slice v1 nG.length v2, .slice v3 m10 v4]])
       (fun o => o.1 ≤ j ∧ ab.le g11 o.2.1 ∧ ∃ bz, DI o.2.1 bz o.1 o.2.2.1 o.2.2.2 ∧ kG nG.length 0 false bz ∧ ∀ t ∈ bz, aE t ≤ 4000) (fun o => j - o.1) (0, g11, _, [_]) ⟨Nat.zero_le _, ab.le_refl _, [], ⟨none, 0, [], rfl, rfl, cQ g11, rfl⟩, (fun _ h => by cases h), (fun _ h => by cases h)⟩ ⟨rfl, rfl, rfl, rfl, rfl, trivial⟩ rfl rfl ?_
      rintro ⟨i, g12, rv, own⟩ ⟨hi, jP, bz, ⟨a5, c5, zs, fJ, hown, rf, H2⟩, H3, tL⟩
      simp only at hi jP fJ hown rf H2 H3 tL
      subst fJ
      subst hown
      try dsimp only
      refine wz.b.a.A.a.a.c.e.z ?_
      refine an rfl (fun xe => ?_) (fun xe => ?_)
      ·have dR : i < j := by omega
       have uC : i < az.length := by omega
       have Z2 := H0.mono jP
       obtain ⟨b, off, cap, aq, Z3⟩ := Z2.held dR
       cases aq
       obtain ⟨f1, f2, f3⟩ := eZ (Z1.mono jP) Z3 uC
       obtain ⟨za, PH, pF⟩ := jt az[i] (List.getElem_mem uC)
       have PI := Z0 _ (List.getElem_mem uC)
       refine wz.p.e.d.j.z ?_
       refine cD (ι := ab × Nat × Ty × List Value) (fun o => [(3, .slice none 0 0), (5, ptr b5 0), (18, .slice (some ⟨b, off, none⟩) j rc), (29, .slice a5 i c5), (33, .int .i64 i), (34, ptr o.2.1 0)]) (fun o => o.1) (fun o => [.ae o.2.1 41 o.2.2.2, .row 41 5 (.slice a5 i c5) i zs, .ae b5 215 [.slice v1 nG.length v2, .slice v3 m10 v4]])
        (fun o => ab.le g12 o.1 ∧ yp o.1 o.2.2.2 o.2.2.1 ∧ OK nG.length 0 false o.2.2.1 ∧ aE o.2.2.1 ≤ 4000) ?_ ?_
       case refine_2 =>
        intro K hK
        skip
        refine bO [] mixed (fun hG => ?_)
        refine wz.P.z ?_; refine ⟨_, (bP 1 rfl rfl rL), ?_⟩; refine wz.R.z ?_; refine ⟨_, (ag rfl), ?_⟩; refine wz.S.z ?_; refine ⟨_, (ag rfl), ?_⟩
        refine bn 3 rfl kR rfl hG ⟨_, (bU (j := i) rfl rfl rfl dR), ?_⟩
        refine bn 4 rfl kR rfl hG ⟨_, (dL rfl (f3 _) rfl), ?_⟩
        refine eH 5 9 kR rfl rfl ?_ ?_
        ·refine aB rfl rfl (Hy g12 nG oM m10 _ _ az[i] (HY.mono jP) ⟨_, rfl, f2⟩) ?_
         rintro Z4 g13 ⟨tv, y, ok, rfl, hy, pB, H4⟩ qw
         obtain ⟨e1, e2, rfl, gJ⟩ := hy.dQ
         have lR : gr nG az[i] y := H4.resolve_right (fun h => by have := h.2 za PH; omega)
         have nH := OQ hX.ok y az[i] PI lR
         refine wz.Ak.f.b.z ?_; refine ⟨_, (ag rfl), ?_⟩; refine wz.Aa.z ?_; refine ⟨_, (ag rfl), ?_⟩; refine wz.AV.z ?_; refine ⟨_, (ag rfl), ?_⟩
         refine wz.Ai.z ?_
         refine aj rfl (fun DJ => ?_)
         refine wz.d.F.f.b.a.Bf.f.b.q.AW.f.b.z ?_
         exact hK (g13, DJ, y, _) _ ⟨qw, ⟨_, _, rfl, gJ⟩, nH, pB⟩ ⟨rfl, rfl, rfl, rfl, rfl, rfl, trivial⟩
        ·refine aj rfl (fun DJ => ?_)
         refine wz.Aq.f.b.z ?_
         refine aB rfl rfl (Hy g12 nG oM m10 _ _ az[i] (HY.mono jP) ⟨_, rfl, f2⟩) ?_
         rintro Z4 g13 ⟨tv, y, ok, rfl, hy, pB, H4⟩ qw
         obtain ⟨e1, e2, rfl, gJ⟩ := hy.dQ
         have lR : gr nG az[i] y := H4.resolve_right (fun h => by have := h.2 za PH; omega)
         have nH := OQ hX.ok y az[i] PI lR
         refine wz.Ak.f.b.z ?_; refine ⟨_, (ag rfl), ?_⟩; refine wz.Aa.z ?_; refine ⟨_, (ag rfl), ?_⟩; refine wz.AV.z ?_; refine ⟨_, (ag rfl), ?_⟩
         refine wz.d.F.f.b.a.Bf.f.b.q.AW.z ?_
         exact hK (g13, DJ, y, _) _ ⟨qw, ⟨_, _, rfl, gJ⟩, nH, pB⟩ ⟨rfl, rfl, rfl, rfl, rfl, rfl, trivial⟩
       rintro ⟨g13, DJ, y, yc⟩ ⟨qw, ⟨e1, e2, oV, hy⟩, nH, pB⟩
       simp only at qw oV hy nH pB
       subst oV
       try dsimp only
       refine wz.G.a.r.z ?_
       refine bu rfl rfl rL rL rL rL rL (fun y0 => ?_)
       refine cV 2 0 rfl rfl rfl rfl rfl rL rL rfl mL oM (fun v' _ => ?_)
       refine wz.BU.z ?_
       rintro ⟨z9, z8, rfl⟩
       refine wz.BS.b.a.E.a.r.d.y.N.a.z ?_
       refine aM (i + 1, g13, _, [_]) ⟨oM, ab.le_trans jP qw, bz ++ [y], ⟨z9, z8, _, rfl, rfl, aV.snoc hy (rf.mono qw), by rw [List.length_append, H2]; rfl⟩, fun t ht => ?_, fun t ht => ?_⟩ uM ⟨rfl, rfl, rfl, rfl, rfl, trivial⟩ rfl rfl
       ·rcases List.mem_append.1 ht with ht | ht
        ·exact H3 t ht
        ·rw [List.mem_singleton.1 ht]; exact nH
       ·rcases List.mem_append.1 ht with ht | ht
        ·exact tL t ht
        ·rw [List.mem_singleton.1 ht]; exact pB
      ·obtain rfl : i = j := by omega
       refine bg (fun g13 qw Z5 => ?_)
       refine wz.a.c.d.D.m.m.C.z ?_
       refine aB rfl rfl (Zs g13 bz _ zs (by rw [H2]; exact Z5) (rf.mono qw) oM tL H3) ?_
       rintro w14 g14 ⟨l', xl, kB, fq, Z6, Z7, V', Z8⟩ G7
       obtain ⟨l1, l2, rfl⟩ := aU fq
       obtain ⟨-, tD, hlo0⟩ := fq.lo (p := 0) (Nat.zero_le _)
       refine wz.e.b.a.z ?_
       refine bO [] mixed (fun hG => ?_)
       refine wz.P.z ?_; refine ⟨_, (ag rfl), ?_⟩; refine wz.R.z ?_; refine ⟨_, (ag rfl), ?_⟩; refine wz.S.z ?_; refine ⟨_, (jQ rfl), ?_⟩
       refine bn 3 rfl kR rfl hG ⟨_, (PJ (q := 0) rfl rfl rfl (Nat.zero_le _)), ?_⟩
       refine wz.Z.z ?_; refine ⟨_, (ag rfl), ?_⟩; refine wz.Ad.z ?_; refine ⟨_, (ag rfl), ?_⟩; refine wz.Ak.z ?_; refine ⟨_, (jQ rfl), ?_⟩
       refine bn 7 rfl kR rfl hG ⟨_, (C_ (p := 0) rfl rfl rfl (Nat.zero_le _) tD), ?_⟩
       refine wz.i.d.F.f.b.a.AW.f.b.a.Ai.f.b.a.Ae.z ?_
       exact eO [] rfl (.tmp rfl) (.tmp rfl) (.tmp rfl) sZ ⟨⟨_, _, _, rfl, ⟨_, _, rfl⟩, ⟨_, _, _, rfl⟩, fun _ => ⟨l', xl, V', oM, by simpa using hlo0, Z6, Z7, Z8⟩⟩, rfl⟩
end Go.Proofs.YtlnjfkfojkgiiaaGreatDoor
namespace Go.Th
structure Hd where
 name : Bytes
 bQ : Bool
 args : List Ty
structure DK (h : Hd) : Prop where
 l : h.args.length ≤ 3
 n : ∀ t ∈ h.args, aE t ≤ 4000
 ok : ∃ V, kG V 0 false h.args
end Go.Th
namespace Go.Proofs.YtlnjfkfojkgiiaaGreatDoor
def tN (g : ab) (h : Hd) (cs : List Value) : Prop := ∃ a c xa b m d, cs = [str h.name, .bool h.bQ, .slice a h.args.length c, .slice b m d] ∧ au g 5 (.slice a h.args.length c) h.args.length xa ∧ aV g h.args xa
theorem tN.mono {g g' : ab} (hle : ab.le g g') {h : Hd} {cs : List Value} (hh : tN g h cs) : tN g' h cs := by
 obtain ⟨a, c, xa, b, m, d, e, h1, h2⟩ := hh
 exact ⟨a, c, xa, b, m, d, e, h1.mono hle, h2.mono hle⟩
theorem tN.one {g : ab} {h : Hd} {cs : List Value} (hh : tN g h cs) : cs.length = 4 ∧ ∀ u ∈ cs, fx u = true := by
 obtain ⟨a, c, xa, b, m, d, rfl, _⟩ := hh
 refine ⟨rfl, fun u hu => ?_⟩
 simp only [List.mem_cons, List.not_mem_nil, or_false] at hu
 rcases hu with rfl | rfl | rfl | rfl <;> rfl
def PK (g : ab) (hs : List Hd) (v : Value) (own : List aA) : Prop := ∃ a c xs, v = .slice a hs.length c ∧ own = [.row 166 4 (.slice a hs.length c) hs.length xs] ∧ aL (tN g) hs xs
def yy (g : ab) (v : Value) (hs : List Hd) : Prop := ∃ xs, au g 4 v hs.length xs ∧ aL (tN g) hs xs
theorem yy.mono {g g' : ab} (hle : ab.le g g') {v : Value} {hs : List Hd} (h : yy g v hs) : yy g' v hs := by
 obtain ⟨xs, h1, h2⟩ := h
 exact ⟨xs, h1.mono hle, aL.mono (fun _ _ h => h.mono hle) h2⟩
theorem PL (g : ab) (sv cv gv : Value) (gj : Nat) (ct goal : Ty) (name : Bytes) (bQ : Bool) (hs : eJ g sv [] 0) (hc : jU g cv gj ct) (hg : aQ g gv goal) (pN : gj ≤ 5000) (HL : OK 0 gj false ct) (Pq : aE ct ≤ 5000) (iu : OK 0 0 false goal) :
  bK prog 156 [sv, cv, gv, .slice none 0 0, .int .i64 3, .agg #[str name, .bool bQ, .slice none 0 0, .slice none 0 0]] g fun w g' => ∃ hs, yy g' w hs ∧ hs.length ≤ 4 ∧ ∀ h ∈ hs, DK h ∧ h.name = name ∧ h.bQ = bQ := by
 obtain ⟨a0, c0, Pr, Ps, rfl, wF⟩ := hs.pC
 obtain ⟨ca, cc, rfl, eV⟩ := hc.form
 obtain ⟨ga, gc, rfl, cG⟩ := hg.dQ
 refine aw func156 rfl ntmps156 rfl fun E hE => ?_
 refine aS ?_
 refine aP rfl rfl rfl (fun b6 => ?_)
 skip
 refine aP rfl rfl rfl (fun b7 => ?_)
 skip
 refine aP rfl rfl rfl (fun b8 => ?_)
 skip
 refine aP rfl rfl rfl (fun dY => ?_)
 refine wz.p.b.a.c.e.b.a.c.b.a.z ?_; refine fW 166 4 ?_
 refine aX (ι := Nat × ab × List Hd × Value × List aA) (fun o => [(3, .slice none 0 0), (4, .int .i64 3), (6, ptr b6 0), (7, ptr b7 0), (8, ptr b8 0), (11, ptr dY 0), (13, o.2.2.2.1), (14, .int .i64 o.1)]) (fun o => o.2.1)
  (fun o => o.2.2.2.2 ++ [.ae dY 166 [str name, .bool bQ, .slice none 0 0, .slice none 0 0], .ae b8 41 (aH goal (.slice ga goal.args.length gc)), .ae b7 95 (.int .i64 gj :: aH ct (.slice ca ct.args.length cc)), .ae b6 215 [.slice a0 0 c0, .slice Pr 0 Ps]])
  (fun o => o.1 ≤ 4 ∧ ab.le g o.2.1 ∧ PK o.2.1 o.2.2.1 o.2.2.2.1 o.2.2.2.2 ∧ o.2.2.1.length ≤ o.1 ∧ ∀ h ∈ o.2.2.1, DK h ∧ h.name = name ∧ h.bQ = bQ) (fun o => 4 - o.1)
  (0, g, [], _, [_]) ⟨Nat.zero_le _, ab.le_refl _, ⟨none, 0, [], rfl, rfl, rfl⟩, Nat.le_refl _, (fun _ h => by cases h)⟩ ⟨rfl, rfl, rfl, rfl, rfl, rfl, rfl, rfl, trivial⟩ rfl rfl ?_
 rintro ⟨k, g1, iB, rv, own⟩ ⟨hk, hle, ⟨ra, rc, xs, fJ, hown, dV⟩, kj, bW⟩
 simp only at hk hle fJ hown dV kj bW
 subst fJ
 subst hown
 try dsimp only
 refine wz.b.a.a.a.c.e.z ?_
 refine an rfl (fun hlt => ?_) (fun hlt => ?_)
 ·have ob : k ≤ 3 := by omega
  refine wz.a.a.Af.Y.Cf.c.p.e.d.j.z ?_
  refine aB rfl rfl (Zx g1 _ _ _ gj ct goal k (wF.mono hle) ⟨_, rfl, eV.mono hle⟩ ⟨_, rfl, cG.mono hle⟩ pN HL Pq iu ob) ?_
  rintro w2 g2 ⟨tv, av, ok, rfl, ⟨ta, tc, rfl⟩, ⟨aa, am, ac, rfl⟩, lR⟩ aD
  cases ok with
  | false =>
   refine wz.b.a.E.a.r.d.D.m.C.t.b.a.a.c.e.b.a.a.a.a.a.a.a.z ?_
   exact aM (k + 1, g2, iB, _, [_]) ⟨oM, ab.le_trans hle aD, ⟨ra, rc, xs, rfl, rfl, aL.mono (fun _ _ h => h.mono aD) dV⟩, uM, bW⟩ uM ⟨rfl, rfl, rfl, rfl, rfl, rfl, rfl, rfl, trivial⟩ rfl rfl
  | true =>
   obtain ⟨az, xa, V, h1, h2, h3, h4, h5⟩ := lR rfl
   have jB := (aV.one h3).2
   refine wz.O.c.d.j.o.b.a.a.c.e.b.a.a.a.a.a.a.a.z ?_
   refine aj rfl (fun vH => ?_)
   refine wz.AD.a.c.b.q.z ?_
   refine jr 0 rfl rfl rfl rfl (⟨rfl, .inl ⟨⟨_, _, rfl⟩, rfl⟩⟩ : au g2 5 (.slice ta 0 tc) 0 []) rL rL (fun _ h => by cases h) dC dC (fun v1 _ => ?_)
   refine wz.BF.z ?_
   rintro ⟨q1, q3, rfl⟩
   refine bg (fun g3 aF bY => ?_)
   refine wz.AD.a.z ?_
   refine jr 0 rfl rfl rfl rfl (h2.mono aF) rL rL jB mL oM (fun v2 _ => ?_)
   refine wz.BF.z ?_
   rintro ⟨q5, q6, rfl⟩
   refine bg (fun g4 aR eG => ?_)
   rw [Nat.zero_add, List.nil_append] at eG
   refine wz.G.a.r.b.Ac.g.Ac.g.z ?_
   refine bu rfl rfl rL rL rL rL rL (fun y0 => ?_)
   refine cV 2 0 rfl rfl rfl rfl rfl rL rL rfl mL oM (fun v' _ => ?_)
   refine wz.BU.z ?_
   rintro ⟨z1, z3, rfl⟩
   refine wz.Cc.b.a.E.a.r.d.y.N.a.z ?_
   have qU := ab.le_trans aD (ab.le_trans aF aR)
   refine aM (k + 1, g4, iB ++ [⟨name, bQ, az⟩], _, [_]) ⟨oM, ab.le_trans hle qU, ⟨z1, z3, _, by rw [List.length_append]; rfl, by rw [List.length_append]; rfl, aL.snoc ⟨q5, q6, xa, q1, 0, q3, by simp [dO], eG, (h3.mono aF).mono aR⟩ (aL.mono (fun _ _ h => h.mono qU) dV)⟩, by simp only [List.length_append, List.length_singleton]; omega, fun h hh => ?_⟩ uM ⟨rfl, rfl, rfl, rfl, rfl, rfl, rfl, rfl, trivial⟩ rfl rfl
   rcases List.mem_append.1 hh with hh | hh
   ·exact bW h hh
   ·rw [List.mem_singleton.1 hh]; exact ⟨⟨uM, h4, V, h5⟩, rfl, rfl⟩
 ·refine bg (fun g2 aD bj => ?_)
  refine wz.i.b.a.a.c.d.D.m.m.C.z ?_
  exact ao [] rfl rfl sZ ⟨⟨iB, ⟨xs, bj, aL.mono (fun _ _ h => h.mono aD) dV⟩, oM, bW⟩, rfl⟩
end Go.Proofs.YtlnjfkfojkgiiaaGreatDoor
namespace Go.Th
def DL (h : Hd) : Prop := if h.bQ = true then kindOf h.name = 2 ∧ h.name.length ≤ 5 else kindOf h.name = 1 ∧ h.name.length ≤ 2
structure vI (e : En) : Prop where
 ok : Pk e
 k : kindOf e.name = 1
 l : e.name.length ≤ 2
end Go.Th
namespace Go.Proofs.YtlnjfkfojkgiiaaGreatDoor
theorem jU.agg {g : ab} {v : Value} {n : Nat} {t : Ty} (h : jU g v n t) : ∃ a c, v = .agg #[.int .i64 n, .int .i64 t.kind, str t.name, .int .i64 t.id, .int .i64 t.home, .slice a t.args.length c] ∧ bx g t (aH t (.slice a t.args.length c)) := h.form
theorem H5 {α : Type} {R : α → List Value → Prop} : ∀ {l l' : List α} {xs ys : List Value}, aL R l xs → aL R l' ys → aL R (l ++ l') (xs ++ ys)
 | [], _, xs, _, h, h' => by rw [show xs = [] from h]; exact h'
 | a :: l, _, _, _, ⟨c, r, e, h1, h2⟩, h' => ⟨c, r ++ _, by rw [e, List.append_assoc], h1, H5 h2 h'⟩
theorem rz {α : Type} {R : α → List Value → Prop} {g : ab} {sz : Nat} (hR : ∀ a c, R a c → c.length = sz) {l : List α} {xs : List Value} {b off : Nat} (ht : aL R l xs) (hx : ∀ k x, xs[k]? = some x → g b (off + k) = some x) {i : Nat} (h : i < l.length) :
  ∃ c, R l[i] c ∧ ∀ g', ab.le g g' → ∀ own, Rd g' own b (off + i * sz) c := by
 obtain ⟨c, h1, h2⟩ := aL.get hR ht i h
 exact ⟨c, h1, fun g' hg own => nc fun j x hj => by rw [Nat.add_assoc]; exact hg _ _ _ (hx _ _ (h2 j x hj))⟩
def H6 (g : ab) (B : Nat) (v : Value) (own : List aA) : Prop := ∃ iB, PK g iB v own ∧ iB.length ≤ B ∧ ∀ h ∈ iB, DK h ∧ DL h
theorem Z9 (g : ab) (ds : List Da) (dv : Value) (hD : pw g ds dv) (ctx : List En) (cv gv : Value) (goal : Ty) (hc : ld g cv ctx) (gk : ctx.length ≤ 100) (rA : ∀ e ∈ ctx, vI e) (hg : aQ g gv goal) (iu : OK 0 0 false goal) (lX : aE goal ≤ 5000) :
  bK prog 114 [dv, cv, gv, .slice none 0 0, .int .i64 3] g fun w g' => ∃ hs, yy g' w hs ∧ hs.length ≤ 1000 ∧ ∀ h ∈ hs, DK h ∧ DL h := by
 obtain ⟨ga, gc, rfl, cG⟩ := hg.dQ
 obtain ⟨⟨xd, gm, jO⟩, nj, px⟩ := id hD
 obtain ⟨da, dc, rfl⟩ := aU gm
 obtain ⟨va, vb, x, y, z, q1, q2, q3, -, -⟩ := ye g iu hg
 obtain ⟨x1, x2, rfl, hx⟩ := q1.dQ
 obtain ⟨y1, y2, rfl, hy⟩ := q2.dQ
 refine aw func114 rfl ntmps114 rfl fun E hE => ?_
 refine aS ?_
 refine aP rfl rfl rfl (fun b7 => ?_)
 refine wz.G.c.e.b.a.z ?_
 refine aO rfl rfl q3 ?_
 cases z with
 | true =>
  refine wz.a.a.a.a.z ?_
  refine aj rfl (fun dY => ?_)
  skip
  refine aj rfl (fun kW => ?_)
  refine wz.l.i.b.a.c.t.b.a.h.h.a.a.c.b.a.q.B.z ?_
  exact ao [] rfl rfl sZ ⟨⟨[], ⟨[], cP g 4, rfl⟩, sM, (fun _ h => by cases h)⟩, rfl⟩
 | false =>
  refine wz.a.a.a.a.z ?_
  refine aj rfl (fun dY => ?_)
  skip
  refine aj rfl (fun kW => ?_)
  refine wz.CH.a.a.Af.c.d.j.o.b.a.u.u.a.a.c.b.a.q.B.z ?_
  refine aB rfl rfl (Zo g goal _ _ ctx ⟨_, rfl, cG⟩ iu lX hc gk (fun e h => (rA e h).ok)) ?_
  rintro w1 g1 ⟨sv, rfl, aJ⟩ a8
  obtain ⟨a1, c1, a2, c2, rfl, nN⟩ := aJ.pC
  refine wz.a.a.a.z ?_
  refine aj rfl (fun jf => ?_)
  refine wz.a.O.c.b.a.q.z ?_
  refine aB rfl rfl (xG g1 [] goal oM _ _ [] ⟨_, rfl, cG.mono a8⟩ (cP g1 6) rfl) ?_
  rintro w2 g2 jq aD
  rw [Ph] at jq
  obtain ⟨H7, H8, rfl, xP⟩ := jq.dQ
  skip
  refine aj rfl (fun lG => ?_)
  refine wz.a.c.b.a.c.b.q.z ?_
  have jP := ab.le_trans a8 aD
  refine aB rfl rfl (G8 g2 ctx _ (hc.mono jP) oM) ?_
  rintro w3 g3 ⟨o, ⟨xo, oq, tu⟩, vF, DF⟩ aF
  obtain ⟨wa, wc, rfl⟩ := aU oq
  have pG := (nN.mono aD).mono aF
  have PM := xP.mono aF
  refine fW 166 4 <| wz.p.b.a.c.e.b.a.z ?_
  refine aX (ι := Nat × ab × Value × List aA) (fun q => [(0, .slice da ds.length dc), (4, .int .i64 3), (7, ptr b7 0), (14, ptr jf 0), (15, .slice none 0 0), (16, ptr lG 0), (17, q.2.2.1), (18, .slice wa o.length wc), (19, .int .i64 q.1)]) (fun q => q.2.1) (fun q => q.2.2.2 ++ [.ae lG 41 (aH goal (.slice H7 goal.args.length H8)), .ae jf 215 [.slice a1 0 c1, .slice a2 0 c2], .ae b7 41 (aH goal (.slice ga goal.args.length gc))])
   (fun q => q.1 ≤ o.length ∧ ab.le g3 q.2.1 ∧ H6 q.2.1 (4 * q.1) q.2.2.1 q.2.2.2) (fun q => o.length - q.1) (0, g3, _, [_]) ⟨Nat.zero_le _, ab.le_refl _, [], ⟨none, 0, [], rfl, rfl, rfl⟩, Nat.le_refl _, (fun _ h => by cases h)⟩ ⟨rfl, rfl, rfl, rfl, rfl, rfl, rfl, rfl, rfl, trivial⟩ rfl rfl ?_
  rintro ⟨k, g4, rv, own⟩ ⟨hk, aR, iB, ⟨ra, rc, xs, fJ, hown, dV⟩, kj, bW⟩
  simp only at hk aR fJ hown dV kj bW
  subst fJ
  subst hown
  try dsimp only
  refine wz.b.a.A.a.a.c.e.z ?_
  refine an rfl (fun hlt => ?_) (fun hlt => ?_)
  ·have af : k < o.length := by omega
   obtain ⟨b, off, cap, aq, oJ⟩ := (oq.mono aR).held af
   cases aq
   obtain ⟨cs, e1, hr⟩ := rz (fun _ _ h => h.one.1) (aL.mono (fun _ _ h => h.mono aR) tu) oJ af
   obtain ⟨ea, ec, rfl, e2⟩ := e1.form
   obtain ⟨en, ek, el⟩ := rA _ (vF _ (List.getElem_mem af))
   generalize o[k] = e at e1 e2 hr en ek el
   obtain ⟨H9, PN, H_⟩ := en
   refine wz.g.M.a.a.a.c.p.e.d.j.z ?_
   refine eY rfl rfl ((hr _ (ab.le_refl _) _).part 1 (vs := .int .i64 e.gj :: aH e.ty (.slice ea e.ty.args.length ec)) (fun j x hj => by rw [Nat.add_comm]; exact hj)) rfl ?_
   skip
   refine aB rfl rfl (Zn g4 e.gj e.ty _ ⟨_, rfl, e2⟩ oM) ?_
   rintro w5 g5 ir cC
   obtain ⟨f1, f2, rfl, hf⟩ := ir.agg
   skip
   refine aj rfl (fun ZC => ?_)
   refine wz.b.q.z ?_
   refine fQ 14 [1] mixed kR (fun hG => ?_)
   refine wz.Ar.z ?_; refine ⟨_, (ag rfl), ?_⟩; refine wz.Ax.z ?_; refine ⟨_, (bP 2 rfl rfl rL), ?_⟩; refine wz.Ay.z ?_; refine ⟨_, (bP 0 rfl rfl rL), ?_⟩; refine wz.AS.z ?_; refine ⟨_, (bP 1 rfl rfl rL), ?_⟩; refine wz.AT.z ?_; refine ⟨_, (ag rfl), ?_⟩; refine wz.Be.z ?_; refine ⟨_, (ag rfl), ?_⟩; refine wz.Bs.z ?_; refine ⟨_, (ag rfl), ?_⟩; refine wz.Bo.z ?_; refine ⟨_, (ag rfl), ?_⟩
   refine di 8 rfl kR rfl hG ⟨_, (bU (j := k) rfl rfl rfl af), ?_⟩
   refine wz.BI.z ?_; refine ⟨_, (aI rfl), ?_⟩
   refine di 10 rfl kR rfl hG ⟨_, (cU rfl ((hr _ cC _).du 0 rfl)), ?_⟩
   refine wz.Cb.z ?_; refine ⟨_, (et rfl rL), ?_⟩
   refine iP 12 kR rfl rfl ?_
   refine aB rfl rfl (PL g5 _ _ _ e.gj e.ty goal e.name false ((pG.mono aR).mono cC) ⟨_, rfl, hf⟩ ⟨_, rfl, (PM.mono aR).mono cC⟩ H_ H9 PN iu) ?_
   rintro w6 g6 ⟨hs, ⟨xh, qv, tO⟩, PO, yz⟩ dT
   obtain ⟨ha, iA, rfl⟩ := aU qv
   refine wz.f.b.z ?_; refine iP 13 kR rfl rfl ?_
   skip
   refine jr 1 rfl rfl rfl rfl qv rL rL (aL.one (fun _ _ h => h.one) tO).2 mL oM (fun v2 _ => ?_)
   refine wz.AC.z ?_
   rintro ⟨q5, q6, rfl⟩
   refine wz.Bb.b.a.E.a.r.d.y.N.a.Am.f.b.z ?_
   refine aM (k + 1, g6, _, [_]) ⟨oM, ab.le_trans aR (ab.le_trans cC dT), iB ++ hs, ⟨q5, q6, _, by rw [List.length_append], by rw [List.length_append], H5 (aL.mono (fun _ _ h => (h.mono cC).mono dT) dV) tO⟩, by rw [List.length_append]; omega, fun h hm => ?_⟩ uM ⟨rfl, rfl, rfl, rfl, rfl, rfl, rfl, rfl, rfl, trivial⟩ rfl rfl
   rcases List.mem_append.1 hm with hm | hm
   ·exact bW h hm
   ·obtain ⟨i1, i2, i3⟩ := yz h hm
    exact ⟨i1, by unfold DL; rw [i3, i2]; exact ⟨ek, el⟩⟩
  ·obtain rfl : k = o.length := by omega
   refine wz.p.b.a.c.e.d.D.m.m.C.z ?_
   refine aX (ι := Nat × ab × Value × List aA) (fun q => [(0, .slice da ds.length dc), (4, .int .i64 3), (7, ptr b7 0), (14, ptr jf 0), (15, .slice none 0 0), (16, ptr lG 0), (17, q.2.2.1), (21, .int .i64 q.1)]) (fun q => q.2.1) (fun q => q.2.2.2 ++ [.ae lG 41 (aH goal (.slice H7 goal.args.length H8)), .ae jf 215 [.slice a1 0 c1, .slice a2 0 c2], .ae b7 41 (aH goal (.slice ga goal.args.length gc))])
    (fun q => q.1 ≤ ds.length ∧ ab.le g4 q.2.1 ∧ H6 q.2.1 (400 + 8 * q.1) q.2.2.1 q.2.2.2) (fun q => ds.length - q.1) (0, g4, _, [_]) ⟨Nat.zero_le _, ab.le_refl _, iB, ⟨ra, rc, xs, rfl, rfl, dV⟩, oM, bW⟩ ⟨rfl, rfl, rfl, rfl, rfl, rfl, rfl, rfl, trivial⟩ rfl rfl ?_
   clear bW kj dV xs ra rc iB
   rintro ⟨i, g5, rv, own⟩ ⟨hi, cC, iB, ⟨ra, rc, xs, fJ, hown, dV⟩, kj, bW⟩
   simp only at hi cC fJ hown dV kj bW
   subst fJ
   subst hown
   try dsimp only
   refine wz.b.a.A.a.a.c.e.z ?_
   refine an rfl (fun dk => ?_) (fun dk => ?_)
   ·have dR : i < ds.length := by omega
    have rB := List.getElem_mem dR
    have Ia := ab.le_trans jP (ab.le_trans aF (ab.le_trans aR cC))
    obtain ⟨b, off, cap, aq, oJ⟩ := (gm.mono Ia).held dR
    cases aq
    obtain ⟨cs, e1, hr⟩ := rz (fun _ _ h => h.one.1) (ng Ia jO) oJ dR
    obtain ⟨_, vw, tC⟩ := px _ rB
    have aE8 := nj
    generalize ds[i] = d at e1 hr vw tC rB
    obtain ⟨p1, p2, p3, p4, xc, rfl, qd, lQ, tP⟩ := e1.form
    obtain ⟨gc1, gc2, Z_⟩ := id vw
    refine wz.p.b.a.c.p.e.d.j.z ?_
    refine aX (ι := Nat × ab × Value × List aA) (fun q => [(0, .slice (some ⟨b, off, none⟩) ds.length dc), (4, .int .i64 3), (7, ptr b7 0), (14, ptr jf 0), (15, .slice none 0 0), (16, ptr lG 0), (17, q.2.2.1), (21, .int .i64 i), (22, .int .i64 q.1)]) (fun q => q.2.1) (fun q => q.2.2.2 ++ [.ae lG 41 (aH goal (.slice H7 goal.args.length H8)), .ae jf 215 [.slice a1 0 c1, .slice a2 0 c2], .ae b7 41 (aH goal (.slice ga goal.args.length gc))])
     (fun q => q.1 ≤ d.cons.length ∧ ab.le g5 q.2.1 ∧ H6 q.2.1 (400 + 8 * i + 4 * q.1) q.2.2.1 q.2.2.2) (fun q => d.cons.length - q.1) (0, g5, _, [_]) ⟨Nat.zero_le _, ab.le_refl _, iB, ⟨ra, rc, xs, rfl, rfl, dV⟩, oM, bW⟩ ⟨rfl, rfl, rfl, rfl, rfl, rfl, rfl, rfl, rfl, trivial⟩ rfl rfl ?_
    clear bW kj dV
    rintro ⟨k, g6, rv, own⟩ ⟨hk, dT, iB, ⟨ra, rc, xs, fJ, hown, dV⟩, kj, bW⟩
    simp only at hk dT fJ hown dV kj bW
    subst fJ
    subst hown
    try dsimp only
    refine wz.g.M.a.a.a.c.e.z ?_
    refine cj rfl rfl ((hr _ dT _).du 3 rfl) ?_
    refine wz.b.a.A.z ?_
    refine an rfl (fun iM => ?_) (fun iM => ?_)
    ·have c_ : k < d.cons.length := by omega
     obtain ⟨b2, aE9, aFA, lz, dB⟩ := (lQ.mono dT).held c_
     cases lz
     obtain ⟨Gy, e2, eM⟩ := rz (fun _ _ h => h.one.1) (aL.mono (fun _ _ h => h.mono dT) tP) dB c_
     have hcm := List.getElem_mem c_
     obtain ⟨n1, n2, n3⟩ := Z_ _ hcm
     generalize d.cons[k] = c at e2 eM hcm n1 n2 n3
     obtain ⟨f1, f2, f3, rfl, gF, mY⟩ := e2.form
     refine wz.g.M.a.a.a.c.p.e.d.j.z ?_
     refine cj rfl rfl ((hr _ dT _).du 3 rfl) ?_
     refine wz.g.M.a.z ?_
     refine cj rfl rfl ((eM _ (ab.le_refl _) _).du 1 rfl) ?_
     refine aB rfl rfl (Ye g6 ds _ (hD.mono (ab.le_trans Ia dT)) c.name ⟨d, rB, c, hcm, rfl⟩) ?_
     rintro w7 g7 ⟨sv, n, t, rfl, ez, so1, so2, so3⟩ fC
     obtain ⟨f4, f5, rfl, hf⟩ := ez.agg
     refine wz.a.a.a.z ?_
     refine aj rfl (fun PE => ?_)
     refine wz.b.a.q.z ?_
     have lh := ab.le_trans dT fC
     refine fQ 18 [1] mixed kR (fun hG => ?_)
     refine wz.Ar.z ?_; refine ⟨_, (ag rfl), ?_⟩; refine wz.Ax.z ?_; refine ⟨_, (bP 2 rfl rfl rL), ?_⟩; refine wz.Ay.z ?_; refine ⟨_, (bP 0 rfl rfl rL), ?_⟩; refine wz.AS.z ?_; refine ⟨_, (bP 1 rfl rfl rL), ?_⟩; refine wz.AT.z ?_; refine ⟨_, (ag rfl), ?_⟩; refine wz.Be.z ?_; refine ⟨_, (ag rfl), ?_⟩; refine wz.Bs.z ?_; refine ⟨_, (ag rfl), ?_⟩; refine wz.Bo.z ?_; refine ⟨_, (ag rfl), ?_⟩
     refine di 8 rfl kR rfl hG ⟨_, (bU (j := i) rfl rfl rfl dR), ?_⟩
     refine wz.BI.z ?_; refine ⟨_, (aI rfl), ?_⟩
     refine di 10 rfl kR rfl hG ⟨_, (cU rfl ((hr _ lh _).du 3 rfl)), ?_⟩
     refine wz.Cb.z ?_; refine ⟨_, (ag rfl), ?_⟩
     refine di 12 rfl kR rfl hG ⟨_, (bU (j := k) rfl rfl rfl c_), ?_⟩
     refine di 13 rfl kR rfl hG ?_; refine ⟨_, (aI rfl), ?_⟩
     refine di 14 rfl kR rfl hG ⟨_, (cU rfl ((eM _ fC _).du 1 rfl)), ?_⟩
     refine di 15 rfl kR rfl hG ?_; refine ⟨_, (et rfl rL), ?_⟩
     refine iP 16 kR rfl rfl ?_
     refine aB rfl rfl (PL g7 _ _ _ n t goal c.name true (((pG.mono aR).mono cC).mono lh) ⟨_, rfl, hf⟩ ⟨_, rfl, ((PM.mono aR).mono cC).mono lh⟩ oM so2 oM iu) ?_
     rintro w8 g8 ⟨hs, ⟨xh, qv, tO⟩, PO, yz⟩ fh
     obtain ⟨ha, iA, rfl⟩ := aU qv
     refine wz.f.b.z ?_; refine iP 17 kR rfl rfl ?_
     skip
     refine jr 1 rfl rfl rfl rfl qv rL rL (aL.one (fun _ _ h => h.one) tO).2 mL oM (fun v2 _ => ?_)
     refine wz.AC.z ?_
     rintro ⟨q5, q6, rfl⟩
     refine wz.Bb.b.a.E.a.r.d.y.N.a.Am.f.b.z ?_
     refine aM (k + 1, g8, _, [_]) ⟨oM, ab.le_trans lh fh, iB ++ hs, ⟨q5, q6, _, by rw [List.length_append], by rw [List.length_append], H5 (aL.mono (fun _ _ h => (h.mono fC).mono fh) dV) tO⟩, by rw [List.length_append]; omega, fun h hm => ?_⟩ uM ⟨rfl, rfl, rfl, rfl, rfl, rfl, rfl, rfl, rfl, trivial⟩ rfl rfl
     rcases List.mem_append.1 hm with hm | hm
     ·exact bW h hm
     ·obtain ⟨i1, i2, i3⟩ := yz h hm
      exact ⟨i1, by unfold DL; rw [i3, i2]; exact ⟨n1, n2⟩⟩
    ·obtain rfl : k = d.cons.length := by omega
     refine wz.b.a.E.a.r.d.y.D.m.m.C.z ?_
     exact aM (i + 1, g6, _, [_]) ⟨oM, ab.le_trans cC dT, iB, ⟨ra, rc, xs, rfl, rfl, dV⟩, oM, bW⟩ uM ⟨rfl, rfl, rfl, rfl, rfl, rfl, rfl, rfl, trivial⟩ rfl rfl
   ·refine bg (fun g6 dT mE => ?_)
    refine wz.i.b.a.a.c.d.D.m.m.C.z ?_
    exact ao [] rfl rfl sZ ⟨⟨iB, ⟨xs, mE, aL.mono (fun _ _ h => h.mono dT) dV⟩, oM, bW⟩, rfl⟩
end Go.Proofs.YtlnjfkfojkgiiaaGreatDoor
namespace Go.Th
inductive GE : Ex → Prop where
 | var (p : Int) (n : Bytes) (h : kindOf n = 1) (hl : n.length ≤ 1000) : GE (cN 1 p n 0)
 | bQ (p : Int) (n : Bytes) (h : kindOf n = 2) (hl : n.length ≤ 1000) : GE (cN 2 p n 0)
 | int (p : Int) (m : Nat) (h : m < 10) : GE (cN 3 p [] m)
 | hole (p : Int) : GE (cN 10 p [] 0)
 | lam (p : Int) (n : Bytes) (b : Ex) (h : kindOf n = 1) (hl : n.length ≤ 1000) (hb : GE b) : GE (bC 4 p n [b])
 | app (p : Int) (f a : Ex) (hf : GE f) (ha : GE a) : GE (bC 5 p [] [f, a])
 | bind (k p : Int) (n : Bytes) (a b : Ex) (hk : k = 6 ∨ k = 7) (h : kindOf n = 1) (hl : n.length ≤ 1000) (ha : GE a) (hb : GE b) : GE (bC k p n [a, b])
 | iY (p : Int) (e : Ex) (t : Ty) (he : GE e) (ht : fr t) (hs : (cK t).length ≤ 6000000) : GE (h_ p e t)
 | held (p : Int) (e : Ex) (he : GE e) : GE (bC 11 p [] [e])
 | case (p : Int) (e : Ex) (az : List Ar) (he : GE e) (hne : az ≠ []) (hc : ∀ a ∈ az, kindOf a.bQ = 2 ∧ a.bQ.length ≤ 1000 ∧ ∀ v ∈ a.vars, kindOf v = 1 ∧ v.length ≤ 1000) (ha : ∀ a ∈ az, GE a.body) : GE (eS p e az)
theorem GE.ak {e : Ex} (h : GE e) : eQ e := by
 induction h with
 | var p n h hl => exact .var p n h
 | bQ p n h hl => exact .bQ p n h
 | int p m h => exact .int p m h
 | hole p => exact .hole p
 | lam p n b h hl hb ih => exact .lam p n b h ih
 | app p f a hf ha i1 i2 => exact .app p f a i1 i2
 | bind k p n a b hk h hl ha hb i1 i2 => exact .bind k p n a b hk h i1 i2
 | iY p e t he ht hs ih => exact .iY p e t ih ht
 | held p e he ih => exact .held p e ih
 | case p e az he hne hc ha ih iha => exact .case p e az ih hne (fun a h => ⟨(hc a h).1, fun v hv => ((hc a h).2.2 v hv).1⟩) iha
theorem aAA (e : Ex) : (nu e).length ≤ (bL e).length + 2 := by unfold nu paren; split <;> simp
theorem aAB (e : Ex) : (lE e).length ≤ (bL e).length + 2 := by unfold lE paren; split <;> simp
theorem PQ : ∀ (vs : List Bytes), (∀ v ∈ vs, v.length ≤ 1000) → (eU vs).length ≤ 1001 * vs.length
 | [], _ => by simp [eU]
 | v :: r, h => by
  have h1 := PQ r (fun x hx => h x (List.mem_cons_of_mem _ hx))
  have h2 := h v (List.mem_cons_self ..)
  simp only [eU, List.flatMap_cons, List.length_append, List.length_cons] at h1 ⊢
  omega
theorem aAC {a : Ar} (h1 : a.bQ.length ≤ 1000) (h2 : ∀ v ∈ a.vars, v.length ≤ 1000) (h3 : (bL a.body).length ≤ aN a.body * 6010000) : (iO a).length + 10 ≤ hY a * 6010000 := by
 obtain ⟨p, c, vs, b⟩ := a
 have := PQ vs h2
 simp only [Ar.bQ, Ar.body] at h1 h3
 simp only [iO, hY, List.length_append, List.length_cons, List.length_nil, Nat.add_mul]
 omega
theorem PR : ∀ (az : List Ar), (∀ a ∈ az, (iO a).length + 10 ≤ hY a * 6010000) → (ig az).length ≤ bZ az * 6010000
 | [], _ => by simp [ig]
 | a :: r, h => by
  have h1 := h a (List.mem_cons_self ..)
  have h2 := PR r (fun x hx => h x (List.mem_cons_of_mem _ hx))
  simp only [ig, bZ, List.length_append, List.length_cons, List.length_nil, Nat.add_mul]
  omega
theorem aAD (az : List Ar) (h : ∀ a ∈ az, (iO a).length + 10 ≤ hY a * 6010000) : (gI az).length ≤ bZ az * 6010000 := by
 cases az with
 | nil => simp [gI]
 | cons a r =>
  have h1 := h a (List.mem_cons_self ..)
  have h2 := PR r (fun x hx => h x (List.mem_cons_of_mem _ hx))
  simp only [gI, bZ, List.length_append, Nat.add_mul]
  omega
theorem GE.len {e : Ex} (h : GE e) : (bL e).length ≤ aN e * 6010000 := by
 have e3 : kC.length = 4 ∧ kP.length = 2 ∧ iD.length = 3 ∧ dI.length = 3 ∧ fy.length = 3 ∧ iC.length = 2 := by decide
 induction h with
 | var p n h hl => rw [sJ]; simp only [cN, aN, cd, bZ]; omega
 | bQ p n h hl => rw [sK]; simp only [cN, aN, cd, bZ]; omega
 | int p m h => rw [wM]; simp only [cN, aN, cd, bZ, List.length_cons, List.length_nil]; omega
 | hole p => rw [wO]; simp only [cN, aN, cd, bZ, List.length_cons, List.length_nil]; omega
 | lam p n b h hl hb ih =>
  rw [qT]
  simp only [bC, aN, cd, bZ, List.length_cons, List.length_append, List.length_nil, Nat.add_mul]
  omega
 | app p f a hf ha i1 i2 =>
  have h1 := aAA f
  have h2 := aAB a
  rw [pW]
  simp only [bC, aN, cd, bZ, List.length_cons, List.length_append, Nat.add_mul]
  omega
 | bind k p n a b hk h hl ha hb i1 i2 =>
  rcases hk with rfl | rfl
  ·rw [sL]
   simp only [bC, aN, cd, bZ, List.length_cons, List.length_append, List.length_nil, Nat.add_mul]
   omega
  ·rw [sN]
   simp only [bC, aN, cd, bZ, List.length_cons, List.length_append, List.length_nil, Nat.add_mul]
   omega
 | iY p e t he ht hs ih =>
  rw [sO]
  simp only [h_, aN, cd, bZ, List.length_cons, List.length_append, List.length_nil, Nat.add_mul]
  omega
 | held p e he ih =>
  rw [sP]
  simp only [bC, aN, cd, bZ, List.length_cons, List.length_append, List.length_nil, Nat.add_mul]
  omega
 | case p e az he hne hc ha ih iha =>
  have := aAD az (fun a h => aAC (hc a h).2.1 (fun v hv => ((hc a h).2.2 v hv).2) (iha a h))
  rw [sS]
  simp only [eS, aN, cd, List.length_cons, List.length_append, Nat.add_mul]
  omega
theorem PS : ∀ {vs : List Bytes} {v : Bytes}, v ∈ vs → v.length ≤ (eU vs).length
 | [], _, h => by cases h
 | w :: r, v, h => by
  simp only [eU, List.flatMap_cons, List.length_append, List.length_cons]
  rcases List.mem_cons.1 h with rfl | h
  ·omega
  ·have := PS h
   simp only [eU] at this
   omega
theorem PT : ∀ {az : List Ar} {a : Ar}, a ∈ az → (iO a).length ≤ (ig az).length
 | [], _, h => by cases h
 | b :: r, a, h => by
  simp only [ig, List.length_append, List.length_cons]
  rcases List.mem_cons.1 h with rfl | h
  ·omega
  ·have := PT h; omega
theorem PU {az : List Ar} {a : Ar} (h : a ∈ az) : (iO a).length ≤ (gI az).length := by
 cases az with
 | nil => cases h
 | cons b r =>
  simp only [gI, List.length_append]
  rcases List.mem_cons.1 h with rfl | h
  ·omega
  ·have := PT h; omega
theorem Ib (e : Ex) : (bL e).length ≤ (nu e).length := by unfold nu paren; split <;> simp; omega
theorem Ic (e : Ex) : (bL e).length ≤ (lE e).length := by unfold lE paren; split <;> simp; omega
theorem aAE {e : Ex} (h : eQ e) : (bL e).length ≤ 1000 → GE e := by
 induction h with
 | var p n h => intro hl; rw [sJ] at hl; exact .var p n h hl
 | bQ p n h => intro hl; rw [sK] at hl; exact .bQ p n h hl
 | int p m h => intro _; exact .int p m h
 | hole p => intro _; exact .hole p
 | lam p n b h hb ih =>
  intro hl
  rw [qT] at hl
  simp only [List.length_cons, List.length_append, List.length_nil] at hl
  exact .lam p n b h oM (ih oM)
 | app p f a hf ha i1 i2 =>
  intro hl
  have h1 := Ib f
  have h2 := Ic a
  rw [pW] at hl
  simp only [List.length_cons, List.length_append] at hl
  exact .app p f a (i1 oM) (i2 oM)
 | bind k p n a b hk h ha hb i1 i2 =>
  intro hl
  rcases hk with rfl | rfl
  ·rw [sL] at hl
   simp only [List.length_cons, List.length_append, List.length_nil] at hl
   exact .bind 6 p n a b (.inl rfl) h oM (i1 oM) (i2 oM)
  ·rw [sN] at hl
   simp only [List.length_cons, List.length_append, List.length_nil] at hl
   exact .bind 7 p n a b (.inr rfl) h oM (i1 oM) (i2 oM)
 | iY p e t he ht ih =>
  intro hl
  rw [sO] at hl
  simp only [List.length_cons, List.length_append, List.length_nil] at hl
  exact .iY p e t (ih oM) ht oM
 | held p e he ih =>
  intro hl
  rw [sP] at hl
  simp only [List.length_cons, List.length_append, List.length_nil] at hl
  exact .held p e (ih oM)
 | case p e az he hne hc ha ih iha =>
  intro hl
  rw [sS] at hl
  simp only [List.length_cons, List.length_append] at hl
  have hb : ∀ a ∈ az, a.bQ.length ≤ 1000 ∧ (∀ v ∈ a.vars, v.length ≤ 1000) ∧ (bL a.body).length ≤ 1000 := fun a h => by
   have := PU h
   obtain ⟨q, c, vs, b⟩ := a
   simp only [iO, List.length_append, List.length_cons] at this
   simp only [Ar.bQ, Ar.vars, Ar.body]
   exact ⟨oM, fun v hv => by have := PS hv; omega, oM⟩
  exact .case p e az (ih oM) hne (fun a h => ⟨(hc a h).1, (hb a h).1, fun v hv => ⟨(hc a h).2 v hv, (hb a h).2.1 v hv⟩⟩) (fun a h => iha a h (hb a h).2.2)
end Go.Th

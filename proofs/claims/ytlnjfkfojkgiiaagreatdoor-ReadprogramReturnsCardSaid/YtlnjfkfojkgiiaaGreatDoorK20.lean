/- The walk of readprogram's data. Printed by mkprj.py. -/
import Derived.Test.YtlnjfkfojkgiiaaGreatDoorK19
import Derived.Test.YtlnjfkfojkgiiaaGreatDoorK13
open Go Go.aZ Go.Th Go.Proofs Tryz
set_option maxRecDepth 10000
set_option maxHeartbeats 4000000
attribute [local irreducible] wpList Code.wp ah bodyPost Go.aZ.Ends Exit.then Exit.inBlock dJ Wq Kq
namespace Go.Proofs.YtlnjfkfojkgiiaaGreatDoor
def Xe (mk : RS → aA) (l : List Tok) (i : Nat) (r : Except Int (Da × Nat)) (v : Value) (g' : ab) (r' : aA) : Prop := match r with
 | .ok (d, j) => qD g' v d ∧ r' = mk (.ak j) ∧ i < j ∧ j ≤ l.length
 | .error p => (∃ d, qD g' v d) ∧ ∃ j, j ≤ l.length ∧ r' = mk (.bad j p)
theorem Xf {l : List Tok} {i : Nat} (h : i < l.length) : gH l i = kQ l[i] := by unfold gH; rw [eB h]
theorem Xg {l : List Tok} {i : Nat} (h : ¬ i < l.length) : gH l i = false := by unfold gH; rw [List.getElem?_eq_none oM]
theorem Xh {l : List Tok} {k : Nat} {t : Ty} {k' : Nat} (h : a_ l .atom k = .ok (t, k')) : k < k' := by
 rw [nV] at h
 split at h
 ·cases h
 ·split at h
  ·cases h; omega
  ·split at h
   ·cases h; omega
   ·split at h
    ·split at h
     ·cases h
     ·rename_i y j h1
      have := nU l _ _ _ _ (Nat.lt_succ_self _) h1
      simp only at this
      split at h
      ·cases h; omega
      ·cases h
    ·cases h
theorem Xi {l : List Tok} (hb : TB l) (bI : KW l) (g : ab) (hg : fN g) (lv : Value) (b i : Nat) (hs : cg g lv l) (Nz : cA l i eC = true) :
  cR prog 29 [ptr b 0, .agg #[.int .i64 (posOf l i), str [], .slice none 0 0, .slice none 0 0]] g (eI b lv (.ak (i + 1))) (Xe (eI b lv) l i (iL l i)) := by
 have dh := hb.1
 have hi := cF Nz
 have tj : dZ l i eC = cA l i eC := pM bI dC i
 obtain ⟨la, lc, rfl⟩ := aU hs
 refine aw func29 rfl ntmps29 rfl fun E hE => ?_
 refine aS ?_
 refine aP rfl rfl rfl (fun b3 => ?_)
 refine aj rfl (fun b2 => ?_)
 refine wz.a.c.b.z ?_
 obtain ⟨s1, aJ⟩ : ∃ s, s = RS.ak (i + 1) := ⟨_, rfl⟩
 rw [← aJ]
 replace aJ : s1 = RS.fi l eC (.ak i) := by rw [aJ, (kN (tj.trans Nz)).2.1]
 refine aG 2 rfl rfl rfl (A4 g l hb _ hs b s1 2) ?_
 rintro v g0 r' ⟨rfl, rfl, rfl⟩ _
 have v8 : s1.ok l := by rw [aJ]; exact RS.JD (s := .ak i) (Nat.le_of_lt hi)
 have mr : (s1.word l 2).ok l := RS.y_ v8
 refine wz.b.Ac.g.AP.z ?_
 refine cD (ι := RS × List Bytes × Value) (fun p => [(0, ptr b 0), (3, ptr b3 0), (4, ptr b2 0)]) (fun _ => g0)
  (fun p => [.row 9 1 p.2.2 p.2.1.length (p.2.1.map str), .ae b3 60 [.int .i64 (posOf l i), str (s1.text l 2), p.2.2, .slice none 0 0], .ae b2 60 [.int .i64 0, str [], .slice none 0 0, .slice none 0 0], eI b (.slice la l.length lc) p.1])
  (fun p => (∃ a m c, p.2.2 = .slice a m c) ∧ kO l (s1.word l 2) p.1 p.2.1 ∧ p.1.iK l 1 = false) ?_ ?_
 ·rintro ⟨s3, vs, vv⟩ ⟨⟨va, vm, vc, q1⟩, q2, q3⟩
  simp only at q1 q2 q3
  subst q1
  have hh := JG bI (Nat.le_of_lt hi) aJ q2 q3
  have uu : s3.ok l := q2.ok mr
  have nL := q2.len mr
  try dsimp only
  refine bg (fun g1 a8 lk => ?_)
  have cG := hg.mono a8
  have nN := hs.mono a8
  refine wz.a.c.z ?_
  refine aG 2 rfl rfl rfl (A3 g1 l hb bI _ nN b s3 (w := [61]) dC) ?_
  rintro v g1 r' ⟨rfl, rfl⟩ _
  generalize s3.fi l [61] = s4 at hh
  have hR : ∃ R : Except Int (List Cn × Nat), vX l R [] s4 ∧ (iL l i = match R with | .error p => .error p | .ok (cs, m) => .ok (⟨posOf l i, s1.text l 2, vs, cs⟩, m)) := by
   cases s4 with
   | bad j p => exact ⟨.error p, ⟨hh.1, rfl⟩, hh.2⟩
   | ak k => exact ⟨oT l [] k, ⟨hh.1, sM, rfl⟩, hh.2.2⟩
  obtain ⟨R, gA, jI⟩ := hR
  refine iV ?_
  refine cD (ι := RS × List Cn × Value × ab) (fun p => [(0, ptr b 0), (3, ptr b3 0), (4, ptr b2 0)]) (fun p => p.2.2.2)
   (fun p => [.ae b3 60 [.int .i64 (posOf l i), str (s1.text l 2), .slice va vm vc, p.2.2.1], .ae b2 60 [.int .i64 0, str [], .slice none 0 0, .slice none 0 0], eI b (.slice la l.length lc) p.1])
   (fun p => ab.le g1 p.2.2.2 ∧ (∃ xc, au p.2.2.2 3 p.2.2.1 p.2.1.length xc ∧ aL (kq p.2.2.2) p.2.1 xc) ∧ EG l R p.2.1 p.1) ?_ ?_
  ·rintro ⟨s, acc, sc, g2⟩ ⟨k1, ⟨xc, k2, k3⟩, k4⟩
   simp only at k1 k2 k3 k4
   obtain ⟨ca, cm, cc, rfl⟩ := au.form k2
   have bj := nN.mono k1
   try dsimp only
   have hV : qD g2 (.agg #[.int .i64 (posOf l i), str (s1.text l 2), .slice va vm vc, .slice ca cm cc]) ⟨posOf l i, s1.text l 2, vs, acc⟩ := ⟨_, rfl, _, _, xc, rfl, lk.mono k1, k2, k3⟩
   refine wz.a.c.z ?_
   refine aG 2 rfl rfl rfl (A3 g2 l hb bI _ bj b s (w := [59]) dC) ?_
   rintro v g3 r' ⟨rfl, rfl⟩ _
   refine wz.Bv.i.b.B.G.c.b.z ?_
   cases s with
   | bad j p =>
    obtain ⟨h1, h2⟩ := k4
    rw [h2] at jI
    rw [jI]
    exact ⟨⟨_, hV⟩, j, h1, rfl⟩
   | ak j =>
    obtain ⟨h1, h2⟩ := k4
    have hp : dZ l j [59] = bB l j [59] := lZ bI dC j
    cases hk : bB l j [59] with
    | true =>
     rw [hk] at h2
     simp only [if_true] at h2
     rw [h2] at jI
     simp only at jI
     have := v_ jI
     rw [(kN (hp.trans hk)).2.1, jI]
     exact ⟨hV, rfl, this.1, this.2⟩
    | false =>
     rw [hk] at h2
     simp only [Bool.false_eq_true, if_false] at h2
     rw [h2] at jI
     simp only at jI
     rw [(lY (hp.trans hk)).2, jI]
     exact ⟨⟨_, hV⟩, j, h1, rfl⟩
  ·intro K hK
   refine wz.a.c.z ?_
   refine eo 2 rfl rfl rfl (iF g1 _ b s4) ?_
   refine wz.p.b.a.z ?_; refine fW 62 3 ?_
   refine aX (ι := Bool × RS × List Cn × Value × List Value × ab) (fun p => [(0, ptr b 0), (3, ptr b3 0), (4, ptr b2 0), (5, .bool p.1)]) (fun p => p.2.2.2.2.2)
    (fun p => [.row 62 3 p.2.2.2.1 p.2.2.1.length p.2.2.2.2.1, .ae b3 60 [.int .i64 (posOf l i), str (s1.text l 2), .slice va vm vc, p.2.2.2.1], .ae b2 60 [.int .i64 0, str [], .slice none 0 0, .slice none 0 0], eI b (.slice la l.length lc) p.2.1])
    (fun p => ab.le g1 p.2.2.2.2.2 ∧ (∃ a m c, p.2.2.2.1 = .slice a m c) ∧ aL (kq p.2.2.2.2.2) p.2.2.1 p.2.2.2.2.1 ∧ (p.1 = true → vX l R p.2.2.1 p.2.1 ∧ p.2.1.EF = false) ∧ (p.1 = false → EG l R p.2.2.1 p.2.1))
    (fun p => if p.1 then 1 + p.2.1.left l else 0) (!s4.EF, s4, [], .slice none 0 0, [], g1) ⟨ab.le_refl _, ⟨_, _, _, rfl⟩, rfl, ?_, ?_⟩ ⟨rfl, rfl, rfl, rfl, trivial⟩ rfl rfl ?_
   ·intro h
    exact ⟨gA, by simpa using h⟩
   ·intro h
    cases s4 with
    | ak j => cases h
    | bad j p => exact gA
   rintro ⟨more, s, acc, sc, xc, g2⟩ ⟨k1, ⟨ca, cm, cc, k2⟩, k3, k4, k6⟩
   simp only at k1 k2 k3 k4 k6
   subst k2
   have bj := nN.mono k1
   have dy := cG.mono k1
   try dsimp only
   cases more with
   | false =>
    refine wz.d.D.m.m.C.o.b.a.c.e.z ?_
    refine bg (fun g3 d_ EI => ?_)
    exact hK (s, acc, .slice ca cm cc, g3) _ ⟨ab.le_trans k1 d_, ⟨xc, EI, rS d_ k3⟩, k6 rfl⟩ ⟨rfl, rfl, rfl, trivial⟩
   | true =>
    obtain ⟨k4, k7⟩ := k4 rfl
    cases s with
    | bad j p => cases k7
    | ak j =>
     have nO := JH k4
     obtain ⟨eK, SG, _⟩ := k4
     refine wz.a.c.p.e.d.j.t.b.a.c.e.z ?_
     refine eo 3 rfl rfl rfl (MO g2 l _ bj b (.ak j)) ?_
     rw [show iw l (RS.ak j).idx = posOf l j from rfl]
     refine wz.a.z ?_
     refine aG 3 rfl rfl rfl (A4 g2 l hb _ bj b (.ak j) 2) ?_
     rintro v fj r' ⟨rfl, rfl, rfl⟩ _
     obtain ⟨cn, pN⟩ : ∃ c, c = RS.text l 2 (.ak j) := ⟨_, rfl⟩
     rw [← pN] at nO ⊢
     refine wz.K.z ?_
     refine aj rfl (fun b6 => ?_)
     refine wz.b.Br.z ?_
     have we : (RS.word l 2 (.ak j)).ok l := RS.y_ (s := .ak j) eK
     have wg : ∀ k, RS.word l 2 (.ak j) = .ak k → k = j + 1 := by
      intro k hk
      cases h : dq l j 2 with
      | true => rw [(mZ h).2.1] at hk; cases hk; rfl
      | false => rw [(pL h).2.1] at hk; cases hk
     generalize RS.word l 2 (.ak j) = s5 at nO we wg
     refine cD (ι := RS × List Ty × Value × ab) (fun p => [(0, ptr b 0), (3, ptr b3 0), (4, ptr b2 0), (6, ptr b6 0)]) (fun p => p.2.2.2)
      (fun p => [.ae b6 62 [.int .i64 (posOf l j), str cn, p.2.2.1], .row 62 3 (.slice ca cm cc) acc.length xc, .ae b3 60 [.int .i64 (posOf l i), str (s1.text l 2), .slice va vm vc, .slice ca cm cc], .ae b2 60 [.int .i64 0, str [], .slice none 0 0, .slice none 0 0], eI b (.slice la l.length lc) p.1])
      (fun p => ab.le fj p.2.2.2 ∧ (∃ xf, au p.2.2.2 5 p.2.2.1 p.2.1.length xf ∧ aV p.2.2.2 p.2.1 xf) ∧ (match p.1 with
       | .ak k => k ≤ l.length ∧ j < k ∧ R = vY l acc (posOf l j) cn (bJ cn p.2.1) k
       | .bad j' p' => j' ≤ l.length ∧ R = .error p')) ?_ ?_
     ·rintro ⟨s6, fs, sf, g3⟩ ⟨m1, ⟨xf, m2, m3⟩, m4⟩
      simp only at m1 m2 m3 m4
      obtain ⟨fa, fm, fc, rfl⟩ := au.form m2
      have bY := bj.mono m1
      try dsimp only
      have rT := JI (p := posOf l j) (c := cn) (rS m1 k3) m2 m3
      refine wz.G.Ag.g.r.z ?_
      refine bu rfl rfl rL rL rL rL rL (fun fX => ?_)
      refine cV 2 0 rfl rfl rfl rfl rfl rL rL rfl mL oM (fun v' eD => ?_)
      refine gT 2 rfl ?_
      rintro ⟨ya, ym, yc, rfl⟩
      refine wz.a.r.d.y.N.Ah.g.BN.z ?_
      refine aG 3 rfl rfl rfl (Gf g3 l hb bI _ bY b s6 (w := [124]) dC) ?_
      rintro v g4 r' ⟨rfl, rfl, rfl⟩ _
      cases s6 with
      | bad j' p' =>
       obtain ⟨h1, h2⟩ := m4
       refine wz.b.a.z ?_
       refine aM (false, .bad j' p', acc ++ [⟨posOf l j, cn, fs⟩], .slice ya ym yc, _, g4) ⟨ab.le_trans k1 m1, ⟨_, _, _, rfl⟩, rT, (fun h => by cases h), fun _ => ⟨h1, h2⟩⟩ (by show 0 < 1 + RS.left l (RS.ak j); omega) ⟨rfl, rfl, rfl, rfl, trivial⟩ rfl ?_
       simp [dO, RS.skip]
      | ak k =>
       obtain ⟨h1, iW, h2⟩ := m4
       have hp : dZ l k [124] = bB l k [124] := lZ bI dC k
       rw [show RS.fV l [124] (.ak k) = bB l k [124] from hp]
       unfold vY at h2
       cases hk : bB l k [124] with
       | true =>
        have hlt := cF hk
        rw [hk] at h2
        simp only [if_true] at h2
        rw [(kN (hp.trans hk)).1]
        refine wz.b.a.z ?_
        refine aM (true, .ak (k + 1), acc ++ [⟨posOf l j, cn, fs⟩], .slice ya ym yc, _, g4) ⟨ab.le_trans k1 m1, ⟨_, _, _, rfl⟩, rT, fun _ => ⟨⟨hlt, by simp only [List.length_append, List.length_cons, List.length_nil]; omega, h2⟩, rfl⟩, (fun h => by cases h)⟩ (by simp only [RS.left, if_true]; omega) ⟨rfl, rfl, rfl, rfl, trivial⟩ rfl ?_
        simp [dO]
       | false =>
        rw [hk] at h2
        simp only [Bool.false_eq_true, if_false] at h2
        rw [(lY (hp.trans hk)).1]
        refine wz.b.a.z ?_
        refine aM (false, .ak k, acc ++ [⟨posOf l j, cn, fs⟩], .slice ya ym yc, _, g4) ⟨ab.le_trans k1 m1, ⟨_, _, _, rfl⟩, rT, (fun h => by cases h), fun _ => ⟨h1, h2⟩⟩ (by show 0 < 1 + RS.left l (RS.ak j); omega) ⟨rfl, rfl, rfl, rfl, trivial⟩ rfl ?_
        simp [dO]
     ·intro K2 jn
      refine wz.AD.p.z ?_
      refine aX (ι := RS × List Ty × Value × List Value × ab) (fun p => [(0, ptr b 0), (3, ptr b3 0), (4, ptr b2 0), (6, ptr b6 0)]) (fun p => p.2.2.2.2)
       (fun p => [.row 41 5 p.2.2.1 p.2.1.length p.2.2.2.1, .ae b6 62 [.int .i64 (posOf l j), str cn, p.2.2.1], .row 62 3 (.slice ca cm cc) acc.length xc, .ae b3 60 [.int .i64 (posOf l i), str (s1.text l 2), .slice va vm vc, .slice ca cm cc], .ae b2 60 [.int .i64 0, str [], .slice none 0 0, .slice none 0 0], eI b (.slice la l.length lc) p.1])
       (fun p => ab.le fj p.2.2.2.2 ∧ (∃ a m c, p.2.2.1 = .slice a m c) ∧ aV p.2.2.2.2 p.2.1 p.2.2.2.1 ∧ vZ l R acc (posOf l j) cn acc.length p.2.1 p.1 ∧ p.2.1.length ≤ l.length ∧ (∀ k, p.1 = .ak k → j < k))
       (fun p => p.1.left l) (s5, [], .slice none 0 0, [], fj) ⟨ab.le_refl _, ⟨_, _, _, rfl⟩, cQ _, nO, sM, fun k hk => by have := wg k hk; omega⟩ ⟨rfl, rfl, rfl, rfl, trivial⟩ rfl rfl ?_
      rintro ⟨s6, fs, sf, xf, g3⟩ ⟨m1, ⟨fa, fm, fc, m2⟩, m3, m4, m5, m6⟩
      simp only at m1 m2 m3 m4 m5 m6
      subst m2
      have bY := bj.mono m1
      have d_ := dy.mono m1
      try dsimp only
      cases s6 with
      | bad j' p' =>
       obtain ⟨h1, h2⟩ := m4
       refine wz.s.Ab.e.e.z ?_
       refine q_ 5 rfl rfl rfl (iF g3 _ b (.bad j' p')) ?_
       refine wz.d.D.m.m.C.o.d.T.s.n.n.n.n.n.n.n.n.n.n.n.s.s.n.n.n.n.n.n.n.n.n.n.s.z ?_
       refine bg (fun g4 eW nP => ?_)
       exact jn (.bad j' p', fs, .slice fa fm fc, g4) _ ⟨ab.le_trans m1 eW, ⟨xf, nP, m3.mono eW⟩, h1, h2⟩ ⟨rfl, rfl, rfl, rfl, trivial⟩
      | ak k =>
       obtain ⟨h1, iW, h2⟩ := m4
       have fK := m6 k rfl
       rw [nQ] at h2
       refine wz.s.Ab.e.e.z ?_
       refine q_ 5 rfl rfl rfl (iF g3 _ b (.ak k)) ?_
       refine wz.s.s.L.BR.H.CI.H.J.H.L.L.CI.H.J.H.L.L.s.z ?_
       by_cases B2 : k < l.length
       ·rw [Xf B2] at h2
        refine lC rfl rfl (fun _ => ?_) (fun h => absurd oM h)
        obtain ⟨b0, off, cap, aq, hx⟩ := bY.held B2
        cases aq
        refine wz.H.Aj.H.CI.H.J.H.L.L.CI.H.J.H.L.L.z ?_
        refine bR rfl (dL (vs := jM l[k]) rfl (qX hx B2) rfl) ?_
        refine wz.H.z ?_
        refine iy rfl rfl (Gs g3 l[k]) ?_
        cases bG : kQ l[k] with
        | false =>
         rw [bG] at h2
         simp only [Bool.false_eq_true, if_false] at h2
         refine wz.d.D.m.m.C.o.d.T.s.z ?_
         refine bg (fun g4 eW nP => ?_)
         exact jn (.ak k, fs, .slice fa fm fc, g4) _ ⟨ab.le_trans m1 eW, ⟨xf, nP, m3.mono eW⟩, h1, fK, h2⟩ ⟨rfl, rfl, rfl, rfl, trivial⟩
        | true =>
         rw [bG] at h2
         simp only [if_true] at h2
         have B3 : ∀ t k', a_ l .atom k = .ok (t, k') → k < k' := fun t k' h => Xh h
         have re : ∀ t k', a_ l .atom k = .ok (t, k') → k' ≤ l.length := fun t k' h => xj l .atom k t k' h1 h
         refine wz.p.d.j.t.d.T.s.z ?_
         refine cD (ι := ab × Value × Nat × Nat) (fun p => [(0, ptr b 0), (3, ptr b3 0), (4, ptr b2 0), (6, ptr b6 0), (7, ptr p.2.2.1 0), (8, .int .i64 (sW (a_ l .atom k))), (9, ptr p.2.2.2 0)]) (fun p => p.1)
          (fun p => [.ae p.2.2.2 33 [.int .i64 (sX (a_ l .atom k)), .int .i64 (sY (a_ l .atom k))], .ae p.2.2.1 41 (aH (mb (a_ l .atom k)) p.2.1), .row 41 5 (.slice fa fm fc) fs.length xf, .ae b6 62 [.int .i64 (posOf l j), str cn, .slice fa fm fc], .row 62 3 (.slice ca cm cc) acc.length xc, .ae b3 60 [.int .i64 (posOf l i), str (s1.text l 2), .slice va vm vc, .slice ca cm cc], .ae b2 60 [.int .i64 0, str [], .slice none 0 0, .slice none 0 0], eI b (.slice (some ⟨b0, off, none⟩) l.length lc) (.ak k)])
          (fun p => ab.le g3 p.1 ∧ (∃ a m c, p.2.1 = .slice a m c) ∧ bx p.1 (mb (a_ l .atom k)) (aH (mb (a_ l .atom k)) p.2.1)) ?_ ?_
         ·rintro ⟨g4, sv, b7, b9⟩ ⟨n1, ⟨ta, tm, tc, n2⟩, n3⟩
          simp only at n1 n2 n3
          subst n2
          have eG := bY.mono n1
          generalize a_ l .atom k = q at h2 re B3 n3
          try dsimp only
          have Xj : ∃ s7, sW q = s7.idx ∧ sX q = s7.MK ∧ sY q = s7.ML ∧ vZ l R acc (posOf l j) cn acc.length (fs ++ [mb q]) s7 ∧ (∀ k', s7 = .ak k' → k < k') := by
           cases q with
           | error p => exact ⟨.bad 0 p, rfl, rfl, rfl, ⟨Nat.zero_le _, h2⟩, fun k' h => by cases h⟩
           | ok q =>
            obtain ⟨t, k'⟩ := q
            have h4 := re t k' rfl
            simp only at h2
            by_cases h3 : k < k'
            ·rw [if_pos h3] at h2
             exact ⟨.ak k', rfl, rfl, rfl, ⟨h4, by simp only [List.length_append, List.length_cons, List.length_nil]; omega, h2⟩, fun SJ h => by cases h; exact h3⟩
            ·exact absurd (B3 t k' rfl) h3
          obtain ⟨s7, e1, e2, e3, wj, rU⟩ := Xj
          rw [e1, e2, e3]
          refine wz.G.a.a.c.z ?_
          refine aG 7 rfl rfl rfl (xi g4 l _ eG b (.ak k) s7) ?_
          rintro v Xk r' ⟨rfl, rfl⟩ _
          refine wz.O.AN.g.r.b.z ?_
          refine bu rfl rfl rL rL rL rL rL (fun fX => ?_)
          refine cV 3 0 rfl rfl rfl rfl rfl rL rL rfl mL oM (fun v' eD => ?_)
          refine gT 3 rfl ?_
          rintro ⟨ya, ym, yc, rfl⟩
          refine fF (own' := [_, _, _, _, _, _]) sC ?_; refine wz.d.y.N.Ah.g.z ?_
          refine aM (s7, fs ++ [mb q], .slice ya ym yc, xf ++ aH (mb q) (.slice ta tm tc), Xk) ⟨ab.le_trans m1 n1, ⟨_, _, _, rfl⟩, aV.snoc n3 (m3.mono n1), wj, ?_, fun k' h => Nat.lt_trans fK (rU k' h)⟩ ?_ ⟨rfl, rfl, rfl, rfl, trivial⟩ rfl ?_
          ·simp only [List.length_append, List.length_cons, List.length_nil]; omega
          ·cases s7 with
           | bad j' p => simp only [RS.left]; omega
           | ak k' =>
            have := rU k' rfl
            have h9 : k' ≤ l.length := wj.1
            simp only [RS.left]; omega
          ·simp [aH, dO]
         ·intro K3 vg
          skip
          refine bO [] mixed (fun hG => ?_)
          refine wz.P.z ?_; refine ⟨_, (ag rfl), ?_⟩; refine wz.R.z ?_; refine ⟨_, (ag rfl), ?_⟩; refine wz.S.z ?_; refine ⟨_, (aI rfl), ?_⟩; refine wz.X.z ?_; refine ⟨_, (a7 5 rfl rfl rfl), ?_⟩; refine wz.Z.z ?_; refine ⟨_, (ag rfl), ?_⟩; refine wz.Ad.z ?_; refine ⟨_, (ag rfl), ?_⟩; refine wz.Ak.z ?_; refine ⟨_, (aI rfl), ?_⟩; refine wz.Aa.z ?_; refine ⟨_, (a7 5 rfl rfl rfl), ?_⟩
          refine qY 8 13 14 kR rfl rfl rfl ?_ ?_ ?_
          ·refine aB rfl rfl (xu hb g3 d_ _ (k : Int) bY) ?_
           rintro w g4 cM aR
           rw [jz h1] at cM
           obtain ⟨tv, rfl, cO⟩ := cM
           obtain ⟨ta, tm, tc, rfl, ht⟩ := cO.bA
           refine wz.Av.f.b.z ?_; refine ⟨_, (ag rfl), ?_⟩; refine wz.Al.z ?_; refine ⟨_, (ag rfl), ?_⟩; refine wz.As.z ?_; refine ⟨_, (ag rfl), ?_⟩; refine wz.Az.z ?_; refine ⟨_, (ag rfl), ?_⟩
           refine eH 13 14 kR rfl rfl ?_ ?_
           ·refine aj rfl (fun b7 => ?_)
            refine wz.AO.f.b.z ?_
            refine aj rfl (fun b9 => ?_)
            refine wz.AB.f.b.B.At.f.b.z ?_; refine ⟨_, (ag rfl), ?_⟩
            refine wz.d.F.f.b.q.AG.z ?_
            exact vg (g4, .slice ta tm tc, b7, b9) _ ⟨aR, ⟨_, _, _, rfl⟩, ht⟩ ⟨rfl, rfl, rfl, rfl, rfl, rfl, rfl, trivial⟩
           ·refine aj rfl (fun b9 => ?_)
            refine wz.AJ.f.b.z ?_
            refine aj rfl (fun b7 => ?_)
            refine wz.AB.f.b.q.At.f.b.z ?_; refine ⟨_, (ag rfl), ?_⟩
            refine wz.d.AP.F.f.b.B.AG.z ?_
            exact vg (g4, .slice ta tm tc, b7, b9) _ ⟨aR, ⟨_, _, _, rfl⟩, ht⟩ ⟨rfl, rfl, rfl, rfl, rfl, rfl, rfl, trivial⟩
          ·refine aj rfl (fun b7 => ?_)
           refine wz.f.b.z ?_
           refine eH 8 14 kR rfl rfl ?_ ?_
           ·refine aB rfl rfl (xu hb g3 d_ _ (k : Int) bY) ?_
            rintro w g4 cM aR
            rw [jz h1] at cM
            obtain ⟨tv, rfl, cO⟩ := cM
            obtain ⟨ta, tm, tc, rfl, ht⟩ := cO.bA
            refine wz.Av.f.b.z ?_; refine ⟨_, (ag rfl), ?_⟩; refine wz.Al.z ?_; refine ⟨_, (ag rfl), ?_⟩; refine wz.As.z ?_; refine ⟨_, (ag rfl), ?_⟩; refine wz.Az.z ?_; refine ⟨_, (ag rfl), ?_⟩
            refine wz.AO.z ?_
            refine aj rfl (fun b9 => ?_)
            refine wz.AB.f.b.B.At.f.b.z ?_; refine ⟨_, (ag rfl), ?_⟩
            refine wz.d.F.f.b.q.AG.z ?_
            exact vg (g4, .slice ta tm tc, b7, b9) _ ⟨aR, ⟨_, _, _, rfl⟩, ht⟩ ⟨rfl, rfl, rfl, rfl, rfl, rfl, rfl, trivial⟩
           ·refine aj rfl (fun b9 => ?_)
            refine wz.Ae.f.b.z ?_
            refine aB rfl rfl (xu hb g3 d_ _ (k : Int) bY) ?_
            rintro w g4 cM aR
            rw [jz h1] at cM
            obtain ⟨tv, rfl, cO⟩ := cM
            obtain ⟨ta, tm, tc, rfl, ht⟩ := cO.bA
            refine wz.Av.f.b.z ?_; refine ⟨_, (ag rfl), ?_⟩; refine wz.Al.z ?_; refine ⟨_, (ag rfl), ?_⟩; refine wz.As.z ?_; refine ⟨_, (ag rfl), ?_⟩; refine wz.Az.z ?_; refine ⟨_, (ag rfl), ?_⟩
            refine wz.AB.f.b.B.At.z ?_; refine ⟨_, (ag rfl), ?_⟩
            refine wz.d.F.f.b.q.AG.z ?_
            exact vg (g4, .slice ta tm tc, b7, b9) _ ⟨aR, ⟨_, _, _, rfl⟩, ht⟩ ⟨rfl, rfl, rfl, rfl, rfl, rfl, rfl, trivial⟩
          ·refine aj rfl (fun b9 => ?_)
           refine wz.f.b.z ?_
           refine eH 8 13 kR rfl rfl ?_ ?_
           ·refine aB rfl rfl (xu hb g3 d_ _ (k : Int) bY) ?_
            rintro w g4 cM aR
            rw [jz h1] at cM
            obtain ⟨tv, rfl, cO⟩ := cM
            obtain ⟨ta, tm, tc, rfl, ht⟩ := cO.bA
            refine wz.Av.f.b.z ?_; refine ⟨_, (ag rfl), ?_⟩; refine wz.Al.z ?_; refine ⟨_, (ag rfl), ?_⟩; refine wz.As.z ?_; refine ⟨_, (ag rfl), ?_⟩; refine wz.Az.z ?_; refine ⟨_, (ag rfl), ?_⟩
            refine wz.AJ.z ?_
            refine aj rfl (fun b7 => ?_)
            refine wz.AB.f.b.q.At.f.b.z ?_; refine ⟨_, (ag rfl), ?_⟩
            refine wz.d.AP.F.f.b.B.AG.z ?_
            exact vg (g4, .slice ta tm tc, b7, b9) _ ⟨aR, ⟨_, _, _, rfl⟩, ht⟩ ⟨rfl, rfl, rfl, rfl, rfl, rfl, rfl, trivial⟩
           ·refine aj rfl (fun b7 => ?_)
            refine wz.Ae.f.b.z ?_
            refine aB rfl rfl (xu hb g3 d_ _ (k : Int) bY) ?_
            rintro w g4 cM aR
            rw [jz h1] at cM
            obtain ⟨tv, rfl, cO⟩ := cM
            obtain ⟨ta, tm, tc, rfl, ht⟩ := cO.bA
            refine wz.Av.f.b.z ?_; refine ⟨_, (ag rfl), ?_⟩; refine wz.Al.z ?_; refine ⟨_, (ag rfl), ?_⟩; refine wz.As.z ?_; refine ⟨_, (ag rfl), ?_⟩; refine wz.Az.z ?_; refine ⟨_, (ag rfl), ?_⟩
            refine wz.AB.f.b.q.At.z ?_; refine ⟨_, (ag rfl), ?_⟩
            refine wz.d.AP.F.f.b.B.AG.z ?_
            exact vg (g4, .slice ta tm tc, b7, b9) _ ⟨aR, ⟨_, _, _, rfl⟩, ht⟩ ⟨rfl, rfl, rfl, rfl, rfl, rfl, rfl, trivial⟩
       ·have xz := Xg B2
        rw [xz] at h2
        simp only [Bool.false_eq_true, if_false] at h2
        refine lC rfl rfl (fun h => absurd h oM) (fun _ => ?_)
        refine wz.d.D.m.m.C.o.d.T.s.n.n.n.n.n.n.n.n.n.n.n.z ?_
        refine bg (fun g4 eW nP => ?_)
        exact jn (.ak k, fs, .slice fa fm fc, g4) _ ⟨ab.le_trans m1 eW, ⟨xf, nP, m3.mono eW⟩, h1, fK, h2⟩ ⟨rfl, rfl, rfl, rfl, trivial⟩
 ·intro K hK
  refine wz.BG.p.z ?_
  refine aX (ι := RS × List Bytes × Value) (fun p => [(0, ptr b 0), (3, ptr b3 0), (4, ptr b2 0)]) (fun _ => g0)
   (fun p => [.row 9 1 p.2.2 p.2.1.length (p.2.1.map str), .ae b3 60 [.int .i64 (posOf l i), str (s1.text l 2), p.2.2, .slice none 0 0], .ae b2 60 [.int .i64 0, str [], .slice none 0 0, .slice none 0 0], eI b (.slice la l.length lc) p.1])
   (fun p => (∃ a m c, p.2.2 = .slice a m c) ∧ kO l (s1.word l 2) p.1 p.2.1) (fun p => p.1.left l) (s1.word l 2, [], .slice none 0 0) ⟨⟨_, _, _, rfl⟩, kO.start mr⟩ ⟨rfl, rfl, rfl, trivial⟩ rfl rfl ?_
  rintro ⟨s3, vs, vv⟩ ⟨⟨va, vm, vc, q1⟩, q2⟩
  simp only at q1 q2
  subst q1
  have uu : s3.ok l := q2.ok mr
  have nL := q2.len mr
  try dsimp only
  cases s3 with
  | bad j p =>
   refine wz.s.Ab.e.e.z ?_
   refine q_ 3 rfl rfl rfl (iF g0 _ b (.bad j p)) ?_
   refine wz.d.D.m.m.C.o.d.T.s.n.n.n.n.n.n.n.n.n.n.n.n.s.s.n.n.n.n.n.n.n.n.n.n.s.z ?_
   exact hK (.bad j p, vs, .slice va vm vc) _ ⟨⟨_, _, _, rfl⟩, q2, rfl⟩ ⟨rfl, rfl, rfl, trivial⟩
  | ak k =>
   have hstp : dq l k 1 = false → RS.iK l 1 (.ak k) = false := fun h => h
   refine wz.s.Ab.e.e.z ?_
   refine q_ 3 rfl rfl rfl (iF g0 _ b (.ak k)) ?_
   refine wz.s.s.L.BR.H.CJ.H.J.H.L.L.CJ.H.J.H.L.L.s.z ?_
   refine lC rfl rfl (fun hlt => ?_) (fun hlt => ?_)
   ·have af : k < l.length := by omega
    have hk := MQ af 1
    obtain ⟨b0, off, cap, aq, hx⟩ := hs.held af
    cases aq
    refine wz.H.J.H.Aj.H.CJ.H.J.H.L.L.CJ.H.J.H.L.L.z ?_
    refine bR rfl (cU rfl (au.cell eP hx af 0 rfl)) ?_
    refine wz.d.T.s.L.z ?_
    refine an rfl (fun gW => ?_) (fun gW => ?_)
    ·have c_ : dq l k 1 = true := by rw [hk]; simp [gW]
     have EJ := q2.next (s := .ak k) c_
     have rW : ((RS.ak k).word l 1).left l < (RS.ak k).left l := by
      obtain ⟨_, e, dk⟩ := mZ c_
      rw [e]
      simp only [RS.left]; omega
     refine wz.p.d.j.z ?_
     refine fQ 6 [3, 0] mixed kR (fun hG => ?_)
     refine wz.Ar.z ?_; refine ⟨_, (aI rfl), ?_⟩; refine wz.Ax.z ?_; refine ⟨_, (a7 0 rfl rfl rfl), ?_⟩; refine wz.Ay.z ?_; refine ⟨_, (ag rfl), ?_⟩
     refine wz.BM.z ?_
     refine aG 3 rfl rfl rfl (A4 g0 l hb _ hs b (.ak k) 1) ?_
     rintro v g4 r' ⟨rfl, rfl, rfl⟩ _
     refine wz.By.f.b.z ?_
     refine bu rfl rfl rL rL rL rL rL (fun fX => ?_)
     refine wz.Bn.f.b.z ?_
     refine cV 1 0 rfl rfl rfl rfl rfl rL rL rfl mL oM (fun v' eD => ?_)
     refine gT 1 rfl ?_
     rintro ⟨ya, ym, yc, rfl⟩
     refine wz.Bb.d.y.N.Bj.g.Am.f.b.z ?_
     refine aM ((RS.ak k).word l 1, vs ++ [(RS.ak k).text l 1], .slice ya ym yc) ⟨⟨_, _, _, rfl⟩, EJ⟩ rW ⟨rfl, rfl, rfl, trivial⟩ rfl ?_
     simp [dO]
    ·refine wz.d.D.m.m.C.z ?_
     exact hK (.ak k, vs, .slice va vm vc) _ ⟨⟨_, _, _, rfl⟩, q2, hstp (by rw [hk]; simp [gW])⟩ ⟨rfl, rfl, rfl, trivial⟩
   ·refine wz.d.D.m.m.C.o.d.T.s.n.n.n.n.n.n.n.n.n.n.n.n.z ?_
    exact hK (.ak k, vs, .slice va vm vc) _ ⟨⟨_, _, _, rfl⟩, q2, hstp (MR oM 1)⟩ ⟨rfl, rfl, rfl, trivial⟩
theorem Xl (g : ab) (lv : Value) (b i : Nat) (e p : Int) : lB prog 32 [ptr b 0] g (.ae b 74 [lv, .int .i64 i, .int .i64 e, .int .i64 p]) (.bool (decide (e = 0))) := by
 refine aw func32 rfl ntmps32 rfl fun E hE => ?_
 refine wz.i.b.a.a.v.g.g.a.a.c.b.a.c.z ?_
 exact ao [_] rfl rfl sR ⟨rfl, rfl, rfl⟩
def vh (b b6 b7 : Nat) (lv : Value) (p : Pg) (sd : Value) (xd : List Value) (sb : Value) (xb : List Value) (s : RS) : List aA :=
 [.row 60 4 sd p.al.length xd, eI b lv s, .row 49 20 sb p.binds.length xb, .ae b7 28 [sd, sb], .ae b6 72 [ptr b 0]]
theorem Xm {l : List Tok} (hb : TB l) (bI : KW l) (g : ab) (hg : fN g) (lv : Value) (b b6 b7 i : Nat) (hs : cg g lv l) (hi : i < l.length) (R : Except Int Pg) (p : Pg) (da : Option Addr) (dm dc : Nat) (xd : List Value) (ba : Option Addr) (bm bc : Nat) (xb : List Value)
  (k4 : aL (gC g) p.al xd) (k5 : aL (iQ g) p.binds xb) (k6 : mf l R p (.ak i)) :
  aZ.Spec prog 26 [ptr b6 0, ptr b7 0] g (vh b b6 b7 lv p (.slice da dm dc) xd (.slice ba bm bc) xb (.ak i)) fun _ g' own' =>
   ∃ (p' : Pg) (vj vk : Value) (vl vn : List Value) (s' : RS), own' = vh b b6 b7 lv p' vj vl vk vn s' ∧ (∃ a m c, vj = .slice a m c) ∧ (∃ a m c, vk = .slice a m c) ∧ aL (gC g') p'.al vl ∧ aL (iQ g') p'.binds vn ∧ mf l R p' s' ∧ s'.left l < (RS.ak i).left l := by
 have dh := hb.1
 obtain ⟨la, lc, rfl⟩ := aU hs
 obtain ⟨_, l8, tw, _⟩ := id k6
 have Gt : dZ l i eC = cA l i eC := pM bI dC i
 have lr : dZ l i dI = cA l i dI := pM bI dC i
 unfold vh
 refine aw func26 rfl ntmps26 rfl fun E hE => ?_
 refine wz.Bm.c.z ?_
 refine eo 1 rfl rfl rfl (MO g l _ hs b (.ak i)) ?_
 rw [show iw l (RS.ak i).idx = posOf l i from rfl]
 refine wz.Bm.c.p.b.a.z ?_
 refine aG 1 rfl rfl rfl (Gg g l hb bI _ hs b (.ak i) (w := eC) dC) ?_
 rintro v g1 r' ⟨rfl, rfl, rfl⟩ _
 rw [show RS.fV l eC (.ak i) = cA l i eC from Gt]
 cases hw : cA l i eC with
 | true =>
  obtain ⟨pe, po⟩ := k6.data hw
  rw [(kN (Gt.trans hw)).1]
  refine wz.t.b.a.z ?_
  refine fQ 8 [1, 0] mixed kR (fun hG => ?_)
  refine wz.Ar.z ?_; refine ⟨_, (aI rfl), ?_⟩; refine wz.Ax.z ?_; refine ⟨_, (a7 1 rfl rfl rfl), ?_⟩; refine wz.Ay.z ?_; refine ⟨_, (a7 2 rfl rfl rfl), ?_⟩; refine wz.AS.z ?_; refine ⟨_, (ag rfl), ?_⟩; refine wz.AT.z ?_; refine ⟨_, (et rfl rL), ?_⟩
  refine wz.Bn.z ?_
  refine aG 1 rfl rfl rfl (Xi hb bI g1 hg _ b i hs hw) ?_
  rintro w g3 r' l5 aF
  have bG : ∃ (d : Da) (ot : RS), qD g3 w d ∧ r' = eI b (.slice la l.length lc) ot ∧ mf l R ⟨p.al ++ [d], p.binds⟩ ot ∧ (ot.left l < (RS.ak i).left l) := by
   cases hq : iL l i with
   | error q =>
    rw [hq] at l5
    obtain ⟨⟨d, hd⟩, j', dr, rfl⟩ := l5
    exact ⟨d, .bad j' q, hd, rfl, pe q hq j' dr _, by simp [RS.left]⟩
   | ok x =>
    obtain ⟨d, j⟩ := x
    rw [hq] at l5
    obtain ⟨hd, rfl, ky, eK⟩ := l5
    exact ⟨d, .ak j, hd, rfl, po d j hq, by simp only [RS.left]; omega⟩
  obtain ⟨d, ot, ⟨cs, rfl, qL⟩, rfl, vo, rW⟩ := bG
  obtain ⟨a1, c1, a2, c2, xc, rfl, _⟩ := qL.form
  refine wz.Cd.f.b.z ?_
  refine bu rfl rfl rL rL rL rL rL (fun Kr => ?_)
  refine wz.BK.f.b.z ?_
  refine cV 1 0 rfl rfl rfl rfl rfl rL rL rfl mL oM (fun v' eD => ?_)
  refine gT 1 rfl ?_
  rintro ⟨ya, ym, yc, rfl⟩
  refine wz.AX.y.N.Bl.g.BB.Am.f.b.z ?_
  refine iR [_, _, _, _, _] rfl sR ⟨⟨p.al ++ [d], p.binds⟩, .slice ya ym yc, .slice ba bm bc, _, xb, ot, ?_, ⟨_, _, _, rfl⟩, ⟨_, _, _, rfl⟩, E9 (ng aF k4) qL, ql aF k5, vo, rW⟩
  simp [dO, vh]
 | false =>
  obtain ⟨pe, po⟩ := k6.bind hi hw
  rw [(lY (Gt.trans hw)).1]
  refine wz.Bm.c.o.b.a.z ?_
  refine aG 1 rfl rfl rfl (Gg g1 l hb bI _ hs b (.ak i) (w := dI) dC) ?_
  rintro v g2 r' ⟨rfl, rfl, rfl⟩ _
  rw [show RS.fV l dI (.ak i) = cA l i dI from lr]
  cases jq : cA l i dI with
  | true =>
   rw [(kN (lr.trans jq)).1]
   refine wz.t.b.a.z ?_
   refine fQ 8 [2, 1] mixed kR (fun hG => ?_)
   refine wz.Ar.z ?_; refine ⟨_, (aI rfl), ?_⟩; refine wz.Ax.z ?_; refine ⟨_, (a7 1 rfl rfl rfl), ?_⟩; refine wz.Ay.z ?_; refine ⟨_, (a7 2 rfl rfl rfl), ?_⟩; refine wz.AS.z ?_; refine ⟨_, (ag rfl), ?_⟩; refine wz.AT.z ?_; refine ⟨_, (et rfl rL), ?_⟩
   refine wz.Bn.z ?_
   refine aG 1 rfl rfl rfl (Wp hb bI g2 hg _ b i hs jq) ?_
   rintro w g3 r' l5 aF
   have bG : ∃ (d : Bi) (ot : RS), xg g3 w d ∧ r' = eI b (.slice la l.length lc) ot ∧ mf l R ⟨p.al, p.binds ++ [d]⟩ ot ∧ (ot.left l < (RS.ak i).left l) := by
    cases hq : jo l i with
    | error q =>
     rw [hq] at l5
     obtain ⟨⟨d, hd⟩, j', dr, rfl⟩ := l5
     exact ⟨d, .bad j' q, hd, rfl, pe q hq j' dr _, by simp [RS.left]⟩
    | ok x =>
     obtain ⟨d, j⟩ := x
     rw [hq] at l5
     obtain ⟨hd, rfl, ky, eK⟩ := l5
     exact ⟨d, .ak j, hd, rfl, po d j hq, by simp only [RS.left]; omega⟩
   obtain ⟨d, ot, ⟨cs, rfl, qL⟩, rfl, vo, rW⟩ := bG
   obtain ⟨y1, y2, y3, y4, y5, y6, y7, y8, y9, tf, tg, th, rfl, _⟩ := qL.form
   refine wz.Cd.f.b.z ?_
   refine bu rfl rfl rL rL rL rL rL (fun Kr => ?_)
   refine wz.BK.f.b.z ?_
   refine cV 3 0 rfl rfl rfl rfl rfl rL rL rfl mL oM (fun v' eD => ?_)
   refine gT 3 rfl ?_
   rintro ⟨ya, ym, yc, rfl⟩
   refine wz.AX.y.N.Bl.g.BB.Am.f.b.z ?_
   refine iR [_, _, _, _, _] rfl sR ⟨⟨p.al, p.binds ++ [d]⟩, .slice da dm dc, .slice ya ym yc, xd, _, ot, ?_, ⟨_, _, _, rfl⟩, ⟨_, _, _, rfl⟩, ng aF k4, WA (ql aF k5) qL, vo, rW⟩
   simp [dO, vh]
  | false =>
   have he : jo l i = .error (bH l i) := by unfold jo; rw [jq]; rfl
   rw [(lY (lr.trans jq)).1]
   refine wz.Bm.r.o.b.a.z ?_
   refine aG 1 rfl rfl rfl (uV g2 l hb _ hs b (.ak i)) ?_
   rintro v g3 r' ⟨rfl, rfl⟩ _
   refine wz.AX.y.N.z ?_
   exact iR [_, _, _, _, _] rfl sR ⟨p, .slice da dm dc, .slice ba bm bc, xd, xb, .bad i (bH l i), rfl, ⟨_, _, _, rfl⟩, ⟨_, _, _, rfl⟩, k4, k5, pe _ he i oM _, by simp [RS.left]⟩
theorem Gu (g : ab) (hg : fN g) (s : Bytes) (hs : s.length ≤ 9223372036854775807) : bK prog 9 [str s] g (A7 (nC s)) := by
 refine aw func9 rfl ntmps9 rfl fun E hE => ?_
 refine aS ?_
 refine aj rfl (fun b2 => ?_)
 refine aj rfl (fun b3 => ?_)
 refine wz.a.c.b.z ?_
 refine uy rfl rfl (K9 g s hs) ?_
 rintro v g0 own' ⟨rfl, hp⟩ _
 cases ez : scan s with
 | bad e p =>
  rw [ez] at hp
  obtain ⟨rfl, rfl⟩ := hp
  have hr : nC s = .error (e, p) := by unfold nC; rw [ez]
  have he : e ≠ 0 := by
   unfold scan at ez
   split at ez
   ·cases ez; decide
   ·split at ez
    ·cases ez
    ·cases ez; decide
  rw [hr]
  refine wz.a.a.a.z ?_
  refine aj rfl (fun b5 => ?_)
  refine wz.b.a.v.g.c.e.b.q.a.z ?_
  refine an rfl (fun _ => ?_) (fun h => absurd he h)
  refine kM ?_
  refine bO [2, 1] mixed (fun hG => ?_)
  refine wz.P.z ?_; refine ⟨_, (et rfl rL), ?_⟩; refine wz.R.z ?_; refine ⟨_, (bP 0 rfl rfl rL), ?_⟩
  refine wz.l.i.d.F.f.b.B.Aw.f.b.V.AL.z ?_
  exact cB [] rfl (ay 2 rfl rfl rL) (ay 1 rfl rfl rL) sM ⟨⟨_, rfl, ⟨_, rfl, _, [], _, [], rfl, cP _ 4, rfl, cP _ 20, rfl⟩⟩, rfl⟩
 | ok l =>
  rw [ez] at hp
  obtain ⟨sv, rfl, rfl⟩ := hp
  have hl : kV s = l := by unfold kV; rw [ez]
  have hb : TB l := hl ▸ Mk s
  have bI : KW l := hl ▸ Ml s
  have NA : l.length ≤ 4000 := hl ▸ (ux s).1
  have dh := hb.1
  have rh : nC s = match mH l ⟨[], []⟩ 0 with
   | .error p => .error (3, p)
   | .ok P => if (fH P).1 = 0 then .ok P else .error (fH P) := by unfold nC; rw [ez]; rfl
  rw [rh]
  clear rh
  have lP : ∀ P, mH l ⟨[], []⟩ 0 = .ok P → wZ P := fun P h => Wy NA h
  obtain ⟨R, hR⟩ : ∃ R, R = mH l ⟨[], []⟩ 0 := ⟨_, rfl⟩
  rw [← hR] at lP ⊢
  have h0 : mf l R ⟨[], []⟩ (.ak 0) := ⟨Nat.zero_le _, Nat.zero_le _, Nat.zero_le _, hR⟩
  clear hR
  refine bg (fun g1 a8 h1 => ?_)
  have cG := hg.mono a8
  have r9 : cg g1 sv l := h1
  obtain ⟨sa, sc, rfl⟩ := aU h1
  refine wz.a.a.a.z ?_
  refine aj rfl (fun b5 => ?_)
  refine wz.K.a.c.d.j.o.b.a.v.g.c.e.b.q.a.z ?_
  refine aP rfl rfl rfl (fun b => ?_)
  refine aj rfl (fun b6 => ?_)
  refine wz.c.b.Ac.z ?_
  refine aj rfl (fun b7 => ?_)
  refine wz.c.b.z ?_; refine Nf rfl rfl rfl <| wz.p.e.b.a.z ?_; refine fF (own' := [_, _, _, _, _]) (.cons_cons _ (.cons_cons _ (.cons_cons _ (.cons _ (List.Sublist.refl _))))) ?_
  refine ko (own' := [.ae b 74 (RS.MM (.slice sa l.length sc) (.ak 0)), .ae b7 28 [.slice none 0 0, .slice none 0 0], .ae b6 72 [ptr b 0], .ae b3 33 [.int .i64 0, .int .i64 0], .ae b2 28 [.slice none 0 0, .slice none 0 0]]) ?_ ?_
  ·exact (List.Perm.cons _ (List.Perm.swap _ _ _)).trans (List.Perm.swap _ _ _)
  refine fW 49 20 <| wz.AP.z ?_; refine fW 60 4 ?_
  refine aX (ι := RS × Pg × Value × List Value × Value × List Value × ab) (fun p => [(4, .slice sa l.length sc), (8, .func (.func 26) #[] #[ptr b6 0, ptr b7 0]), (2, ptr b2 0), (3, ptr b3 0), (6, ptr b6 0), (7, ptr b7 0)]) (fun p => p.2.2.2.2.2.2)
   (fun p => vh b b6 b7 (.slice sa l.length sc) p.2.1 p.2.2.1 p.2.2.2.1 p.2.2.2.2.1 p.2.2.2.2.2.1 p.1 ++ [.ae b3 33 [.int .i64 0, .int .i64 0], .ae b2 28 [.slice none 0 0, .slice none 0 0]])
   (fun p => ab.le g1 p.2.2.2.2.2.2 ∧ (∃ a m c, p.2.2.1 = .slice a m c) ∧ (∃ a m c, p.2.2.2.2.1 = .slice a m c) ∧ aL (gC p.2.2.2.2.2.2) p.2.1.al p.2.2.2.1 ∧ aL (iQ p.2.2.2.2.2.2) p.2.1.binds p.2.2.2.2.2.1 ∧ mf l R p.2.1 p.1) (fun p => p.1.left l) (.ak 0, ⟨[], []⟩, .slice none 0 0, [], .slice none 0 0, [], g1)
   ⟨ab.le_refl _, ⟨_, _, _, rfl⟩, ⟨_, _, _, rfl⟩, rfl, rfl, h0⟩ ⟨rfl, rfl, rfl, rfl, rfl, rfl, trivial⟩ rfl rfl ?_
  rintro ⟨st, p, sd, xd, sb, xb, g2⟩ ⟨k1, ⟨da, dm, dc, k2⟩, ⟨ba, bm, bc, k3⟩, k4, k5, k6⟩
  simp only at k1 k2 k3 k4 k5 k6
  subst k2
  subst k3
  have uz := r9.mono k1
  have dy := cG.mono k1
  try dsimp only
  cases st with
  | bad j q =>
   obtain ⟨h1, h2⟩ := k6
   subst h2
   refine wz.Bm.c.e.z ?_
   refine eo 1 rfl rfl rfl (iF g2 _ b (.bad j q)) ?_
   refine wz.Bm.c.e.d.D.m.m.C.o.b.a.h.h.h.h.h.h.h.a.z ?_
   refine eo 1 rfl rfl rfl (iF g2 _ b (.bad j q)) ?_
   refine wz.Bm.c.e.d.j.o.b.z ?_
   refine eo 1 rfl rfl rfl (iF g2 _ b (.bad j q)) ?_
   refine wz.e.t.b.a.z ?_
   refine fF (own' := [_, _, _, _]) (.cons _ (.cons_cons _ (.cons _ (.cons _ (.cons_cons _ (List.Sublist.refl _)))))) ?_
   refine bO [3, 2] mixed (fun hG => ?_)
   refine wz.P.z ?_; refine ⟨_, (et rfl rL), ?_⟩; refine wz.R.z ?_; refine ⟨_, (a7 1 rfl rfl rfl), ?_⟩; refine wz.S.z ?_; refine ⟨_, (ag rfl), ?_⟩; refine wz.X.z ?_; refine ⟨_, (aI rfl), ?_⟩; refine wz.Z.z ?_; refine ⟨_, (bP 0 rfl rfl rL), ?_⟩
   refine wz.l.i.d.F.f.b.V.Ao.f.b.Au.Aq.z ?_
   exact cB [] rfl (ay 3 rfl rfl rL) (ay 2 rfl rfl rL) sM ⟨⟨_, rfl, ⟨_, rfl, _, [], _, [], rfl, cP _ 4, rfl, cP _ 20, rfl⟩⟩, rfl⟩
  | ak i =>
   refine wz.Bm.c.e.z ?_
   refine eo 1 rfl rfl rfl (iF g2 _ b (.ak i)) ?_
   refine wz.b.a.u.A.k.u.I.k.g.k.u.Bm.k.a.z ?_
   refine an rfl (fun hlt => ?_) (fun hlt => ?_)
   ·have af : i < l.length := by omega
    refine wz.a.r.p.d.j.z ?_
    refine F7 (us := []) (cs := [ptr b6 0, ptr b7 0]) (lent := [_, _, _, _, _]) (kept := [_, _]) rfl rfl rfl (List.Perm.refl _) (Xm hb bI g2 dy _ b b6 b7 i uz af R p da dm dc xd ba bm bc xb k4 k5 k6) ?_
    rintro w g3 own' ⟨p', vj, vk, vl, vn, s', rfl, f1, f2, f3, f4, f5, f6⟩ aF
    refine wz.d.y.N.z ?_
    exact aM (s', p', vj, vl, vk, vn, g3) ⟨ab.le_trans k1 aF, f1, f2, f3, f4, f5⟩ f6 ⟨rfl, rfl, rfl, rfl, rfl, rfl, trivial⟩ rfl rfl
   ·obtain ⟨h1, h2, h3, h4⟩ := k6
    rw [uO, if_neg oM] at h4
    subst h4
    have Xn := lP p rfl
    refine wz.Bm.c.e.d.D.m.m.C.z ?_
    refine eo 1 rfl rfl rfl (iF g2 _ b (.ak i)) ?_
    refine bg (fun g3 d_ bY => ?_)
    refine wz.AP.z ?_
    refine bg (fun g4 eW eG => ?_)
    have hV : ll g4 (.agg #[.slice da dm dc, .slice ba bm bc]) p := ⟨_, rfl, _, xd, _, xb, rfl, bY.mono eW, ng (ab.le_trans d_ eW) k4, eG, ql (ab.le_trans d_ eW) k5⟩
    refine wz.t.b.z ?_
    refine bO [0] mixed (fun hG => ?_)
    refine wz.P.z ?_; refine ⟨_, (a7 1 rfl rfl rfl), ?_⟩; refine wz.R.z ?_; refine ⟨_, (bP 0 rfl rfl rL), ?_⟩
    refine wz.AL.z ?_
    refine aO rfl rfl (Wh g4 p _ Xn hV) ?_
    refine wz.X.f.b.z ?_; refine ⟨_, (ag rfl), ?_⟩; refine wz.Z.z ?_; refine ⟨_, (aI rfl), ?_⟩
    refine wz.Ag.c.e.d.F.f.b.q.Aq.z ?_
    refine eo 0 rfl rfl rfl (Xl g4 _ b i (fH p).1 (fH p).2) ?_
    refine wz.b.a.z ?_
    refine fS rfl (fun hd => ?_) (fun hd => ?_)
    ·replace hd : ¬ (fH p).1 = 0 := by simpa using hd
     rw [show (match (Except.ok p : Except Int Pg) with
      | .error p => .error (3, p)
      | .ok P => if (fH P).1 = 0 then .ok P else .error (fH P)) = (.error (fH p) : Except (Int × Int) Pg) from if_neg hd]
     refine kM ?_
     refine bO [4, 3] mixed (fun hG => ?_)
     refine wz.P.z ?_; refine ⟨_, (et rfl rL), ?_⟩; refine wz.R.z ?_; refine ⟨_, (a7 2 rfl rfl rfl), ?_⟩; refine wz.S.z ?_; refine ⟨_, (ag rfl), ?_⟩; refine wz.X.z ?_; refine ⟨_, (aI rfl), ?_⟩; refine wz.Z.z ?_; refine ⟨_, (bP 0 rfl rfl rL), ?_⟩
     refine wz.l.i.d.F.f.b.Au.Ao.f.b.Bw.Aq.z ?_
     exact cB [] rfl (ay 4 rfl rfl rL) (ay 3 rfl rfl rL) sM ⟨⟨_, rfl, ⟨_, rfl, _, [], _, [], rfl, cP _ 4, rfl, cP _ 20, rfl⟩⟩, rfl⟩
    ·have Xo : (fH p).1 = 0 := by simpa using hd
     rw [show (match (Except.ok p : Except Int Pg) with
      | .error p => .error (3, p)
      | .ok P => if (fH P).1 = 0 then .ok P else .error (fH P)) = (.ok p : Except (Int × Int) Pg) from if_pos Xo]
     refine wz.i.b.Au.Bw.K.O.c.d.j.z ?_
     exact cB [] rfl (ay 4 rfl rfl rL) (ay 3 rfl rfl rL) sM ⟨⟨_, rfl, hV⟩, rfl⟩
theorem Xp (g : ab) (hg : fN g) (s : Bytes) (hs : s.length ≤ 9223372036854775807) : bK prog 11 [str s] g (M0 (tl s)) := by
 refine aw func11 rfl ntmps11 rfl fun E hE => ?_
 refine aS ?_
 refine aj rfl (fun b2 => ?_)
 refine aj rfl (fun b3 => ?_)
 refine wz.a.c.b.z ?_
 refine uy rfl rfl (K9 g s hs) ?_
 rintro v g0 own' ⟨rfl, hp⟩ _
 cases ez : scan s with
 | bad e p =>
  rw [ez] at hp
  obtain ⟨rfl, rfl⟩ := hp
  have hr : tl s = .error (e, p) := by unfold tl; rw [ez]
  have he := WB ez
  rw [hr]
  refine wz.a.a.a.z ?_
  refine aj rfl (fun b5 => ?_)
  refine wz.b.a.v.g.c.e.b.q.a.z ?_
  refine an rfl (fun _ => ?_) (fun h => absurd he h)
  refine kM ?_
  refine bO [2, 1] mixed (fun hG => ?_)
  refine wz.P.z ?_; refine ⟨_, (et rfl rL), ?_⟩; refine wz.R.z ?_; refine ⟨_, (bP 0 rfl rfl rL), ?_⟩
  refine wz.l.i.d.F.f.b.B.Aw.f.b.V.AL.z ?_
  exact cB [] rfl (ay 2 rfl rfl rL) (ay 1 rfl rfl rL) sM ⟨⟨_, rfl, pZ _⟩, rfl⟩
 | ok l =>
  rw [ez] at hp
  obtain ⟨sv, rfl, rfl⟩ := hp
  have hl : kV s = l := by unfold kV; rw [ez]
  have hb : TB l := hl ▸ Mk s
  have bI : KW l := hl ▸ Ml s
  have NA : l.length ≤ 4000 := hl ▸ (ux s).1
  have dh := hb.1
  have oY : idxOf l.length 0 = 0 := by unfold idxOf; rw [if_neg oM]; simp
  have rh : tl s = match a_ l .whole 0 with
   | .error p => .error (3, p)
   | .ok (t, j) => if j < l.length then .error (3, bH l j) else Gk t := by unfold tl; rw [ez]; rfl
  refine bg (fun g1 a8 h1 => ?_)
  have cG := hg.mono a8
  have r9 : cg g1 sv l := h1
  obtain ⟨sa, sc, rfl⟩ := aU h1
  refine wz.a.a.a.z ?_
  refine aj rfl (fun b5 => ?_)
  refine wz.a.c.d.j.o.b.a.v.g.c.e.b.q.a.z ?_
  refine aB rfl rfl (n_ hb g1 cG _ 0 r9) ?_
  rintro w g2 cM aD
  rw [oY] at cM
  have uz := r9.mono aD
  cases hq : a_ l .whole 0 with
  | error p =>
   rw [hq] at cM rh
   obtain ⟨tv, rfl, cO⟩ := cM
   obtain ⟨ya, ym, yc, rfl, b_⟩ := cO.bA
   rw [rh]
   refine wz.a.a.a.a.z ?_
   refine aj rfl (fun b6 => ?_)
   refine wz.K.O.a.a.c.b.B.a.q.z ?_
   refine aP rfl rfl rfl (fun b => ?_)
   refine wz.a.c.e.b.a.z ?_
   refine eo 0 rfl rfl rfl (iF g2 (.slice sa l.length sc) b (.bad 0 p)) ?_
   refine wz.a.c.e.d.j.o.b.a.h.h.h.h.a.z ?_
   refine eo 0 rfl rfl rfl (iF g2 (.slice sa l.length sc) b (.bad 0 p)) ?_
   refine wz.e.t.b.a.z ?_
   refine bO [4, 3] mixed (fun hG => ?_)
   refine wz.P.z ?_; refine ⟨_, (et rfl rL), ?_⟩; refine wz.R.z ?_; refine ⟨_, (ag rfl), ?_⟩; refine wz.S.z ?_; refine ⟨_, (ag rfl), ?_⟩; refine wz.X.z ?_; refine ⟨_, (aI rfl), ?_⟩; refine wz.Z.z ?_; refine ⟨_, (bP 0 rfl rfl rL), ?_⟩
   refine wz.l.i.d.F.f.b.Au.Ao.f.b.Bw.Aq.z ?_
   exact cB [] rfl (ay 4 rfl rfl rL) (ay 3 rfl rfl rL) sM ⟨⟨_, rfl, pZ _⟩, rfl⟩
  | ok x =>
   obtain ⟨t, j⟩ := x
   have Mt := EZ (fun n acc => by simp) hq
   have eK := xj l _ _ _ _ (Nat.zero_le _) hq
   rw [hq] at cM rh
   obtain ⟨tv, rfl, cO⟩ := Vs cM
   simp only at rh
   obtain ⟨ya, ym, yc, rfl, b_⟩ := cO.bA
   rw [rh]
   refine wz.a.a.a.a.z ?_
   refine aj rfl (fun b6 => ?_)
   refine wz.K.O.a.a.c.b.B.a.q.z ?_
   refine aP rfl rfl rfl (fun b => ?_)
   refine wz.a.c.e.b.a.z ?_
   refine eo 0 rfl rfl rfl (iF g2 (.slice sa l.length sc) b (.ak j)) ?_
   refine wz.b.a.u.A.k.u.u.a.z ?_
   refine an rfl (fun hlt => ?_) (fun hlt => ?_)
   ·rw [if_pos oM]
    refine wz.a.r.z ?_
    refine aG 0 rfl rfl rfl (uV g2 l hb _ uz b (.ak j)) ?_
    rintro v g3 r' ⟨rfl, rfl⟩ _
    rw [show RS.fail l (.ak j) = .bad j (bH l j) from rfl]
    refine wz.a.c.e.b.z ?_
    refine eo 0 rfl rfl rfl (iF g3 (.slice sa l.length sc) b (.bad j (bH l j))) ?_
    refine wz.e.t.b.a.z ?_
    refine bO [4, 3] mixed (fun hG => ?_)
    refine wz.P.z ?_; refine ⟨_, (et rfl rL), ?_⟩; refine wz.R.z ?_; refine ⟨_, (ag rfl), ?_⟩; refine wz.S.z ?_; refine ⟨_, (ag rfl), ?_⟩; refine wz.X.z ?_; refine ⟨_, (aI rfl), ?_⟩; refine wz.Z.z ?_; refine ⟨_, (bP 0 rfl rfl rL), ?_⟩
    refine wz.l.i.d.F.f.b.Au.Ao.f.b.Bw.Aq.z ?_
    exact cB [] rfl (ay 4 rfl rfl rL) (ay 3 rfl rfl rL) sM ⟨⟨_, rfl, pZ _⟩, rfl⟩
   ·rw [if_neg oM]
    refine wz.a.c.e.d.j.z ?_
    refine eo 0 rfl rfl rfl (iF g2 (.slice sa l.length sc) b (.ak j)) ?_
    refine wz.O.c.e.d.j.o.b.a.z ?_
    refine aO rfl rfl (z_ g2 t _ oM ⟨_, rfl, b_⟩) ?_
    unfold Gk
    refine wz.b.a.z ?_
    refine an rfl (fun hd => ?_) (fun hd => ?_)
    ·rw [if_pos oM]
     refine wz.l.i.b.Au.Bw.K.K.c.z ?_
     exact cB [] rfl (ay 4 rfl rfl rL) (ay 3 rfl rfl rL) sM ⟨⟨_, rfl, pZ _⟩, rfl⟩
    ·rw [if_neg oM]
     refine wz.i.b.Au.Bw.K.O.c.d.j.z ?_
     exact cB [] rfl (ay 4 rfl rfl rL) (ay 3 rfl rfl rL) sM ⟨⟨_, rfl, ⟨_, rfl, b_⟩⟩, rfl⟩
def B4 : Bytes := [108, 101, 116, 32, 105, 100, 32, 61, 32, 92, 120, 46, 32, 120, 59]
def Gv : Bytes := [108, 101, 116, 32, 120, 32, 61, 32, 59]
def Gw : Bytes := [97, 32, 45, 62, 32, 73, 110, 116]
theorem Xq : uW (nC B4) = (0, 0) := by kernel_rfl
theorem Xr : (xt (nC B4)).binds.map (fun b => b.name) = [[105, 100]] := by kernel_rfl
theorem Xs : uW (nC Gv) = (3, 8) := by kernel_rfl
theorem Xt : uW (tl Gw) = (0, 0) := by kernel_rfl
theorem Xu : MZ (tl Gw) = cZ (fY [97]) fL := by kernel_rfl
theorem Xv (g : ab) (hg : fN g) : bK prog 4 [] g fun v _ => v = .bool true := by
 refine aw func4 rfl ntmps4 rfl fun E hE => ?_
 refine wz.c.b.a.c.z ?_
 refine aB rfl rfl (Gu g hg B4 dC) ?_
 unfold A7
 rw [Xq]
 rintro _ g1 ⟨pv, rfl, hV⟩ a8
 have cG := hg.mono a8
 obtain ⟨cs, rfl, sd, xd, sb, xb, rfl, h1, h2, h3, h4⟩ := hV
 have iq := Xr
 generalize xt (nC B4) = P1 at h1 h2 h3 h4 iq
 have dh : P1.binds.length = 1 := by simpa using congrArg List.length iq
 have eL : P1.binds[0].name = [105, 100] := by
  have := congrArg (fun l => l[0]?) iq
  simpa [dh] using this
 rw [dh] at h3
 obtain ⟨da, dc, rfl⟩ := aU h1
 obtain ⟨ba, bc, rfl⟩ := aU h3
 unfold pq
 refine wz.a.a.a.z ?_
 refine aj rfl (fun b1 => ?_)
 skip
 refine aj rfl (fun b2 => ?_)
 refine wz.c.b.q.B.z ?_
 refine aB rfl rfl (Gu g1 cG Gv dC) ?_
 unfold A7
 rw [Xs]
 rintro _ g2 ⟨pv2, rfl, Gx⟩ aD
 have dy := cG.mono aD
 obtain ⟨Gy, rfl, Xw, NB, Xx, NC, rfl, k1, k2, k3, k4⟩ := Gx
 generalize xt (nC Gv) = P2 at k1 k2 k3 k4
 obtain ⟨Xy, Xz, rfl⟩ := aU k1
 obtain ⟨XA, XB, rfl⟩ := aU k3
 unfold pq
 refine wz.a.a.a.z ?_
 refine aj rfl (fun b3 => ?_)
 skip
 refine aj rfl (fun b4 => ?_)
 refine wz.c.b.q.B.z ?_
 refine aB rfl rfl (Xp g2 dy Gw dC) ?_
 unfold M0
 rw [Xt, Xu]
 rintro _ g3 ⟨tv, rfl, hT⟩ aF
 obtain ⟨ya, ym, yc, rfl, b_⟩ := hT.bA
 unfold pq
 refine wz.a.a.a.z ?_
 refine aj rfl (fun b5 => ?_)
 skip
 refine aj rfl (fun b6 => ?_)
 obtain ⟨b, off, cap, aq, hx⟩ := ((h3.mono aD).mono aF).held (show 0 < 1 by omega)
 cases aq
 obtain ⟨c, e1, hr⟩ := dt (fun _ _ h => h.one.1) (ql aF (ql aD h4)) hx (show 0 < P1.binds.length by omega)
 obtain ⟨y1, y2, y3, y4, y5, y6, y7, y8, y9, tf, tg, th, rfl, xA, xB⟩ := e1.form
 rw [eL] at hr
 refine wz.e.b.q.B.z ?_
 refine bO [] mixed (fun hG => ?_)
 refine wz.P.z ?_; refine ⟨_, (aI rfl), ?_⟩; refine wz.R.z ?_; refine ⟨_, (a7 4 rfl rfl rfl), ?_⟩; refine wz.S.z ?_; refine ⟨_, (ag rfl), ?_⟩; refine wz.X.z ?_; refine ⟨_, (ag rfl), ?_⟩; refine wz.CY.z ?_; refine ⟨_, (aI rfl), ?_⟩; refine dX 5 rfl rfl kR rfl hG ?_; refine ⟨_, (a7 5 rfl rfl rfl), ?_⟩; refine wz.CZ.z ?_; refine ⟨_, (jQ rfl), ?_⟩; refine dX 7 rfl rfl kR rfl hG ?_; refine ⟨_, (ag rfl), ?_⟩; refine wz.AV.z ?_; refine ⟨_, (ag rfl), ?_⟩; refine wz.Av.z ?_; refine ⟨_, (ag rfl), ?_⟩; refine wz.Db.z ?_; refine ⟨_, (aI rfl), ?_⟩; refine wz.BZ.z ?_; refine ⟨_, (a7 5 rfl rfl rfl), ?_⟩
 refine dX 12 rfl rfl kR rfl hG ⟨_, (bU (j := 0) rfl rfl rfl dC), ?_⟩; refine wz.CS.z ?_; refine ⟨_, (aI rfl), ?_⟩
 refine dX 14 rfl rfl kR rfl hG ⟨_, (cU rfl ((hr _).du 2 rfl)), ?_⟩
 refine wz.Cm.z ?_; refine ⟨_, (ag rfl), ?_⟩; refine wz.AB.z ?_; refine ⟨_, (ag rfl), ?_⟩; refine bn 17 rfl kR rfl hG ?_; refine ⟨_, (ag rfl), ?_⟩; refine wz.Ca.z ?_; refine ⟨_, (aI rfl), ?_⟩; refine wz.Dc.z ?_; refine ⟨_, (a7 2 rfl rfl rfl), ?_⟩; refine wz.Co.z ?_; refine ⟨_, (ag rfl), ?_⟩; refine bn 21 rfl kR rfl hG ?_; refine ⟨_, (ag rfl), ?_⟩; refine bn 22 rfl kR rfl hG ?_; refine ⟨_, (ag rfl), ?_⟩; refine dX 23 rfl rfl kR rfl hG ?_; refine ⟨_, (aI rfl), ?_⟩; refine dX 24 rfl rfl kR rfl hG ?_; refine ⟨_, (a7 2 rfl rfl rfl), ?_⟩; refine dX 25 rfl rfl kR rfl hG ?_; refine ⟨_, (ag rfl), ?_⟩; refine wz.CC.z ?_; refine ⟨_, (ag rfl), ?_⟩; refine bn 27 rfl kR rfl hG ?_; refine ⟨_, (ag rfl), ?_⟩; refine dX 28 rfl rfl kR rfl hG ?_; refine ⟨_, (aI rfl), ?_⟩; refine dX 29 rfl rfl kR rfl hG ?_; refine ⟨_, (a7 0 rfl rfl rfl), ?_⟩; refine dX 30 rfl rfl kR rfl hG ?_; refine ⟨_, (ag rfl), ?_⟩; refine bn 31 rfl kR rfl hG ?_; refine ⟨_, (ag rfl), ?_⟩; refine bn 32 rfl kR rfl hG ?_; refine ⟨_, (ag rfl), ?_⟩; refine dX 33 rfl rfl kR rfl hG ?_; refine ⟨_, (bP 1 rfl rfl rL), ?_⟩
 refine gL 34 kR rfl ?_; refine wz.k.z ?_
 refine aO rfl rfl (xC g3 [97]) ?_
 refine wz.f.b.z ?_; refine gL 35 kR rfl ?_; refine wz.k.z ?_
 refine aB rfl rfl (qN g3) ?_
 rintro wi g4 Gz aR
 refine wz.f.b.z ?_; refine gL 36 kR rfl ?_; refine wz.k.z ?_
 refine aB rfl rfl (sj g4 (fY [97]) fL _ _ ⟨_, rfl, bx.mk (t := fY [97]) (cP g4 5) (cQ g4)⟩ Gz) ?_
 rintro wa g5 zA cC
 have wU := ab.le_trans aR cC
 refine wz.f.b.z ?_; refine gL 37 kR rfl ?_; refine wz.k.z ?_
 refine aO rfl rfl (sH g5 _ _ _ ((hT.mono aR).mono cC) zA) ?_
 refine wz.f.b.z ?_; refine bn 38 rfl kR rfl hG ?_; refine ⟨_, (ag rfl), ?_⟩
 refine gL 39 kR rfl ?_; refine wz.i.d.F.f.b.a.z ?_
 exact ao [] rfl rfl sM ⟨rfl, rfl⟩
structure xD (p q : Pg) : Prop where
 dl : p.al.length = q.al.length
 bl : p.binds.length = q.binds.length
 d : ∀ i (h : i < p.al.length) (h' : i < q.al.length), p.al[i].name = q.al[i].name ∧ p.al[i].params = q.al[i].params ∧ p.al[i].cons.length = q.al[i].cons.length ∧
  ∀ k (h1 : k < p.al[i].cons.length) (h2 : k < q.al[i].cons.length), p.al[i].cons[k].name = q.al[i].cons[k].name ∧ p.al[i].cons[k].fields = q.al[i].cons[k].fields
 b : ∀ i (h : i < p.binds.length) (h' : i < q.binds.length), p.binds[i].isRec = q.binds[i].isRec ∧ p.binds[i].name = q.binds[i].name ∧ p.binds[i].fD = q.binds[i].fD ∧ p.binds[i].sig = q.binds[i].sig ∧ bV p.binds[i].body = bV q.binds[i].body ∧ aN p.binds[i].body ≤ 1000000 ∧ aN q.binds[i].body ≤ 1000000
theorem xD.refl {p : Pg} (h : ∀ b ∈ p.binds, aN b.body ≤ 1000000) : xD p p :=
 ⟨rfl, rfl, fun _ _ _ => ⟨rfl, rfl, rfl, fun _ _ _ => ⟨rfl, rfl⟩⟩, fun i h1 _ => ⟨rfl, rfl, rfl, rfl, rfl, h _ (List.getElem_mem h1), h _ (List.getElem_mem h1)⟩⟩
theorem XC (g : ab) (ta : List Ty) (u v : Value) (xs ys : List Value) (hu : au g 5 u ta.length xs) (XD : aV g ta xs) (hv : au g 5 v ta.length ys) (mM : aV g ta ys) : Pure prog 35 [u, v] g (.bool true) :=
 ND g ta (fun t _ u v h1 h2 => sH g t u v h1 h2) u v xs ys hu XD hv mM
end Go.Proofs.YtlnjfkfojkgiiaaGreatDoor

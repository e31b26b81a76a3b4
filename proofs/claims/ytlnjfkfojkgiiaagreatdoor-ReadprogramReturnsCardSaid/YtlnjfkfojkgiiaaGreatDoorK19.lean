/- The walk of readprogram's bind. Printed by mkprh.py. -/
import Derived.Test.YtlnjfkfojkgiiaaGreatDoorK18
open Go Go.aZ Go.Th Go.Proofs Tryz
set_option maxRecDepth 10000
set_option maxHeartbeats 4000000
namespace Go.Th
theorem MU (l : List Tok) : ∀ (N : Nat) (q : TQ) (i : Nat) (x : Ty × Nat), dD l q i < N → i ≤ l.length → a_ l q i = .ok x → x.2 ≤ l.length
 | 0, _, _, _, h, _, _ => by omega
 | N + 1, q, i, x, hN, oY, h => by
  have ih := MU l N
  have r7 := fun q i x h => nU l _ q i x (Nat.lt_succ_self _) h
  cases q with
  | atom =>
   rw [nV] at h
   split at h
   ·cases h
   ·rename_i t ht
    have hi := (List.getElem?_eq_some_iff.1 ht).1
    split at h
    ·cases h; exact hi
    ·split at h
     ·cases h; exact hi
     ·split at h
      ·split at h
       ·cases h
       ·rename_i y j h1
        split at h
        ·rename_i hm
         have := cF hm
         cases h; exact this
        ·cases h
      ·cases h
  | args n acc =>
   rw [nQ] at h
   split at h
   ·rename_i hs
    have hi := r8 hs
    split at h
    ·cases h
    ·rename_i y j h1
     split at h
     ·rename_i ky
      have i1 := ih .atom i (y, j) (by simp only [dD, TQ.ck] at *; omega) oY h1
      exact ih _ j x (by simp only [dD, TQ.ck] at *; omega) i1 h
     ·cases h
   ·cases h; exact oY
  | fA =>
   rw [oX] at h
   split at h
   ·rename_i t ht
    have hi := (List.getElem?_eq_some_iff.1 ht).1
    split at h
    ·exact ih _ (i + 1) x (by simp only [dD, TQ.ck] at *; omega) hi h
    ·exact ih _ i x (by simp only [dD, TQ.ck] at *; omega) oY h
   ·exact ih _ i x (by simp only [dD, TQ.ck] at *; omega) oY h
  | whole =>
   rw [qJ] at h
   split at h
   ·cases h
   ·rename_i a j h1
    have i1 := ih _ i (a, j) (by simp only [dD, TQ.ck] at *; omega) oY h1
    have i3 := r7 _ _ _ h1
    simp only at i1 i3
    split at h
    ·rename_i hm
     have hj := cF hm
     split at h
     ·split at h
      ·cases h
      ·rename_i b k h2
       have i2 := ih _ (j + 1) (b, k) (by simp only [dD, TQ.ck] at *; omega) hj h2
       cases h
       exact i2
     ·cases h
    ·cases h; exact i1
theorem xj (l : List Tok) (q : TQ) (i : Nat) (t : Ty) (j : Nat) (hi : i ≤ l.length) (h : a_ l q i = .ok (t, j)) : j ≤ l.length := MU l _ q i (t, j) (Nat.lt_succ_self _) hi h
end Go.Th
namespace Go.Proofs.YtlnjfkfojkgiiaaGreatDoor
attribute [local irreducible] wpList Code.wp ah bodyPost Go.aZ.Ends Exit.then Exit.inBlock dJ Wq Kq
theorem Wp {l : List Tok} (hb : TB l) (bI : KW l) (g : ab) (hg : fN g) (lv : Value) (b i : Nat) (hs : cg g lv l) (xm : cA l i dI = true) :
  cR prog 30 [ptr b 0, .agg (oU (posOf l i) false [] false rX dK).toArray] g (eI b lv (.ak (i + 1))) (MJ (eI b lv) l i (jo l i)) := by
 have dh := hb.1
 have hi := cF xm
 have tj : dZ l i dI = cA l i dI := pM bI dC i
 obtain ⟨la, lc, rfl⟩ := aU hs
 refine aw func30 rfl ntmps30 rfl fun E hE => ?_
 refine aS ?_
 refine aP rfl rfl rfl (fun b3 => ?_)
 refine aj rfl (fun b2 => ?_)
 refine wz.a.c.b.z ?_
 obtain ⟨s1, aJ⟩ : ∃ s, s = RS.ak (i + 1) := ⟨_, rfl⟩
 rw [← aJ]
 have nN : s1 = RS.fi l dI (.ak i) := by rw [aJ, (kN (tj.trans xm)).2.1]
 refine aG 2 rfl rfl rfl (Gg g l hb bI _ hs b s1 (w := fy) dC) ?_
 rintro v g0 r' ⟨rfl, rfl, rfl⟩ _
 obtain ⟨s2, bj⟩ : ∃ s, s = s1.skip l fy := ⟨_, rfl⟩
 rw [← bj]
 refine wz.a.c.b.Ah.g.z ?_
 refine aG 2 rfl rfl rfl (A4 g0 l hb _ hs b s2 1) ?_
 rintro v g0 r' ⟨rfl, rfl, rfl⟩ _
 obtain ⟨s3, bY⟩ : ∃ s, s = s2.word l 1 := ⟨_, rfl⟩
 rw [← bY]
 have hh := SN bI (Nat.le_of_lt hi) nN bj bY
 generalize s1.fV l fy = rr at hh ⊢
 generalize s2.text l 1 = nn at hh ⊢
 refine wz.b.Ac.g.AP.z ?_
 refine cD (ι := RS × Bool × Ty × Value × ab) (fun p => [(0, ptr b 0), (3, ptr b3 0), (4, ptr b2 0)]) (fun p => p.2.2.2.2)
  (fun p => [.ae b3 49 (oU (posOf l i) rr nn p.2.1 (aH p.2.2.1 p.2.2.2.1) dK), .ae b2 49 (oU 0 false [] false rX dK), eI b (.slice la l.length lc) p.1])
  (fun p => ab.le g0 p.2.2.2.2 ∧ (∃ a m c, p.2.2.2.1 = .slice a m c) ∧ bx p.2.2.2.2 p.2.2.1 (aH p.2.2.1 p.2.2.2.1) ∧ EL l i (jo l i) (posOf l i) rr nn p.2.1 p.2.2.1 p.1) ?_ ?_
 ·rintro ⟨s, oc, t, sv, g2⟩ ⟨k1, ⟨ta, tm, tc, k2⟩, k3, k4⟩
  simp only at k1 k2 k3 k4
  subst k2
  have bj := hs.mono k1
  have dy := hg.mono k1
  have bW : s.ok l := by
   cases s with
   | ak j => exact k4.1
   | bad j p => exact k4.1
  try dsimp only
  refine wz.a.c.z ?_
  refine aG 2 rfl rfl rfl (A3 g2 l hb bI (.slice la l.length lc) bj b s (w := [61]) dC) ?_
  rintro v fj r' ⟨rfl, rfl⟩ _
  have h5 := k4.eq bI
  generalize s.fi l [61] = s5 at h5
  refine iV ?_
  refine cD (ι := RS × Ex × List Value × ab) (fun p => [(0, ptr b 0), (3, ptr b3 0), (4, ptr b2 0)]) (fun p => p.2.2.2)
   (fun p => [.ae b3 49 (oU (posOf l i) rr nn oc (aH t (.slice ta tm tc)) p.2.2.1), .ae b2 49 (oU 0 false [] false rX dK), eI b (.slice la l.length lc) p.1])
   (fun p => ab.le fj p.2.2.2 ∧ cT p.2.2.2 (.agg p.2.2.1.toArray) p.2.1 ∧ EM l i (jo l i) ⟨posOf l i, rr, nn, oc, t, p.2.1⟩ p.1) ?_ ?_
  ·rintro ⟨s, e, ec, g3⟩ ⟨m1, m2, m3⟩
   simp only at m1 m2 m3
   obtain ⟨a1, x1, c1, a2, x2, c2, a3, x3, c3, hec, _⟩ := m2.form
   have Gh : ec = [.int .i64 e.kind, .int .i64 e.pos, str e.name, .int .i64 e.num, .slice a1 x1 c1, .slice a2 x2 c2, .int .i64 e.ty.kind, str e.ty.name, .int .i64 e.ty.id, .int .i64 e.ty.home, .slice a3 x3 c3] := by simpa using hec
   subst Gh
   have bY := bj.mono m1
   have uu : s.ok l := by
    cases s with
    | ak j => exact m3.1
    | bad j p => exact m3.1
   have jt := m3.fin bI
   obtain ⟨cs', Wr, hex⟩ := m2
   have Ws : [.int .i64 e.kind, .int .i64 e.pos, str e.name, .int .i64 e.num, .slice a1 x1 c1, .slice a2 x2 c2, .int .i64 e.ty.kind, str e.ty.name, .int .i64 e.ty.id, .int .i64 e.ty.home, .slice a3 x3 c3] = cs' := by simpa using Wr
   subst Ws
   have Wt : xg g3 (.agg (oU (posOf l i) rr nn oc (aH t (.slice ta tm tc)) [.int .i64 e.kind, .int .i64 e.pos, str e.name, .int .i64 e.num, .slice a1 x1 c1, .slice a2 x2 c2, .int .i64 e.ty.kind, str e.ty.name, .int .i64 e.ty.id, .int .i64 e.ty.home, .slice a3 x3 c3]).toArray) ⟨posOf l i, rr, nn, oc, t, e⟩ := ⟨_, rfl, _, _, rfl, k3.mono m1, hex⟩
   try dsimp only
   refine wz.a.c.z ?_
   refine aG 2 rfl rfl rfl (A3 g3 l hb bI (.slice la l.length lc) bY b s (w := [59]) dC) ?_
   rintro v A6 r' ⟨rfl, rfl⟩ _
   refine wz.i.b.B.G.c.b.z ?_
   exact bp [_] rfl (ay 1 rfl rfl rL) sB ⟨_, rfl, Wl (mk := eI b (.slice la l.length lc)) jt Wt⟩
  ·intro K hK
   cases s5 with
   | bad j p =>
    refine wz.a.c.z ?_
    refine eo 2 rfl rfl rfl (iF fj (.slice la l.length lc) b (.bad j p)) ?_
    refine wz.d.j.o.b.z ?_
    exact hK (.bad j p, pQ, dK, fj) _ ⟨ab.le_refl _, ⟨_, rfl, SP fj⟩, h5⟩ ⟨rfl, rfl, rfl, trivial⟩
   | ak k =>
    obtain ⟨h1, h2, h3⟩ := h5
    have re := fun e m h => jH (l := l) (q := .expr) (i := k) (e := e) (j := m) h
    have xp := fun e m h => MT l _ .expr k e m (Nat.lt_succ_self _) h1 h
    refine wz.a.c.z ?_
    refine eo 2 rfl rfl rfl (iF fj (.slice la l.length lc) b (.ak k)) ?_
    refine wz.t.b.z ?_
    refine cD (ι := ab × List Value × Nat × Nat) (fun p => [(0, ptr b 0), (3, ptr b3 0), (4, ptr b2 0), (8, ptr p.2.2.1 0), (9, .int .i64 (Mg (bt l .expr k))), (10, ptr p.2.2.2 0)]) (fun p => p.1)
     (fun p => [.ae p.2.2.2 33 [.int .i64 (Mh (bt l .expr k)), .int .i64 (Mi (bt l .expr k))], .ae p.2.2.1 47 p.2.1, .ae b3 49 (oU (posOf l i) rr nn oc (aH t (.slice ta tm tc)) dK), .ae b2 49 (oU 0 false [] false rX dK), eI b (.slice la l.length lc) (.ak k)])
     (fun p => ab.le fj p.1 ∧ cT p.1 (.agg p.2.1.toArray) (pk (bt l .expr k))) ?_ ?_
    ·rintro ⟨g3, ec, b8, bh⟩ ⟨n1, n2⟩
     simp only at n1 n2
     have bY := bj.mono n1
     generalize bt l .expr k = q at h3 re xp n2
     have n3 := n2
     obtain ⟨a1, x1, c1, a2, x2, c2, a3, x3, c3, hec, _⟩ := n2.form
     have Gh : ec = [.int .i64 (pk q).kind, .int .i64 (pk q).pos, str (pk q).name, .int .i64 (pk q).num, .slice a1 x1 c1, .slice a2 x2 c2, .int .i64 (pk q).ty.kind, str (pk q).ty.name, .int .i64 (pk q).ty.id, .int .i64 (pk q).ty.home, .slice a3 x3 c3] := by simpa using hec
     subst Gh
     try dsimp only
     cases q with
     | error p =>
      refine wz.G.a.a.c.z ?_
      refine aG 4 rfl rfl rfl (xi g3 l (.slice la l.length lc) bY b (.ak k) (.bad 0 p)) ?_
      rintro v A6 r' ⟨rfl, rfl⟩ _
      refine wz.BW.b.V.g.O.r.b.z ?_
      exact hK (.bad 0 p, pQ, _, A6) _ ⟨n1, n3, Nat.zero_le _, h3⟩ ⟨rfl, rfl, rfl, trivial⟩
     | ok q =>
      obtain ⟨e, m⟩ := q
      have zW := re e m rfl
      have wV := xp e m rfl
      refine wz.G.a.a.c.z ?_
      refine aG 4 rfl rfl rfl (xi g3 l (.slice la l.length lc) bY b (.ak k) (.ak m)) ?_
      rintro v A6 r' ⟨rfl, rfl⟩ _
      refine wz.BW.b.V.g.O.r.b.z ?_
      exact hK (.ak m, e, _, A6) _ ⟨n1, n3, wV, oM, h3⟩ ⟨rfl, rfl, rfl, trivial⟩
    ·intro K2 jn
     skip
     refine bO [] mixed (fun hG => ?_)
     refine wz.P.z ?_; refine ⟨_, (ag rfl), ?_⟩; refine wz.R.z ?_; refine ⟨_, (ag rfl), ?_⟩; refine wz.S.z ?_; refine ⟨_, (aI rfl), ?_⟩; refine wz.X.z ?_; refine ⟨_, (a7 2 rfl rfl rfl), ?_⟩; refine wz.Z.z ?_; refine ⟨_, (ag rfl), ?_⟩; refine wz.Ad.z ?_; refine ⟨_, (ag rfl), ?_⟩; refine wz.Ak.z ?_; refine ⟨_, (aI rfl), ?_⟩; refine wz.Aa.z ?_; refine ⟨_, (a7 2 rfl rfl rfl), ?_⟩
     refine qY 8 13 14 kR rfl rfl rfl ?_ ?_ ?_
     ·refine aB rfl rfl (wX hb bI fj dy _ (k : Int) bj) ?_
      rintro w g3 cM aF
      rw [jz h1] at cM
      obtain ⟨ev, rfl, qf⟩ := cM
      obtain ⟨a1, x1, c1, a2, x2, c2, a3, x3, c3, rfl, b_⟩ := qf.form
      refine wz.Av.f.b.z ?_; refine ⟨_, (ag rfl), ?_⟩; refine wz.Al.z ?_; refine ⟨_, (ag rfl), ?_⟩; refine wz.As.z ?_; refine ⟨_, (ag rfl), ?_⟩; refine wz.Az.z ?_; refine ⟨_, (ag rfl), ?_⟩
      refine eH 13 14 kR rfl rfl ?_ ?_
      ·refine aj rfl (fun b8 => ?_)
       refine wz.AO.f.b.z ?_
       refine aj rfl (fun bh => ?_)
       refine wz.AB.f.b.B.At.f.b.z ?_; refine ⟨_, (ag rfl), ?_⟩
       refine wz.d.F.f.b.q.AG.z ?_
       exact jn (g3, _, b8, bh) _ ⟨aF, ⟨_, rfl, b_⟩⟩ ⟨rfl, rfl, rfl, rfl, rfl, rfl, trivial⟩
      ·refine aj rfl (fun bh => ?_)
       refine wz.AJ.f.b.z ?_
       refine aj rfl (fun b8 => ?_)
       refine wz.AB.f.b.q.At.f.b.z ?_; refine ⟨_, (ag rfl), ?_⟩
       refine wz.d.AP.F.f.b.B.AG.z ?_
       exact jn (g3, _, b8, bh) _ ⟨aF, ⟨_, rfl, b_⟩⟩ ⟨rfl, rfl, rfl, rfl, rfl, rfl, trivial⟩
     ·refine aj rfl (fun b8 => ?_)
      refine wz.f.b.z ?_
      refine eH 8 14 kR rfl rfl ?_ ?_
      ·refine aB rfl rfl (wX hb bI fj dy _ (k : Int) bj) ?_
       rintro w g3 cM aF
       rw [jz h1] at cM
       obtain ⟨ev, rfl, qf⟩ := cM
       obtain ⟨a1, x1, c1, a2, x2, c2, a3, x3, c3, rfl, b_⟩ := qf.form
       refine wz.Av.f.b.z ?_; refine ⟨_, (ag rfl), ?_⟩; refine wz.Al.z ?_; refine ⟨_, (ag rfl), ?_⟩; refine wz.As.z ?_; refine ⟨_, (ag rfl), ?_⟩; refine wz.Az.z ?_; refine ⟨_, (ag rfl), ?_⟩
       refine wz.AO.z ?_
       refine aj rfl (fun bh => ?_)
       refine wz.AB.f.b.B.At.f.b.z ?_; refine ⟨_, (ag rfl), ?_⟩
       refine wz.d.F.f.b.q.AG.z ?_
       exact jn (g3, _, b8, bh) _ ⟨aF, ⟨_, rfl, b_⟩⟩ ⟨rfl, rfl, rfl, rfl, rfl, rfl, trivial⟩
      ·refine aj rfl (fun bh => ?_)
       refine wz.Ae.f.b.z ?_
       refine aB rfl rfl (wX hb bI fj dy _ (k : Int) bj) ?_
       rintro w g3 cM aF
       rw [jz h1] at cM
       obtain ⟨ev, rfl, qf⟩ := cM
       obtain ⟨a1, x1, c1, a2, x2, c2, a3, x3, c3, rfl, b_⟩ := qf.form
       refine wz.Av.f.b.z ?_; refine ⟨_, (ag rfl), ?_⟩; refine wz.Al.z ?_; refine ⟨_, (ag rfl), ?_⟩; refine wz.As.z ?_; refine ⟨_, (ag rfl), ?_⟩; refine wz.Az.z ?_; refine ⟨_, (ag rfl), ?_⟩
       refine wz.AB.f.b.B.At.z ?_; refine ⟨_, (ag rfl), ?_⟩
       refine wz.d.F.f.b.q.AG.z ?_
       exact jn (g3, _, b8, bh) _ ⟨aF, ⟨_, rfl, b_⟩⟩ ⟨rfl, rfl, rfl, rfl, rfl, rfl, trivial⟩
     ·refine aj rfl (fun bh => ?_)
      refine wz.f.b.z ?_
      refine eH 8 13 kR rfl rfl ?_ ?_
      ·refine aB rfl rfl (wX hb bI fj dy _ (k : Int) bj) ?_
       rintro w g3 cM aF
       rw [jz h1] at cM
       obtain ⟨ev, rfl, qf⟩ := cM
       obtain ⟨a1, x1, c1, a2, x2, c2, a3, x3, c3, rfl, b_⟩ := qf.form
       refine wz.Av.f.b.z ?_; refine ⟨_, (ag rfl), ?_⟩; refine wz.Al.z ?_; refine ⟨_, (ag rfl), ?_⟩; refine wz.As.z ?_; refine ⟨_, (ag rfl), ?_⟩; refine wz.Az.z ?_; refine ⟨_, (ag rfl), ?_⟩
       refine wz.AJ.z ?_
       refine aj rfl (fun b8 => ?_)
       refine wz.AB.f.b.q.At.f.b.z ?_; refine ⟨_, (ag rfl), ?_⟩
       refine wz.d.AP.F.f.b.B.AG.z ?_
       exact jn (g3, _, b8, bh) _ ⟨aF, ⟨_, rfl, b_⟩⟩ ⟨rfl, rfl, rfl, rfl, rfl, rfl, trivial⟩
      ·refine aj rfl (fun b8 => ?_)
       refine wz.Ae.f.b.z ?_
       refine aB rfl rfl (wX hb bI fj dy _ (k : Int) bj) ?_
       rintro w g3 cM aF
       rw [jz h1] at cM
       obtain ⟨ev, rfl, qf⟩ := cM
       obtain ⟨a1, x1, c1, a2, x2, c2, a3, x3, c3, rfl, b_⟩ := qf.form
       refine wz.Av.f.b.z ?_; refine ⟨_, (ag rfl), ?_⟩; refine wz.Al.z ?_; refine ⟨_, (ag rfl), ?_⟩; refine wz.As.z ?_; refine ⟨_, (ag rfl), ?_⟩; refine wz.Az.z ?_; refine ⟨_, (ag rfl), ?_⟩
       refine wz.AB.f.b.q.At.z ?_; refine ⟨_, (ag rfl), ?_⟩
       refine wz.d.AP.F.f.b.B.AG.z ?_
       exact jn (g3, _, b8, bh) _ ⟨aF, ⟨_, rfl, b_⟩⟩ ⟨rfl, rfl, rfl, rfl, rfl, rfl, trivial⟩
 ·intro K hK
  refine wz.a.c.z ?_
  refine aG 2 rfl rfl rfl (Gf g0 l hb bI (.slice la l.length lc) hs b s3 (w := [58]) dC) ?_
  rintro v g1 r' ⟨rfl, rfl, rfl⟩ _
  cases s3 with
  | bad j p =>
   refine wz.d.j.o.b.z ?_
   exact hK (.bad j p, false, bX, .slice none 0 0, g1) _ ⟨ab.le_refl _, ⟨_, _, _, rfl⟩, JM g1, hh⟩ ⟨rfl, rfl, rfl, trivial⟩
  | ak k =>
   obtain ⟨h1, h2, h3⟩ := hh
   have hp : dZ l k [58] = bB l k [58] := lZ bI dC k
   unfold EK at h3
   rw [show RS.fV l [58] (.ak k) = bB l k [58] from hp]
   cases hw : bB l k [58] with
   | false =>
    rw [(lY (hp.trans hw)).1]
    rw [hw, if_neg dC] at h3
    refine wz.d.j.o.b.z ?_
    exact hK (.ak k, false, bX, .slice none 0 0, g1) _ ⟨ab.le_refl _, ⟨_, _, _, rfl⟩, JM g1, h1, h2, h3⟩ ⟨rfl, rfl, rfl, trivial⟩
   | true =>
    have hlt := cF hw
    rw [(kN (hp.trans hw)).1]
    rw [hw, if_pos rfl] at h3
    have re := fun t k' h => nU l _ .whole (k + 1) (t, k') (Nat.lt_succ_self _) h
    have xp := fun t k' h => xj l .whole (k + 1) t k' hlt h
    refine wz.t.b.z ?_
    refine cD (ι := ab × Value × Nat × Nat) (fun p => [(0, ptr b 0), (3, ptr b3 0), (4, ptr b2 0), (5, ptr p.2.2.1 0), (6, .int .i64 (sW (a_ l .whole (k + 1)))), (7, ptr p.2.2.2 0)]) (fun p => p.1)
     (fun p => [.ae p.2.2.2 33 [.int .i64 (sX (a_ l .whole (k + 1))), .int .i64 (sY (a_ l .whole (k + 1)))], .ae p.2.2.1 41 (aH (mb (a_ l .whole (k + 1))) p.2.1), .ae b3 49 (oU (posOf l i) rr nn false rX dK), .ae b2 49 (oU 0 false [] false rX dK), eI b (.slice la l.length lc) (.ak (k + 1))])
     (fun p => ab.le g1 p.1 ∧ (∃ a m c, p.2.1 = .slice a m c) ∧ bx p.1 (mb (a_ l .whole (k + 1))) (aH (mb (a_ l .whole (k + 1))) p.2.1)) ?_ ?_
    ·rintro ⟨g2, sv, b5, b7⟩ ⟨n1, ⟨ta, tm, tc, n2⟩, n3⟩
     simp only at n1 n2 n3
     subst n2
     have bj := hs.mono n1
     generalize a_ l .whole (k + 1) = q at h3 re xp n3
     try dsimp only
     cases q with
     | error p =>
      refine wz.G.a.a.c.z ?_
      refine aG 4 rfl rfl rfl (xi g2 l (.slice la l.length lc) bj b (.ak (k + 1)) (.bad 0 p)) ?_
      rintro v fj r' ⟨rfl, rfl⟩ _
      refine iV ?_
      skip
      refine bO [2] mixed (fun hG => ?_)
      refine wz.P.z ?_; refine ⟨_, (bP 1 rfl rfl rL), ?_⟩; refine wz.R.z ?_; refine ⟨_, (aI rfl), ?_⟩
      refine wz.X.f.b.Bj.AL.z ?_; refine ⟨_, (aI rfl), ?_⟩
      refine wz.d.BW.F.f.b.V.AH.z ?_
      exact hK (.bad 0 p, true, bX, .slice ta tm tc, fj) _ ⟨n1, ⟨_, _, _, rfl⟩, n3, Nat.zero_le _, h3⟩ ⟨rfl, rfl, rfl, trivial⟩
     | ok q =>
      obtain ⟨t, k'⟩ := q
      have gW := re t k' rfl
      have fb := xp t k' rfl
      simp only at gW
      refine wz.G.a.a.c.z ?_
      refine aG 4 rfl rfl rfl (xi g2 l (.slice la l.length lc) bj b (.ak (k + 1)) (.ak k')) ?_
      rintro v fj r' ⟨rfl, rfl⟩ _
      refine iV ?_
      skip
      refine bO [2] mixed (fun hG => ?_)
      refine wz.P.z ?_; refine ⟨_, (bP 1 rfl rfl rL), ?_⟩; refine wz.R.z ?_; refine ⟨_, (aI rfl), ?_⟩
      refine wz.X.f.b.Bj.AL.z ?_; refine ⟨_, (aI rfl), ?_⟩
      refine wz.d.BW.F.f.b.V.AH.z ?_
      exact hK (.ak k', true, t, .slice ta tm tc, fj) _ ⟨n1, ⟨_, _, _, rfl⟩, n3, fb, oM, h3⟩ ⟨rfl, rfl, rfl, trivial⟩
    ·intro K2 jn
     skip
     refine bO [] mixed (fun hG => ?_)
     refine wz.P.z ?_; refine ⟨_, (ag rfl), ?_⟩; refine wz.R.z ?_; refine ⟨_, (ag rfl), ?_⟩; refine wz.S.z ?_; refine ⟨_, (aI rfl), ?_⟩; refine wz.X.z ?_; refine ⟨_, (a7 2 rfl rfl rfl), ?_⟩; refine wz.Z.z ?_; refine ⟨_, (ag rfl), ?_⟩; refine wz.Ad.z ?_; refine ⟨_, (ag rfl), ?_⟩; refine wz.Ak.z ?_; refine ⟨_, (aI rfl), ?_⟩; refine wz.Aa.z ?_; refine ⟨_, (a7 2 rfl rfl rfl), ?_⟩
     refine qY 8 13 14 kR rfl rfl rfl ?_ ?_ ?_
     ·refine aB rfl rfl (n_ hb g1 hg _ ((k + 1 : Nat) : Int) hs) ?_
      rintro w g2 cM aD
      rw [jz (show k + 1 ≤ l.length by omega)] at cM
      obtain ⟨tv, rfl, cO⟩ := cM
      obtain ⟨ta, tm, tc, rfl, ht⟩ := cO.bA
      refine wz.Av.f.b.z ?_; refine ⟨_, (ag rfl), ?_⟩; refine wz.Al.z ?_; refine ⟨_, (ag rfl), ?_⟩; refine wz.As.z ?_; refine ⟨_, (ag rfl), ?_⟩; refine wz.Az.z ?_; refine ⟨_, (ag rfl), ?_⟩
      refine eH 13 14 kR rfl rfl ?_ ?_
      ·refine aj rfl (fun b5 => ?_)
       refine wz.AO.f.b.z ?_
       refine aj rfl (fun b7 => ?_)
       refine wz.AB.f.b.B.At.f.b.z ?_; refine ⟨_, (ag rfl), ?_⟩
       refine wz.d.F.f.b.q.AG.z ?_
       exact jn (g2, .slice ta tm tc, b5, b7) _ ⟨aD, ⟨_, _, _, rfl⟩, ht⟩ ⟨rfl, rfl, rfl, rfl, rfl, rfl, trivial⟩
      ·refine aj rfl (fun b7 => ?_)
       refine wz.AJ.f.b.z ?_
       refine aj rfl (fun b5 => ?_)
       refine wz.AB.f.b.q.At.f.b.z ?_; refine ⟨_, (ag rfl), ?_⟩
       refine wz.d.AP.F.f.b.B.AG.z ?_
       exact jn (g2, .slice ta tm tc, b5, b7) _ ⟨aD, ⟨_, _, _, rfl⟩, ht⟩ ⟨rfl, rfl, rfl, rfl, rfl, rfl, trivial⟩
     ·refine aj rfl (fun b5 => ?_)
      refine wz.f.b.z ?_
      refine eH 8 14 kR rfl rfl ?_ ?_
      ·refine aB rfl rfl (n_ hb g1 hg _ ((k + 1 : Nat) : Int) hs) ?_
       rintro w g2 cM aD
       rw [jz (show k + 1 ≤ l.length by omega)] at cM
       obtain ⟨tv, rfl, cO⟩ := cM
       obtain ⟨ta, tm, tc, rfl, ht⟩ := cO.bA
       refine wz.Av.f.b.z ?_; refine ⟨_, (ag rfl), ?_⟩; refine wz.Al.z ?_; refine ⟨_, (ag rfl), ?_⟩; refine wz.As.z ?_; refine ⟨_, (ag rfl), ?_⟩; refine wz.Az.z ?_; refine ⟨_, (ag rfl), ?_⟩
       refine wz.AO.z ?_
       refine aj rfl (fun b7 => ?_)
       refine wz.AB.f.b.B.At.f.b.z ?_; refine ⟨_, (ag rfl), ?_⟩
       refine wz.d.F.f.b.q.AG.z ?_
       exact jn (g2, .slice ta tm tc, b5, b7) _ ⟨aD, ⟨_, _, _, rfl⟩, ht⟩ ⟨rfl, rfl, rfl, rfl, rfl, rfl, trivial⟩
      ·refine aj rfl (fun b7 => ?_)
       refine wz.Ae.f.b.z ?_
       refine aB rfl rfl (n_ hb g1 hg _ ((k + 1 : Nat) : Int) hs) ?_
       rintro w g2 cM aD
       rw [jz (show k + 1 ≤ l.length by omega)] at cM
       obtain ⟨tv, rfl, cO⟩ := cM
       obtain ⟨ta, tm, tc, rfl, ht⟩ := cO.bA
       refine wz.Av.f.b.z ?_; refine ⟨_, (ag rfl), ?_⟩; refine wz.Al.z ?_; refine ⟨_, (ag rfl), ?_⟩; refine wz.As.z ?_; refine ⟨_, (ag rfl), ?_⟩; refine wz.Az.z ?_; refine ⟨_, (ag rfl), ?_⟩
       refine wz.AB.f.b.B.At.z ?_; refine ⟨_, (ag rfl), ?_⟩
       refine wz.d.F.f.b.q.AG.z ?_
       exact jn (g2, .slice ta tm tc, b5, b7) _ ⟨aD, ⟨_, _, _, rfl⟩, ht⟩ ⟨rfl, rfl, rfl, rfl, rfl, rfl, trivial⟩
     ·refine aj rfl (fun b7 => ?_)
      refine wz.f.b.z ?_
      refine eH 8 13 kR rfl rfl ?_ ?_
      ·refine aB rfl rfl (n_ hb g1 hg _ ((k + 1 : Nat) : Int) hs) ?_
       rintro w g2 cM aD
       rw [jz (show k + 1 ≤ l.length by omega)] at cM
       obtain ⟨tv, rfl, cO⟩ := cM
       obtain ⟨ta, tm, tc, rfl, ht⟩ := cO.bA
       refine wz.Av.f.b.z ?_; refine ⟨_, (ag rfl), ?_⟩; refine wz.Al.z ?_; refine ⟨_, (ag rfl), ?_⟩; refine wz.As.z ?_; refine ⟨_, (ag rfl), ?_⟩; refine wz.Az.z ?_; refine ⟨_, (ag rfl), ?_⟩
       refine wz.AJ.z ?_
       refine aj rfl (fun b5 => ?_)
       refine wz.AB.f.b.q.At.f.b.z ?_; refine ⟨_, (ag rfl), ?_⟩
       refine wz.d.AP.F.f.b.B.AG.z ?_
       exact jn (g2, .slice ta tm tc, b5, b7) _ ⟨aD, ⟨_, _, _, rfl⟩, ht⟩ ⟨rfl, rfl, rfl, rfl, rfl, rfl, trivial⟩
      ·refine aj rfl (fun b5 => ?_)
       refine wz.Ae.f.b.z ?_
       refine aB rfl rfl (n_ hb g1 hg _ ((k + 1 : Nat) : Int) hs) ?_
       rintro w g2 cM aD
       rw [jz (show k + 1 ≤ l.length by omega)] at cM
       obtain ⟨tv, rfl, cO⟩ := cM
       obtain ⟨ta, tm, tc, rfl, ht⟩ := cO.bA
       refine wz.Av.f.b.z ?_; refine ⟨_, (ag rfl), ?_⟩; refine wz.Al.z ?_; refine ⟨_, (ag rfl), ?_⟩; refine wz.As.z ?_; refine ⟨_, (ag rfl), ?_⟩; refine wz.Az.z ?_; refine ⟨_, (ag rfl), ?_⟩
       refine wz.AB.f.b.q.At.z ?_; refine ⟨_, (ag rfl), ?_⟩
       refine wz.d.AP.F.f.b.B.AG.z ?_
       exact jn (g2, .slice ta tm tc, b5, b7) _ ⟨aD, ⟨_, _, _, rfl⟩, ht⟩ ⟨rfl, rfl, rfl, rfl, rfl, rfl, trivial⟩
end Go.Proofs.YtlnjfkfojkgiiaaGreatDoor
namespace Go.Proofs.YtlnjfkfojkgiiaaGreatDoor
theorem dP.Wu {M M' : Nat} (hM : M ≤ M') {e : Ex} (h : dP M e) : dP M' e := by
 induction h with
 | mk e h1 h2 hc ih => exact .mk e h1 oM ih
def Gi (M : Nat) (d : Da) : Prop := ∀ c ∈ d.cons, ∀ t ∈ c.fields, cu t ≤ M
def xq (M : Nat) (x : Bi) : Prop := (x.fD = false → cu x.sig ≤ 40) ∧ cu x.sig ≤ M ∧ aN x.body ≤ 2 * M + 2 ∧ dP M x.body
theorem Wv {l : List Tok} {n : Bytes} {i : Nat} {t : Ty} {j : Nat} (hj : j ≤ l.length) (h : a_ l (.args n []) i = .ok (t, j)) : ∀ a ∈ t.args, cu a ≤ l.length := by
 intro a ha
 have h1 := EY l _ (.args n []) i t j (Nat.lt_succ_self _) h
 simp only [eX] at h1
 rw [uw] at h1
 have h2 := zg ha
 omega
theorem MV {l : List Tok} : ∀ (f : Nat) (acc : List Cn) (j : Nat) (x : List Cn × Nat), (∀ c ∈ acc, ∀ t ∈ c.fields, cu t ≤ l.length) → od l f acc j = .ok x → ∀ c ∈ x.1, ∀ t ∈ c.fields, cu t ≤ l.length
 | 0, _, _, _, _, h => by cases h
 | f + 1, acc, j, x, ha, h => by
  simp only [od] at h
  split at h
  ·cases h
  ·rename_i c hc
   split at h
   ·cases h
   ·rename_i t k hq
    have hj : j + 1 ≤ l.length := by
     unfold nameAt at hc
     split at hc
     ·rename_i ht; exact (List.getElem?_eq_some_iff.1 ht).1
     ·cases hc
    have hk := xj l _ _ _ _ hj hq
    have hd := Wv hk hq
    have s8 : ∀ c' ∈ acc ++ [⟨posOf l j, c, t.args⟩], ∀ t ∈ c'.fields, cu t ≤ l.length := fun c' iA => by
     rcases List.mem_append.1 iA with h | h
     ·exact ha c' h
     ·rw [List.mem_singleton.1 h]; exact hd
    split at h
    ·exact MV f _ _ x s8 h
    ·split at h
     ·cases h; exact s8
     ·cases h
theorem Ww {l : List Tok} {i : Nat} {d : Da} {j : Nat} (h : iL l i = .ok (d, j)) : Gi l.length d := by
 unfold iL at h
 split at h
 ·split at h
  ·cases h
  ·split at h
   ·split at h
    ·cases h
    ·rename_i cs k hq
     have := MV _ [] _ _ (fun c hc => by cases hc) hq
     cases h
     exact this
   ·cases h
 ·cases h
theorem MW {l : List Tok} {pos : Int} {r : Bool} {n : Bytes} {hs : Bool} {t : Ty} {k : Nat} {x : Bi} {j : Nat} (h1 : hs = false → cu t ≤ 40) (h2 : cu t ≤ l.length) (h : nb l (fun e => ⟨pos, r, n, hs, t, e⟩) k = .ok (x, j)) : xq l.length x := by
 unfold nb at h
 split at h
 ·rename_i hm
  have hk := cF hm
  split at h
  ·cases h
  ·rename_i e m hq
   split at h
   ·rename_i wV
    have := cF wV
    have h3 := MX l _ .expr (k + 1) e m (Nat.lt_succ_self _) hq
    have h4 := S_ hq
    simp only at h3
    cases h
    exact ⟨h1, h2, uM, h4⟩
   ·cases h
 ·cases h
theorem Wx {l : List Tok} {i : Nat} {x : Bi} {j : Nat} (h : jo l i = .ok (x, j)) : xq l.length x := by
 have sig : ∀ (r : Bool) (k : Nat), pP l (posOf l i) r k = .ok (x, j) → xq l.length x := by
  intro r k h
  unfold pP at h
  split at h
  ·cases h
  ·split at h
   ·rename_i hm
    have hk := cF hm
    split at h
    ·cases h
    ·rename_i t k' hq
     have h3 := EZ (fun n acc => by simp) hq
     have h4 := xj l _ _ _ _ hk hq
     exact MW (fun h => by cases h) oM h
   ·exact MW (fun _ => by rw [pR]; omega) (by rw [pR]; omega) h
 unfold jo at h
 split at h
 ·split at h
  ·exact sig _ _ h
  ·exact sig _ _ h
 ·cases h
theorem Gj {l : List Tok} : ∀ (f : Nat) (p : Pg) (i : Nat) (P : Pg), (∀ d ∈ p.al, Gi l.length d) → (∀ x ∈ p.binds, xq l.length x) → oe l f p i = .ok P → (∀ d ∈ P.al, Gi l.length d) ∧ (∀ x ∈ P.binds, xq l.length x)
 | 0, p, _, P, h1, h2, h => by cases h; exact ⟨h1, h2⟩
 | f + 1, p, i, P, h1, h2, h => by
  simp only [oe] at h
  split at h
  ·split at h
   ·split at h
    ·cases h
    ·rename_i d j hq
     have hd := Ww hq
     exact Gj f ⟨p.al ++ [d], p.binds⟩ _ P (fun d' pJ => by
      rcases List.mem_append.1 pJ with h | h
      ·exact h1 d' h
      ·rw [List.mem_singleton.1 h]; exact hd) h2 h
   ·split at h
    ·cases h
    ·rename_i d j hq
     have hd := Wx hq
     exact Gj f ⟨p.al, p.binds ++ [d]⟩ _ P h1 (fun d' pJ => by
      rcases List.mem_append.1 pJ with h | h
      ·exact h2 d' h
      ·rw [List.mem_singleton.1 h]; exact hd) h
  ·cases h; exact ⟨h1, h2⟩
theorem Wy {l : List Tok} (hb : l.length ≤ 4000) {P : Pg} (h : mH l ⟨[], []⟩ 0 = .ok P) : wZ P := by
 obtain ⟨h1, h2⟩ := Gj _ _ _ P (fun d h => by cases h) (fun d h => by cases h) h
 exact ⟨fun d hd c hc t ht => by have := h1 d hd c hc t ht; omega, fun b jX => by
  obtain ⟨a1, a2, a3, a4⟩ := h2 b jX
  exact ⟨a1, oM, oM, dP.Wu oM a4⟩⟩
def nC (s : Bytes) : Except (Int × Int) Pg := match scan s with
 | .bad e p => .error (e, p)
 | .ok l => match mH l ⟨[], []⟩ 0 with
  | .error p => .error (3, p)
  | .ok P => if (fH P).1 = 0 then .ok P else .error (fH P)
def xt : Except (Int × Int) Pg → Pg
 | .ok P => P
 | .error _ => ⟨[], []⟩
def uW {α : Type} : Except (Int × Int) α → Int × Int
 | .ok _ => (0, 0)
 | .error x => x
def A7 (r : Except (Int × Int) Pg) (v : Value) (g' : ab) : Prop := ∃ pv, v = .tuple #[pv, pq (uW r)] ∧ ll g' pv (xt r)
def mf (l : List Tok) (R : Except Int Pg) (p : Pg) : RS → Prop
 | .ak i => i ≤ l.length ∧ p.al.length ≤ i ∧ p.binds.length ≤ i ∧ R = mH l p i
 | .bad j q => j ≤ l.length ∧ R = .error q
theorem mf.data {l : List Tok} {R : Except Int Pg} {p : Pg} {i : Nat} (h : mf l R p (.ak i)) (hd : cA l i eC = true) :
  (∀ q, iL l i = .error q → ∀ j, j ≤ l.length → ∀ p', mf l R p' (.bad j q)) ∧ (∀ d j, iL l i = .ok (d, j) → mf l R ⟨p.al ++ [d], p.binds⟩ (.ak j)) := by
 obtain ⟨h1, h2, h3, h4⟩ := h
 have hi := cF hd
 rw [uO, if_pos hi, if_pos hd] at h4
 constructor
 ·intro q hq j hj p'
  rw [hq] at h4
  exact ⟨hj, h4⟩
 ·intro d j hq
  have := v_ hq
  rw [hq] at h4
  exact ⟨this.2, by simp only [List.length_append, List.length_cons, List.length_nil]; omega, uM, h4⟩
theorem mf.bind {l : List Tok} {R : Except Int Pg} {p : Pg} {i : Nat} (h : mf l R p (.ak i)) (hi : i < l.length) (hd : cA l i eC = false) :
  (∀ q, jo l i = .error q → ∀ j, j ≤ l.length → ∀ p', mf l R p' (.bad j q)) ∧ (∀ d j, jo l i = .ok (d, j) → mf l R ⟨p.al, p.binds ++ [d]⟩ (.ak j)) := by
 obtain ⟨h1, h2, h3, h4⟩ := h
 rw [uO, if_pos hi, if_neg (by rw [hd]; decide)] at h4
 constructor
 ·intro q hq j hj p'
  rw [hq] at h4
  exact ⟨hj, h4⟩
 ·intro d j hq
  have := MY hq
  rw [hq] at h4
  exact ⟨this.2, uM, by simp only [List.length_append, List.length_cons, List.length_nil]; omega, h4⟩
theorem Wz : ∀ {l : List Bi} {x : Int × Int}, iz l = some x → x.1 ≠ 0
 | [], x, h => by cases h
 | b :: r, x, h => by
  simp only [iz] at h
  split at h
  ·cases h; simp
  ·cases hw : hO b.body with
   | some q => rw [hw] at h; simp at h; rw [← h]; simp
   | none => rw [hw] at h; simp only [Option.map_none, Option.none_or] at h; exact Wz h
theorem WA {g : ab} {l : List Bi} {xs cs : List Value} {d : Bi} (h : aL (iQ g) l xs) (h1 : iQ g d cs) : aL (iQ g) (l ++ [d]) (xs ++ cs) := aL.snoc h1 h
end Go.Proofs.YtlnjfkfojkgiiaaGreatDoor
namespace Go.Proofs.YtlnjfkfojkgiiaaGreatDoor
attribute [local irreducible] wpList Code.wp ah bodyPost Go.aZ.Ends Exit.then Exit.inBlock dJ Wq Kq
end Go.Proofs.YtlnjfkfojkgiiaaGreatDoor
namespace Go.Proofs.YtlnjfkfojkgiiaaGreatDoor
attribute [local irreducible] wpList Code.wp ah bodyPost Go.aZ.Ends Exit.then Exit.inBlock dJ Wq Kq
def Gk (t : Ty) : Except (Int × Int) Ty := if 40 < cu t then .error (4, 0) else .ok t
def tl (s : Bytes) : Except (Int × Int) Ty := match scan s with
 | .bad e p => .error (e, p)
 | .ok l => match a_ l .whole 0 with
  | .error p => .error (3, p)
  | .ok (t, j) => if j < l.length then .error (3, bH l j) else Gk t
def MZ : Except (Int × Int) Ty → Ty
 | .ok e => e
 | .error _ => bX
def M0 (r : Except (Int × Int) Ty) (v : Value) (g' : ab) : Prop := ∃ pv, v = .tuple #[pv, pq (uW r)] ∧ aQ g' pv (MZ r)
theorem WB {s : Bytes} {e p : Int} (h : scan s = .bad e p) : e ≠ 0 := by
 unfold scan at h
 split at h
 ·cases h; decide
 ·split at h
  ·cases h
  ·cases h; decide
end Go.Proofs.YtlnjfkfojkgiiaaGreatDoor
namespace Go.Proofs.YtlnjfkfojkgiiaaGreatDoor
attribute [local irreducible] wpList Code.wp ah bodyPost Go.aZ.Ends Exit.then Exit.inBlock dJ Wq Kq
theorem xu {l : List Tok} (hb : TB l) (g : ab) (hg : fN g) (v : Value) (i : Int) (hs : cg g v l) : bK prog 68 [v, .int .i64 i] g (FP (a_ l .atom (idxOf l.length i))) := by
 have hi : idxOf l.length i ≤ l.length := by unfold idxOf; split <;> omega
 refine aw func68 rfl ntmps68 rfl fun E hE => ?_
 refine aS ?_
 refine aj rfl (fun b4 => ?_)
 refine wz.a.z ?_
 refine aj rfl (fun b6 => ?_)
 refine wz.a.a.a.c.b.z ?_
 refine aO rfl rfl (index_spec g v l hs i) ?_
 skip
 refine aB rfl rfl (WC hb g v _ hs hi) ?_
 rintro w g1 hw hle
 have cG := hg.mono hle
 cases hq : a_ l .atom (idxOf l.length i) with
 | error p =>
  rw [hq] at hw
  obtain ⟨tv, j, t, rfl, cO, hj⟩ := hw
  unfold lL
  refine wz.a.a.a.z ?_
  refine aB rfl rfl (L1 g1 cG tv t j p cO) ?_
  rintro w g2 ⟨rfl, rfl⟩ _
  refine wz.i.b.q.a.B.a.a.a.z ?_
  exact eO [] rfl (ay 1 rfl rfl rL) (.tmp rfl) (ay 0 rfl rfl rL) sM ⟨⟨_, rfl, pZ _⟩, rfl⟩
 | ok q =>
  obtain ⟨t, j⟩ := q
  rw [hq] at hw
  obtain ⟨tv, rfl, cO, ik, cE⟩ := hw
  refine wz.a.a.a.z ?_
  refine aB rfl rfl (L0 g1 tv t j cO) ?_
  rintro w g2 ⟨rfl, rfl⟩ _
  obtain ⟨a, m', c, rfl, ht⟩ := cO.bA
  refine wz.i.b.q.a.B.a.a.a.z ?_
  exact eO [] rfl (ay 1 rfl rfl rL) (.tmp rfl) (ay 0 rfl rfl rL) sM ⟨⟨_, rfl, ⟨_, rfl, ht⟩⟩, rfl⟩
end Go.Proofs.YtlnjfkfojkgiiaaGreatDoor

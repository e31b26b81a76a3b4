/- Types that a maker of programs makes; whether an expression has a part of a kind: the walk of typedholesref4.Has. -/
import Derived.Test.YtlnjfkfojkgiiaaGreatDoorK27
open Go Go.aZ Go.Th Go.Proofs Tryz
set_option maxRecDepth 10000
set_option maxHeartbeats 4000000
attribute [local irreducible] wpList Code.wp ah bodyPost Go.aZ.Ends Exit.then Exit.inBlock dJ Wq Kq
namespace Go.Th
def nR : Nat → Nat
 | 0 => 1
 | d + 1 => 1 + 2 * nR d
theorem PV : ∀ d, 1 ≤ nR d
 | 0 => Nat.le_refl _
 | d + 1 => by simp only [nR]; omega
def vJ (d : Nat) (t : Ty) : Prop := OK 0 0 false t ∧ aE t ≤ nR d
theorem PW {B : Nat} {l : List Ty} (h : ∀ t ∈ l, aE t ≤ B) (hl : l.length ≤ 2) : bM l ≤ 2 * B :=
 Nat.le_trans (DH h) (Nat.mul_le_mul_right _ hl)
theorem DM (a b : Ty) : aE (cZ a b) = 1 + aE a + aE b := by simp [cZ, bJ, aE, bM]; omega
theorem aAF : ∀ t : Ty, OK 0 0 false t → kZ 3 t = false → fr t ∧ (cK t).length + 5 ≤ aE t * 1010 := by
 refine kH fun t ih ht hk => ?_
 have hn := lU ht
 have eA : ∀ a ∈ t.args, kZ 3 a = false := by
  obtain ⟨k, n, i, h, a⟩ := t
  simp only [kZ, Bool.or_eq_false_iff] at hk
  have : ∀ l : List Ty, ov 3 l = false → ∀ a ∈ l, kZ 3 a = false := by
   intro l
   induction l with
   | nil => intro _ a h; cases h
   | cons x r oG =>
    intro hx a ha
    simp only [ov, Bool.or_eq_false_iff] at hx
    rcases List.mem_cons.1 ha with rfl | ha
    ·exact hx.1
    ·exact oG hx.2 a ha
  exact this a hk.2
 have DN : ∀ a ∈ t.args, fr a ∧ (cK a).length + 5 ≤ aE a * 1010 := fun a ha => ih a ha (oB ht a ha) (eA a ha)
 have lD := jA t
 rcases iT hn with h | h | h | h | h
 ·omega
 ·omega
 ·exfalso
  obtain ⟨k, n, i, h', a⟩ := t
  have h1 := h.1
  simp only [Ty.kind] at h1
  subst h1
  simp [kZ] at hk
 ·obtain ⟨h1, h2, h3⟩ := h
  generalize t.args = az at *
  generalize t.name = nm at *
  subst h2
  rcases h3 with h3 | ⟨h3, h4⟩
  ·simp only [qm, Bool.and_eq_true, decide_eq_true_eq] at h3
   refine ⟨.bQ _ _ h3.1 (fun a ha => (DN a ha).1), ?_⟩
   rw [uA az (Hi h3.1), List.length_append]
   have : ∀ l : List Ty, (∀ a ∈ l, (cK a).length + 5 ≤ aE a * 1010) → (eN l).length ≤ bM l * 1010 := by
    intro l
    induction l with
    | nil => intro _; simp [eN]
    | cons x r oG =>
     intro hx
     have a1 := hx x (List.mem_cons_self ..)
     have a2 := oG (fun y hy => hx y (List.mem_cons_of_mem _ hy))
     have a3 := Fc x
     rw [oZ]
     simp only [bM, List.length_cons, List.length_append, Nat.add_mul]
     omega
   have := this az (fun a ha => (DN a ha).2)
   have h4 := h3.2
   simp only [bJ, aE, Nat.add_mul]
   omega
  ·subst h3
   match az, h4 with
   | [x, y], _ =>
    obtain ⟨x1, x2⟩ := DN x sM
    obtain ⟨y1, y2⟩ := DN y sM
    refine ⟨.arrow x y x1 y1, ?_⟩
    have := Kv x
    rw [show bJ eg [x, y] = cZ x y from rfl, uB, DM, List.length_append, List.length_append]
    simp only [List.length_cons, List.length_nil, Nat.add_mul]
    omega
 ·exact absurd h.1 dC
def sQ : Nat → Nat
 | 0 => 2
 | d + 1 => 20 + 4 * sQ d
theorem yA : ∀ d, 2 ≤ sQ d
 | 0 => Nat.le_refl _
 | d + 1 => by simp only [sQ]; omega
theorem PX : ∀ d, d ≤ 3 → sQ d ≤ 1000 := fun d hd => by
 match d, hd with
 | 0, _ => decide
 | 1, _ => decide
 | 2, _ => decide
 | 3, _ => decide
end Go.Th
namespace Go.Proofs.YtlnjfkfojkgiiaaGreatDoor
theorem aAG {t u : Ty} {d : Nat} (h1 : vJ d t) (h2 : vJ d u) : vJ (d + 1) (cZ t u) := ⟨C4 h1.1 h2.1, by
 have a := h1.2
 have b := h2.2
 rw [DM]
 simp only [nR]
 omega⟩
theorem Ie : zz vJ := ⟨fun d t h => ⟨h.1, Nat.le_trans h.2 (PV d)⟩, fun d => ⟨ok_int, by have := PV d; simpa [fL, bJ, aE, bM] using this⟩, fun d dd ta h1 h2 h3 => ⟨C5 (GY h1) (fun t ht => (h3 t ht).1), by
 have := PW (fun t ht => (h3 t ht).2) h2
 simp only [bJ, aE, nR]
 omega⟩, fun d t u h1 h2 => aAG h1 h2⟩
theorem PY (k : Int) : ∀ (N : Nat) (g : ab) (v : Value) (e : Ex), aN e < N → aN e ≤ 1000000 → cT g v e → bK prog 49 [v, .int .i64 k] g fun w g' => ∃ b, w = .bool b
 | 0, g, v, e, h, _, _ => by omega
 | N + 1, g, v, e, h, hs, hv => by
  have ih := PY k N
  obtain ⟨a1, c1, a2, c2, a3, m3, c3, xk, xa, rfl, h1, h2, h3, h4, h5⟩ := hv.open
  have hlen := my e
  refine aw func49 rfl ntmps49 rfl fun E hE => ?_
  refine aS ?_
  refine aP rfl rfl rfl (fun b2 => ?_)
  refine wz.b.a.a.v.g.c.e.b.a.z ?_
  refine an rfl (fun hk => ?_) (fun hk => ?_)
  ·refine wz.l.i.b.a.c.z ?_
   exact ao [] rfl rfl sZ ⟨⟨_, rfl⟩, rfl⟩
  ·refine wz.G.c.d.j.z ?_
   refine aB rfl rfl (rY g _ e hv hs) ?_
   rintro w g1 ⟨xs, eV, lF⟩ a8
   obtain ⟨ca, cc, rfl⟩ := aU eV
   have gk := eV.le
   refine wz.BA.p.b.a.c.e.b.a.z ?_
   refine aX (ι := Nat × ab) (fun o => [(1, .int .i64 k), (5, .slice ca (aY e).length cc), (6, .int .i64 o.1)]) (fun o => o.2) (fun _ => []) (fun o => o.1 ≤ (aY e).length ∧ ab.le g1 o.2) (fun o => (aY e).length - o.1) (0, g1) ⟨Nat.zero_le _, ab.le_refl _⟩ ⟨rfl, rfl, rfl, trivial⟩ rfl rfl ?_
   rintro ⟨i, g2⟩ ⟨hi, aD⟩
   simp only at hi aD
   try dsimp only
   refine wz.b.a.A.a.a.c.e.z ?_
   refine an rfl (fun hlt => ?_) (fun hlt => ?_)
   ·have dR : i < (aY e).length := by omega
    obtain ⟨b, off, cap, aq, hx⟩ := (eV.mono aD).held dR
    cases aq
    obtain ⟨cs, e1, hr⟩ := EV (own := []) (lF.mono aD) hx dR
    have bN := mC (List.getElem_mem dR)
    obtain ⟨y1, y2, y3, y4, y5, y6, y7, y8, y9, yk, ya, rfl, _⟩ := id e1.form
    refine wz.M.a.a.c.p.e.d.j.z ?_; refine eY rfl rfl hr rfl ?_; refine wz.a.z ?_
    refine aB rfl rfl (ih g2 _ (aY e)[i] oM oM ⟨_, rfl, e1⟩) ?_
    rintro w3 g3 ⟨z, rfl⟩ aF
    cases z with
    | true =>
     refine wz.l.x.l.l.x.i.b.a.c.t.b.z ?_
     exact ao [] rfl rfl sZ ⟨⟨_, rfl⟩, rfl⟩
    | false =>
     refine wz.b.a.E.a.r.d.y.j.o.b.z ?_
     exact aM (i + 1, g3) ⟨oM, ab.le_trans aD aF⟩ uM ⟨rfl, rfl, rfl, trivial⟩ rfl rfl
   ·refine wz.i.b.a.c.d.D.m.m.C.z ?_
    exact ao [] rfl rfl sZ ⟨⟨_, rfl⟩, rfl⟩
theorem DO (g : ab) (v : Value) (e : Ex) (k : Int) (hs : aN e ≤ 1000000) (hv : cT g v e) : bK prog 49 [v, .int .i64 k] g fun w g' => ∃ b, w = .bool b := PY k _ g v e (Nat.lt_succ_self _) hs hv
structure kK (g : ab) (ar : List Int) (lv : Value) (ds : List Da) (dv : Value) (ctx : List En) (cv : Value) : Prop where
 c : au g 1 lv ar.length (ar.map (Value.int .i64))
 hc : ar.length ≤ 1000000
 d : pw g ds dv
 x : ld g cv ctx
 xo : ∀ e ∈ ctx, vI e
theorem kK.mono {g g' : ab} (hle : ab.le g g') {ar : List Int} {lv : Value} {ds : List Da} {dv : Value} {ctx : List En} {cv : Value} (h : kK g ar lv ds dv ctx cv) : kK g' ar lv ds dv ctx cv :=
 ⟨h.c.mono hle, h.hc, h.d.mono hle, h.x.mono hle, h.xo⟩
def yB (ar : List Int) (b : Nat) (lv : Value) (d : Nat) (v : Value) (g' : ab) (r' : aA) : Prop := ∃ (e : Ex) (i' : Nat), cT g' v e ∧ GE e ∧ aN e ≤ sQ d ∧ r' = c8 b lv i' ∧ i' ≤ ar.length
theorem DP (k p : Int) (n : Bytes) (m : Int) : aN (cN k p n m) = 1 := by simp [cN, aN, cd, bZ]
theorem DQ (ar : List Int) (b d : Nat) (g : ab) (i : Nat) (lv : Value) (ds : List Da) (dv : Value) (ctx : List En) (cv : Value) (goal : Ty) (gv : Value) (hM : kK g ar lv ds dv ctx cv) (hl : ctx.length ≤ 100) (hg : aQ g gv goal) (hi : i ≤ ar.length) :
  cR prog 81 [ptr b 0, dv, cv, gv] g (c8 b lv i) (yB ar b lv d) := by
 obtain ⟨ga, gc, rfl, cG⟩ := hg.dQ
 have DR := yA d
 refine aw func81 rfl ntmps81 rfl fun E hE => ?_
 refine aS ?_
 refine aP rfl rfl rfl (fun b7 => ?_)
 skip
 refine aj rfl (fun b8 => ?_)
 refine wz.a.c.b.a.c.b.z ?_
 refine aB rfl rfl (G8 g ctx _ hM.x oM) ?_
 rintro w1 g1 ⟨o, ⟨xo, oq, tu⟩, vF, DF⟩ a8
 obtain ⟨wa, wc, rfl⟩ := aU oq
 refine wz.p.b.a.c.e.b.a.BG.z ?_
 refine aX (ι := Nat × ab × List Bytes × Value × List aA) (fun q => [(0, ptr b 0), (7, ptr b7 0), (8, ptr b8 0), (9, q.2.2.2.1), (10, .slice wa o.length wc), (11, .int .i64 q.1)]) (fun q => q.2.1)
  (fun q => q.2.2.2.2 ++ [.ae b8 47 dK, .ae b7 41 (aH goal (.slice ga goal.args.length gc)), c8 b lv i])
  (fun q => q.1 ≤ o.length ∧ ab.le g1 q.2.1 ∧ xL q.2.2.1 q.2.2.2.1 q.2.2.2.2 ∧ q.2.2.1.length ≤ q.1 ∧ ∀ n ∈ q.2.2.1, kindOf n = 1 ∧ n.length ≤ 2) (fun q => o.length - q.1) (0, g1, [], _, [_]) ⟨Nat.zero_le _, ab.le_refl _, ⟨none, 0, rfl, rfl⟩, Nat.le_refl _, (fun _ h => by cases h)⟩ ⟨rfl, rfl, rfl, rfl, rfl, rfl, trivial⟩ rfl rfl ?_
 rintro ⟨k, g2, acc, rv, own⟩ ⟨hk, aD, ⟨ra, rc, fJ, hown⟩, n7, tB⟩
 simp only at hk aD fJ hown n7 tB
 subst fJ
 subst hown
 try dsimp only
 have dy := (cG.mono a8).mono aD
 refine wz.b.a.A.a.a.c.e.z ?_
 refine an rfl (fun hlt => ?_) (fun hlt => ?_)
 ·have af : k < o.length := by omega
  obtain ⟨b0, off, cap, aq, oJ⟩ := (oq.mono aD).held af
  cases aq
  obtain ⟨cs, e1, hr⟩ := rz (fun _ _ h => h.one.1) (aL.mono (fun _ _ h => h.mono aD) tu) oJ af
  obtain ⟨ea, ec, rfl, e2⟩ := e1.form
  obtain ⟨en, ek, el⟩ := hM.xo _ (vF _ (List.getElem_mem af))
  generalize o[k] = e at e1 e2 hr en ek el
  obtain ⟨H9, PN, H_⟩ := en
  refine wz.e.p.e.d.j.z ?_
  refine bO [] mixed (fun hG => ?_)
  refine wz.P.z ?_; refine ⟨_, (ag rfl), ?_⟩; refine wz.R.z ?_; refine ⟨_, (ag rfl), ?_⟩
  refine bn 2 rfl kR rfl hG ⟨_, (bU (j := k) rfl rfl rfl af), ?_⟩
  refine wz.X.z ?_; refine ⟨_, (aI rfl), ?_⟩
  refine bn 4 rfl kR rfl hG ⟨_, (dL rfl ((hr _ (ab.le_refl _) _).part 1 (vs := .int .i64 e.gj :: aH e.ty (.slice ea e.ty.args.length ec)) (fun j x hj => by rw [Nat.add_comm]; exact hj)) rfl), ?_⟩
  refine wz.Ad.z ?_; refine ⟨_, (bP 2 rfl rfl rL), ?_⟩
  refine wz.Ao.z ?_
  refine aB rfl rfl (Zq g2 e.gj e.ty goal _ _ ⟨_, rfl, e2⟩ ⟨_, rfl, dy⟩ H_ H9) ?_
  rintro w3 g3 ⟨i1, i2, i3, z, rfl⟩ aF
  refine wz.Aa.f.b.z ?_; refine ⟨_, (ag rfl), ?_⟩; refine wz.AV.z ?_; refine ⟨_, (ag rfl), ?_⟩; refine wz.Av.z ?_; refine ⟨_, (ag rfl), ?_⟩
  refine wz.F.f.b.a.Bf.f.b.a.AW.z ?_
  cases z with
  | true =>
   refine wz.g.M.a.a.a.r.t.b.a.c.d.z ?_
   refine cj rfl rfl ((hr _ aF _).du 0 rfl) ?_
   refine bu rfl rfl rL rL rL rL rL (fun y0 => ?_)
   refine cV 1 0 rfl rfl rfl rfl rfl rL rL rfl mL oM (fun v' _ => ?_)
   refine wz.AC.z ?_
   rintro ⟨z1, z3, rfl⟩
   refine wz.Bb.b.a.E.a.r.d.y.N.a.z ?_
   refine aM (k + 1, g3, acc ++ [e.name], _, [_]) ⟨oM, ab.le_trans aD aF, ⟨z1, z3, by rw [List.length_append]; rfl, by rw [List.length_append, List.map_append]; rfl⟩, by rw [List.length_append, List.length_singleton]; omega, fun n hn => ?_⟩ uM ⟨rfl, rfl, rfl, rfl, rfl, rfl, trivial⟩ rfl rfl
   rcases List.mem_append.1 hn with hn | hn
   ·exact tB n hn
   ·rw [List.mem_singleton.1 hn]; exact ⟨ek, el⟩
  | false =>
   refine wz.b.a.E.a.r.d.y.j.o.b.a.c.d.z ?_
   exact aM (k + 1, g3, acc, _, [_]) ⟨oM, ab.le_trans aD aF, ⟨ra, rc, rfl, rfl⟩, uM, tB⟩ uM ⟨rfl, rfl, rfl, rfl, rfl, rfl, trivial⟩ rfl rfl
 ·refine bg (fun g3 aF bY => ?_)
  have d_ := dy.mono aF
  have jW := ((hM.mono a8).mono aD).mono aF
  refine wz.d.D.m.m.C.z ?_
  refine cD (ι := Nat) (fun _ => [(0, ptr b 0), (7, ptr b7 0), (8, ptr b8 0)]) (fun _ => g3) (fun q => [.ae b8 47 dK, .ae b7 41 (aH goal (.slice ga goal.args.length gc)), c8 b lv q]) (fun q => q ≤ ar.length) ?_ ?_
  case refine_2 =>
   intro K hK
   refine wz.a.a.A.a.c.z ?_
   refine bw rfl rfl (fun h1 => ?_) (fun h1 => ?_)
   ·have h0 : 0 < acc.length := by omega
    refine wz.k.u.z ?_
    refine aG 2 rfl rfl rfl (e_ g3 ar jW.hc lv jW.c b i hi 6 oM) ?_
    rintro v g4 r' ⟨rfl, q, i1, rfl, gp, ep, rfl, de⟩ _
    refine wz.b.a.u.z ?_
    refine an rfl (fun h2 => ?_) (fun h2 => ?_)
    ·refine wz.A.a.a.a.c.z ?_
     refine aG 2 rfl rfl rfl (e_ g4 ar jW.hc lv jW.c b i1 de acc.length oM) ?_
     rintro v g5 r' ⟨rfl, q, i2, rfl, gp, ep, rfl, cL⟩ _
     have hq : q.toNat < acc.length := by omega
     obtain ⟨b0, off, cap, aq, hx⟩ := bY.held hq
     cases aq
     have hnq := tB _ (List.getElem_mem hq)
     skip
     refine gV (j := q.toNat) rfl rfl rfl oM hq ?_
     refine cj rfl rfl (eT (hx (q.toNat * 1) (str acc[q.toNat]) (by simp [hq]))) ?_
     refine wz.l.i.b.q.K.z ?_
     exact bp [_] rfl (ay 0 rfl rfl rL) sB ⟨_, rfl, cN 1 0 acc[q.toNat] 0, i2, je _ 1 0 _ 0, .var 0 _ hnq.1 oM, by rw [DP]; omega, rfl, cL⟩
    ·refine wz.d.j.z ?_
     exact hK i1 _ de ⟨rfl, rfl, rfl, trivial⟩
   ·refine wz.d.j.o.b.a.h.h.h.z ?_
    exact hK i _ hi ⟨rfl, rfl, rfl, trivial⟩
  intro i1 de
  try dsimp only
  skip
  refine cD (ι := Nat × ab) (fun _ => [(0, ptr b 0), (8, ptr b8 0)]) (fun q => q.2) (fun q => [.ae b8 47 dK, c8 b lv q.1]) (fun q => q.1 ≤ ar.length) ?_ ?_
  case refine_2 =>
   intro K hK
   refine kM ?_
   refine bO [2] mixed (fun hG => ?_)
   refine wz.P.z ?_; refine ⟨_, (bP 1 rfl rfl rL), ?_⟩
   refine wz.BP.z ?_
   refine aB rfl rfl (qN g3) ?_
   rintro w4 g4 fZ aR
   obtain ⟨za, zc, rfl, hz⟩ := fZ.dQ
   refine wz.AL.f.b.z ?_
   refine aO rfl rfl (GD g4 goal fL _ _ ⟨_, rfl, d_.mono aR⟩ ⟨_, rfl, hz⟩) ?_
   refine wz.X.f.b.z ?_; refine ⟨_, (ag rfl), ?_⟩
   cases kY goal fL with
   | false =>
    refine fI 4 rfl rfl rfl kR rfl hG ?_; refine fI 5 rfl rfl rfl kR rfl hG ?_; refine fI 6 rfl rfl rfl kR rfl hG ?_; refine wz.Aa.z ?_; refine ⟨_, (ag rfl), ?_⟩
    refine wz.Dq.d.j.o.d.F.z ?_
    exact hK (i1, g4) _ de ⟨rfl, rfl, trivial⟩
   | true =>
    refine wz.CY.z ?_; refine ⟨_, (ag rfl), ?_⟩
    refine wz.k.Aq.z ?_
    refine aG 2 rfl rfl rfl (e_ g4 ar jW.hc lv (jW.c.mono aR) b i1 de 4 oM) ?_
    rintro v g5 r' ⟨rfl, q, i2, rfl, gp, ep, rfl, cL⟩ _
    refine wz.CZ.f.b.z ?_; refine ⟨_, (ag rfl), ?_⟩; refine wz.Aa.z ?_; refine ⟨_, (ag rfl), ?_⟩
    refine wz.d.F.z ?_
    refine an rfl (fun h2 => ?_) (fun h2 => ?_)
    ·refine wz.a.c.z ?_
     refine aG 2 rfl rfl rfl (e_ g5 ar jW.hc lv (jW.c.mono aR) b i2 cL 3 oM) ?_
     rintro v g6 r' ⟨rfl, q, i3, rfl, gp, ep, rfl, dE⟩ _
     obtain ⟨m, rfl⟩ : ∃ m : Nat, q = m := ⟨q.toNat, oM⟩
     refine wz.l.i.b.q.K.z ?_
     exact bp [_] rfl (ay 0 rfl rfl rL) sB ⟨_, rfl, cN 3 0 [] m, i3, je _ 3 0 [] m, .int 0 m oM, by rw [DP]; omega, rfl, dE⟩
    ·refine wz.Dq.d.j.z ?_
     exact hK (i2, g5) _ cL ⟨rfl, rfl, trivial⟩
  rintro ⟨i2, g4⟩ cL
  simp only at cL
  try dsimp only
  refine wz.i.b.q.K.c.z ?_
  exact bp [_] rfl (ay 0 rfl rfl rL) sA ⟨_, rfl, cN 10 0 [] 0, i2, je _ 10 0 [] 0, .hole 0, by rw [DP]; omega, rfl, cL⟩
def vK (ar : List Int) (b d : Nat) : Prop := ∀ (g : ab) (i : Nat) (lv : Value) (ds : List Da) (dv : Value) (ctx : List En) (cv : Value) (goal : Ty) (gv : Value), kK g ar lv ds dv ctx cv → ctx.length + 8 * d ≤ 90 → aQ g gv goal → OK 0 0 false goal → aE goal + 40 * d ≤ 5000 → i ≤ ar.length →
  cR prog 47 [ptr b 0, dv, cv, gv, .int .i64 d] g (c8 b lv i) (yB ar b lv d)
def PZ (g : ab) (cs : List Value) (e : Ex) : Prop := ∃ a1 m1 c1 a2 m2 c2 a3 m3 c3, cs = [.int .i64 e.kind, .int .i64 e.pos, str e.name, .int .i64 e.num, .slice a1 m1 c1, .slice a2 m2 c2, .int .i64 e.ty.kind, str e.ty.name, .int .i64 e.ty.id, .int .i64 e.ty.home, .slice a3 m3 c3] ∧ cJ g e cs
theorem P0 (p : Int) (f a : Ex) : aN (bC 5 p [] [f, a]) = 1 + aN f + aN a := by simp [bC, aN, cd, bZ]; omega
theorem aAH (ar : List Int) (b d : Nat) (hI : vK ar b d) (g : ab) (i : Nat) (lv : Value) (ds : List Da) (dv : Value) (ctx : List En) (cv : Value) (goal : Ty) (gv : Value) (hM : kK g ar lv ds dv ctx cv) (hl : ctx.length + 8 * (d + 1) ≤ 90) (hg : aQ g gv goal) (iu : OK 0 0 false goal) (lX : aE goal + 40 * (d + 1) ≤ 5000) (hi : i ≤ ar.length) :
  cR prog 86 [ptr b 0, dv, cv, gv, .int .i64 (d + 1 : Nat)] g (c8 b lv i) (yB ar b lv (d + 1)) := by
 obtain ⟨ga, gc, rfl, cG⟩ := hg.dQ
 have DR := yA d
 have Ig : sQ (d + 1) = 20 + 4 * sQ d := rfl
 refine aw func86 rfl ntmps86 rfl fun E hE => ?_
 refine aS ?_
 refine aP rfl rfl rfl (fun b8 => ?_)
 skip
 refine aj rfl (fun bh => ?_)
 refine wz.O.a.a.c.b.z ?_
 refine aB rfl rfl (Z9 g ds _ hM.d ctx _ _ goal hM.x oM hM.xo ⟨_, rfl, cG⟩ iu oM) ?_
 rintro w1 g1 ⟨hs, ⟨xh, qv, tO⟩, PO, yz⟩ a8
 obtain ⟨ha, hc, rfl⟩ := aU qv
 have dy := cG.mono a8
 have vL := hM.mono a8
 refine wz.b.a.A.a.c.e.b.a.z ?_
 refine an rfl (fun h0 => ?_) (fun h0 => ?_)
 ·refine wz.O.a.a.a.c.z ?_
  refine aG 2 rfl rfl rfl (DQ ar b (d + 1) g1 i lv ds _ ctx _ goal _ vL oM ⟨_, rfl, dy⟩ hi) ?_
  rintro w g2 r' ⟨e, i2, he, ge, se, rfl, cL⟩ aD
  obtain ⟨a1, m1, c1, a2, m2, c2, a3, m3, c3, rfl, b_⟩ := he.form
  refine wz.l.i.b.q.z ?_
  exact bp [_] rfl (ay 0 rfl rfl rL) sB ⟨_, rfl, e, i2, ⟨_, rfl, b_⟩, ge, se, rfl, cL⟩
 ·have pS : 0 < hs.length := by omega
  refine wz.A.a.a.a.c.d.j.z ?_
  refine aG 2 rfl rfl rfl (e_ g1 ar vL.hc lv vL.c b i hi hs.length oM) ?_
  rintro v g2 r' ⟨rfl, q, i2, rfl, gp, ep, rfl, cL⟩ _
  have hq : q.toNat < hs.length := by omega
  obtain ⟨b0, off, cap, aq, hx⟩ := qv.held hq
  cases aq
  obtain ⟨cs, e1, hr⟩ := rz (fun _ _ h => h.one.1) tO hx hq
  obtain ⟨⟨k1, k2, V, k3⟩, k4⟩ := yz _ (List.getElem_mem hq)
  generalize hs[q.toNat] = hd at e1 hr k1 k2 k3 k4
  obtain ⟨nm, bQ, args⟩ := hd
  obtain ⟨aa, ac, xa, ba, bm, bd, rfl, p1, p2⟩ := e1
  simp only at k1 k2 k3 k4 p1 p2
  skip
  refine gV (j := q.toNat) rfl rfl rfl oM hq ?_
  refine eY rfl rfl (hr _ (ab.le_refl _) _) rfl ?_
  skip
  refine aj rfl (fun kW => ?_)
  refine wz.K.v.g.c.b.q.z ?_
  refine aj rfl (fun nk => ?_)
  refine wz.b.Br.z ?_
  refine cD (ι := Int) (fun _ => [(0, ptr b 0), (1, dv), (2, cv), (4, .int .i64 (d + 1 : Nat)), (8, ptr b8 0), (10, ptr bh 0), (12, ptr kW 0), (13, ptr nk 0)]) (fun _ => g2) (fun k => [.ae nk 47 [.int .i64 k, .int .i64 0, str nm, .int .i64 0, .slice none 0 0, .slice none 0 0, .int .i64 0, str [], .int .i64 0, .int .i64 0, .slice none 0 0], .ae kW 166 [str nm, .bool bQ, .slice aa args.length ac, .slice ba bm bd], .ae bh 47 dK, .ae b8 41 (aH goal (.slice ga goal.args.length gc)), c8 b lv i2])
   (fun k => nm.length ≤ 5 ∧ (k = 1 ∧ kindOf nm = 1 ∨ k = 2 ∧ kindOf nm = 2)) ?_ ?_
  case refine_2 =>
   intro K hK
   refine wz.b.I.g.c.z ?_
   cases bQ with
   | true =>
    obtain ⟨n1, n2⟩ : kindOf nm = 2 ∧ nm.length ≤ 5 := k4
    refine wz.b.Ac.g.r.t.z ?_
    exact hK 2 _ ⟨n2, .inr ⟨rfl, n1⟩⟩ ⟨rfl, rfl, rfl, rfl, rfl, rfl, rfl, rfl, trivial⟩
   | false =>
    obtain ⟨n1, n2⟩ : kindOf nm = 1 ∧ nm.length ≤ 2 := k4
    refine wz.d.j.o.z ?_
    exact hK 1 _ ⟨oM, .inl ⟨rfl, n1⟩⟩ ⟨rfl, rfl, rfl, rfl, rfl, rfl, rfl, rfl, trivial⟩
  intro k hk
  have nh : GE (cN k 0 nm 0) := by
   rcases hk with ⟨dj, ⟨rfl, hk⟩ | ⟨rfl, hk⟩⟩
   ·exact .var 0 nm hk oM
   ·exact .bQ 0 nm hk oM
  try dsimp only
  obtain ⟨_, uU, aAI⟩ := je g2 k 0 nm 0
  cases uU
  refine wz.p.b.a.c.e.z ?_
  refine aX (ι := Nat × ab × Ex × List Value × Nat) (fun o => [(0, ptr b 0), (1, dv), (2, cv), (4, .int .i64 (d + 1 : Nat)), (8, ptr b8 0), (10, ptr bh 0), (12, ptr kW 0), (13, ptr nk 0), (14, .int .i64 o.1)]) (fun o => o.2.1)
   (fun o => [.ae nk 47 o.2.2.2.1, .ae kW 166 [str nm, .bool bQ, .slice aa args.length ac, .slice ba bm bd], .ae bh 47 dK, .ae b8 41 (aH goal (.slice ga goal.args.length gc)), c8 b lv o.2.2.2.2])
   (fun o => o.1 ≤ args.length ∧ ab.le g2 o.2.1 ∧ PZ o.2.1 o.2.2.2.1 o.2.2.1 ∧ GE o.2.2.1 ∧ aN o.2.2.1 ≤ 1 + o.1 * (1 + sQ d) ∧ o.2.2.2.2 ≤ ar.length) (fun o => args.length - o.1)
   (0, g2, cN k 0 nm 0, _, i2) ⟨Nat.zero_le _, ab.le_refl _, ⟨_, _, _, _, _, _, _, _, _, rfl, aAI⟩, nh, by simp only [DP]; omega, cL⟩ ⟨rfl, rfl, rfl, rfl, rfl, rfl, rfl, rfl, rfl, trivial⟩ rfl rfl ?_
  rintro ⟨j, g3, e, cs, i3⟩ ⟨hj, aF, ⟨a1, m1, c1, a2, m2, c2, a3, m3, c3, hcs, vM⟩, Ih, xz, dE⟩
  simp only at hj aF hcs vM Ih xz dE
  subst hcs
  try dsimp only
  refine wz.b.a.A.I.g.a.c.e.z ?_
  refine an rfl (fun hlt => ?_) (fun hlt => ?_)
  ·have dr : j < args.length := by omega
   obtain ⟨b1, of1, cp1, aq, j9⟩ := (p1.mono aF).held dr
   cases aq
   obtain ⟨f1, f2, f3⟩ := eZ (p2.mono aF) j9 dr
   refine wz.M.a.I.g.c.p.e.d.j.z ?_
   refine eY rfl rfl (f3 _) rfl ?_
   have fb := k2 _ (List.getElem_mem dr)
   refine aB rfl rfl (Yw g3 args[j] _ ⟨_, rfl, f2⟩ oM (k3 _ (List.getElem_mem dr))) ?_
   rintro w4 g4 ⟨y, hy, nH, pB⟩ aR
   obtain ⟨y1, y2, rfl, gJ⟩ := hy.dQ
   skip
   refine aj rfl (fun yq => ?_)
   refine wz.b.q.z ?_
   refine fQ 10 [5] mixed kR (fun hG => ?_)
   refine wz.Ar.z ?_; refine ⟨_, (bP 1 rfl rfl rL), ?_⟩; refine wz.Ax.z ?_; refine ⟨_, (ag rfl), ?_⟩; refine wz.Ay.z ?_; refine ⟨_, (ag rfl), ?_⟩; refine wz.AS.z ?_; refine ⟨_, (ag rfl), ?_⟩; refine wz.AT.z ?_; refine ⟨_, (bP 0 rfl rfl rL), ?_⟩; refine wz.Be.z ?_; refine ⟨_, (ag rfl), ?_⟩
   refine di 6 rfl kR rfl hG ⟨_, (mA rfl rfl oM), ?_⟩; refine wz.BK.z ?_
   rw [show ((d + 1 : Nat) : Int) - 1 = (d : Int) by omega]
   refine aG 5 rfl rfl rfl (hI g4 i3 lv ds _ ctx _ y _ ((vL.mono aF).mono aR) oM ⟨_, rfl, gJ⟩ nH oM dE) ?_
   rintro w5 g5 r' ⟨z, i5, hz, gz, sz, rfl, o9⟩ cC
   obtain ⟨e1, f1, h1, e2, f2, h2, e3, f3, h3, rfl, iS⟩ := hz.form
   refine wz.Bx.f.b.z ?_
   refine bu rfl rfl rL rL rL rL rL (fun fX => ?_)
   refine bg (fun g6 dT mE => ?_)
   have tQ := ab.le_trans cC dT
   have hV := jR g6 5 0 [] mE (o8 (((vM.mono aR).mono cC).mono dT) (iS.mono dT))
   obtain ⟨_, hVe, Gx⟩ := hV
   cases hVe
   refine wz.BI.f.b.z ?_; refine ⟨_, (et rfl rL), ?_⟩
   refine wz.BB.b.a.E.a.r.d.y.N.B.Am.z ?_
   exact aM (j + 1, g6, bC 5 0 [] [e, z], _, i5) ⟨oM, ab.le_trans aF (ab.le_trans aR tQ), ⟨_, _, _, _, _, _, _, _, _, rfl, Gx⟩, .app 0 e z Ih gz, by simp only [P0, Nat.add_mul]; omega, o9⟩ uM ⟨rfl, rfl, rfl, rfl, rfl, rfl, rfl, rfl, rfl, trivial⟩ rfl rfl
  ·refine wz.i.b.V.G.c.d.D.m.m.C.z ?_
   have : args.length * (1 + sQ d) ≤ 3 * (1 + sQ d) := Nat.mul_le_mul_right _ k1
   have : j * (1 + sQ d) ≤ args.length * (1 + sQ d) := Nat.mul_le_mul_right _ hj
   exact bp [_] rfl (ay 2 rfl rfl rL) sD ⟨_, rfl, e, i3, ⟨_, rfl, vM⟩, Ih, oM, rfl, dE⟩
theorem aAJ (k p : Int) (n : Bytes) (f a : Ex) : aN (bC k p n [f, a]) = 1 + aN f + aN a := by simp [bC, aN, cd, bZ]; omega
theorem kK.tp {Φ : Nat → Ty → Prop} {g : ab} {ar : List Int} {lv : Value} {ds : List Da} {dv : Value} {ctx : List En} {cv : Value} (h : kK g ar lv ds dv ctx cv) {lf : List Ty} {fv : Value} (hf : ∃ xl, au g 5 fv lf.length xl ∧ aV g lf xl) (hl : lf.length ≤ 8) (hp : ∀ t ∈ lf, Φ 0 t) : o4 Φ g ar lv ds dv lf fv :=
 ⟨h.c, h.hc, h.d.m, h.d.n, fun d hd => (h.d.g d hd).1, hf, hl, hp⟩
theorem aAK {g : ab} {a b : Ty} {c e : List Value} (h : bx g a c) (h' : bx g b e) : aV g [a, b] (c ++ e) := by
 unfold aV
 exact ⟨c, e, rfl, h, vy h'⟩
theorem aAL (ar : List Int) (b d : Nat) (hd : d ≤ 3) (hI : vK ar b d) (g : ab) (i : Nat) (lv : Value) (ds : List Da) (dv : Value) (ctx : List En) (cv : Value) (goal : Ty) (gv : Value) (hM : kK g ar lv ds dv ctx cv) (hl : ctx.length + 8 * (d + 1) ≤ 90) (hg : aQ g gv goal) (iu : OK 0 0 false goal) (lX : aE goal + 40 * (d + 1) ≤ 5000) (hi : i ≤ ar.length) :
  cR prog 83 [ptr b 0, dv, cv, gv, .int .i64 (d + 1 : Nat)] g (c8 b lv i) (yB ar b lv (d + 1)) := by
 obtain ⟨ga, gc, rfl, cG⟩ := hg.dQ
 have DR := yA d
 have Ig : sQ (d + 1) = 20 + 4 * sQ d := rfl
 refine aw func83 rfl ntmps83 rfl fun E hE => ?_
 refine aS ?_
 refine aP rfl rfl rfl (fun b8 => ?_)
 skip
 refine aj rfl (fun bh => ?_)
 refine wz.a.c.b.z ?_
 refine aG 2 rfl rfl rfl (e_ g ar hM.hc lv hM.c b i hi 2 oM) ?_
 rintro v g1 r' ⟨rfl, q, i1, rfl, gp, ep, rfl, de⟩ _
 obtain ⟨kk, uI⟩ : ∃ kk : Int, kk = 6 + q := ⟨_, rfl⟩
 refine wz.a.E.z ?_
 rw [← uI]
 refine aG 2 rfl rfl rfl (qP g1 ar hM.hc lv hM.c b i1 de) ?_
 rintro v g1 r' ⟨rfl, n, i2, rfl, n1, n2, rfl, cL⟩ _
 refine wz.a.c.b.a.a.z ?_
 refine aG 2 rfl rfl rfl (e_ g1 ar hM.hc lv hM.c b i2 cL 2 oM) ?_
 rintro v g1 r' ⟨rfl, q3, i3, rfl, uH, wN, rfl, dE⟩ _
 refine wz.c.b.a.a.z ?_
 refine bu rfl rfl rL rL rL rL rL (fun y0 => ?_)
 refine bg (fun g2 aD bj => ?_)
 refine wz.b.a.z ?_
 refine cD (ι := ab × Value × List Ty) (fun o => [(0, ptr b 0), (1, dv), (2, cv), (4, .int .i64 (d + 1 : Nat)), (8, ptr b8 0), (10, ptr bh 0), (11, .int .i64 kk), (12, str n), (14, o.2.1)]) (fun o => o.1) (fun _ => [.ae bh 47 dK, .ae b8 41 (aH goal (.slice ga goal.args.length gc)), c8 b lv i3])
  (fun o => ab.le g2 o.1 ∧ o.2.2.length ≤ 8 ∧ (∀ t ∈ o.2.2, vJ 0 t) ∧ ∃ xl, au o.1 5 o.2.1 o.2.2.length xl ∧ aV o.1 o.2.2 xl) ?_ ?_
 case refine_2 =>
  intro K hK
  refine wz.b.a.c.z ?_
  refine an rfl (fun h0 => ?_) (fun h0 => ?_)
  ·refine wz.r.z ?_
   refine aO rfl rfl (GG g2 99 0) ?_
   skip
   refine aO rfl rfl (GG g2 99 1) ?_
   skip
   refine bu rfl rfl rL rL rL rL rL (fun y1 => ?_)
   refine bg (fun g3 aF bY => ?_)
   refine wz.b.a.z ?_
   exact hK (g3, _, [.mk 3 [] 0 99 [], .mk 3 [] 1 99 []]) _ ⟨aF, sM, (fun t ht => by
    simp only [List.mem_cons, List.not_mem_nil, or_false] at ht
    rcases ht with rfl | rfl
    ·exact ⟨GS oM oM, by simp [aE, bM, nR]⟩
    ·exact ⟨GS oM oM, by simp [aE, bM, nR]⟩), _, bY, aAK (bx.mk (t := .mk 3 [] 0 99 []) (cP g3 5) (cQ g3)) (bx.mk (t := .mk 3 [] 1 99 []) (cP g3 5) (cQ g3))⟩ ⟨rfl, rfl, rfl, rfl, rfl, rfl, rfl, rfl, rfl, trivial⟩
  ·refine wz.d.j.z ?_
   exact hK (g2, _, []) _ ⟨ab.le_refl _, sM, (fun _ h => by cases h), [], bj, cQ g2⟩ ⟨rfl, rfl, rfl, rfl, rfl, rfl, rfl, rfl, rfl, trivial⟩
 rintro ⟨g3, fv, lf⟩ ⟨aF, uU, tR, P3⟩
 simp only at aF uU tR P3
 try dsimp only
 have jW := (hM.mono aD).mono aF
 have d_ := (cG.mono aD).mono aF
 refine wz.a.a.a.c.z ?_
 refine aG 2 rfl rfl rfl (pT Ie ar b 2 oM g3 i3 lv ds _ lf _ (jW.tp P3 uU tR) dE) ?_
 rintro w4 g4 r' ⟨x, i4, hx, ⟨oJ, hxn⟩, rfl, ib⟩ aR
 have aFB : aE x ≤ 7 := hxn
 obtain ⟨xa, xc, rfl, db⟩ := hx.dQ
 have lj := jW.mono aR
 have eW := d_.mono aR
 skip
 refine aj rfl (fun yq => ?_)
 refine wz.b.a.a.c.b.Br.z ?_
 refine cD (ι := ab × Value × List En) (fun o => [(0, ptr b 0), (1, dv), (2, cv), (4, .int .i64 (d + 1 : Nat)), (8, ptr b8 0), (10, ptr bh 0), (11, .int .i64 kk), (12, str n), (15, ptr yq 0), (16, o.2.1)]) (fun o => o.1) (fun _ => [.ae yq 41 (aH x (.slice xa x.args.length xc)), .ae bh 47 dK, .ae b8 41 (aH goal (.slice ga goal.args.length gc)), c8 b lv i4])
  (fun o => ab.le g4 o.1 ∧ ld o.1 o.2.1 o.2.2 ∧ (∀ e ∈ o.2.2, vI e) ∧ o.2.2.length ≤ ctx.length + 1) ?_ ?_
 case refine_2 =>
  intro K hK
  refine wz.b.a.a.c.z ?_
  refine an rfl (fun h0 => ?_) (fun h0 => ?_)
  ·refine wz.G.a.a.r.z ?_
   refine aB rfl rfl (rk g4 x _ ⟨_, rfl, db⟩) ?_
   rintro w5 g5 ⟨rfl, ez⟩ _
   obtain ⟨s1, s2, rfl, oL⟩ := ez.agg
   skip
   refine aB rfl rfl (vx g5 ctx _ _ n 0 x lj.x ⟨_, rfl, oL⟩ oM) ?_
   rintro w6 g6 Ii dT
   refine wz.b.a.z ?_
   exact hK (g6, w6, ctx ++ [⟨n, 0, x⟩]) _ ⟨dT, Ii, (fun e he => by
    rcases List.mem_append.1 he with he | he
    ·exact lj.xo e he
    ·rw [List.mem_singleton.1 he]; exact ⟨⟨oJ, uM, Nat.zero_le _⟩, n1, n2⟩), sM⟩ ⟨rfl, rfl, rfl, rfl, rfl, rfl, rfl, rfl, rfl, rfl, trivial⟩
  ·refine wz.d.j.z ?_
   exact hK (g4, cv, ctx) _ ⟨ab.le_refl _, lj.x, lj.xo, Nat.le_succ _⟩ ⟨rfl, rfl, rfl, rfl, rfl, rfl, rfl, rfl, rfl, rfl, trivial⟩
 rintro ⟨g5, iv, P4⟩ ⟨cC, mM, yC, kF⟩
 simp only at cC mM yC kF
 try dsimp only
 have qx := lj.mono cC
 have tS : kK g5 ar lv ds dv P4 iv := ⟨qx.c, qx.hc, qx.d, mM, yC⟩
 have zZ := db.mono cC
 have pO := eW.mono cC
 refine wz.AE.a.G.a.a.a.c.z ?_
 rw [show ((d + 1 : Nat) : Int) - 1 = (d : Int) by omega]
 refine aG 3 rfl rfl rfl (hI g5 i4 lv ds _ P4 _ x _ tS oM ⟨_, rfl, zZ⟩ oJ oM ib) ?_
 rintro w6 g6 r' ⟨y, i6, hy, gy, sy, rfl, Ij⟩ dT
 obtain ⟨a1, m1, c1, a2, m2, c2, a3, m3, c3, rfl, gJ⟩ := hy.form
 have hsd := PX d hd
 skip
 refine aj rfl (fun ru => ?_)
 refine wz.O.c.b.q.z ?_
 refine aB rfl rfl (YD g6 x _ ⟨_, rfl, zZ.mono dT⟩ oM oJ) ?_
 rintro w7 g7 ⟨m, z, ez, hm, oN, pF⟩ fC
 obtain ⟨s1, s2, rfl, oL⟩ := ez.agg
 skip
 refine aj rfl (fun vH => ?_)
 refine wz.b.Br.z ?_
 refine cD (ι := ab × List Value × Nat × Ty) (fun _ => [(0, ptr b 0), (1, dv), (2, cv), (4, .int .i64 (d + 1 : Nat)), (8, ptr b8 0), (10, ptr bh 0), (11, .int .i64 kk), (12, str n), (17, ptr ru 0), (18, ptr vH 0)]) (fun o => o.1) (fun o => [.ae vH 95 o.2.1, .ae ru 47 [.int .i64 y.kind, .int .i64 y.pos, str y.name, .int .i64 y.num, .slice a1 m1 c1, .slice a2 m2 c2, .int .i64 y.ty.kind, str y.ty.name, .int .i64 y.ty.id, .int .i64 y.ty.home, .slice a3 m3 c3], .ae yq 41 (aH x (.slice xa x.args.length xc)), .ae bh 47 dK, .ae b8 41 (aH goal (.slice ga goal.args.length gc)), c8 b lv i6])
  (fun o => ab.le g7 o.1 ∧ (∃ a c, o.2.1 = .int .i64 o.2.2.1 :: aH o.2.2.2 (.slice a o.2.2.2.args.length c) ∧ bx o.1 o.2.2.2 (aH o.2.2.2 (.slice a o.2.2.2.args.length c))) ∧ o.2.2.1 ≤ 5000 ∧ OK 0 o.2.2.1 false o.2.2.2 ∧ aE o.2.2.2 ≤ 5000) ?_ ?_
 case refine_2 =>
  intro K hK
  have P5 := gJ.mono fC
  refine wz.O.c.z ?_
  refine aB rfl rfl (DO g7 _ y 10 oM ⟨_, rfl, P5⟩) ?_
  rintro w8 g8 ⟨z1, rfl⟩ fh
  cases z1 with
  | true =>
   refine wz.r.t.b.a.h.h.a.z ?_
   refine aB rfl rfl (qN g8) ?_
   rintro Ik g20 tT tU
   obtain ⟨i20, Il, rfl, tV⟩ := tT.dQ
   skip
   refine aB rfl rfl (rk g20 fL _ ⟨_, rfl, tV⟩) ?_
   rintro Im g21 ⟨rfl, tW⟩ _
   obtain ⟨s3, s4, rfl, tX⟩ := tW.agg
   refine wz.b.q.z ?_
   exact hK (g21, _, 0, fL) _ ⟨ab.le_trans fh tU, ⟨_, _, rfl, tX⟩, Nat.zero_le _, ok_int, by simp [fL, bJ, aE, bM]⟩ ⟨rfl, rfl, rfl, rfl, rfl, rfl, rfl, rfl, rfl, rfl, trivial⟩
  | false =>
   refine wz.k.O.k.a.z ?_
   refine aB rfl rfl (DO g8 _ y 11 oM ⟨_, rfl, P5.mono fh⟩) ?_
   rintro w9 g9 ⟨z1, rfl⟩ gQ
   cases z1 with
   | true =>
    refine wz.r.t.b.a.z ?_
    refine aB rfl rfl (qN g9) ?_
    rintro Ik g20 tT tU
    obtain ⟨i20, Il, rfl, tV⟩ := tT.dQ
    skip
    refine aB rfl rfl (rk g20 fL _ ⟨_, rfl, tV⟩) ?_
    rintro Im g21 ⟨rfl, tW⟩ _
    obtain ⟨s3, s4, rfl, tX⟩ := tW.agg
    refine wz.b.q.z ?_
    exact hK (g21, _, 0, fL) _ ⟨ab.le_trans fh (ab.le_trans gQ tU), ⟨_, _, rfl, tX⟩, Nat.zero_le _, ok_int, by simp [fL, bJ, aE, bM]⟩ ⟨rfl, rfl, rfl, rfl, rfl, rfl, rfl, rfl, rfl, rfl, trivial⟩
   | false =>
    refine wz.d.j.o.b.a.z ?_
    exact hK (g9, _, m, z) _ ⟨ab.le_trans fh gQ, ⟨_, _, rfl, (oL.mono fh).mono gQ⟩, uM, oN, uM⟩ ⟨rfl, rfl, rfl, rfl, rfl, rfl, rfl, rfl, rfl, rfl, trivial⟩
 rintro ⟨g8, sc, q, z2⟩ ⟨fh, ⟨z3, z4, P6, om⟩, Io, P7, P8⟩
 simp only at fh P6 om Io P7 P8
 subst P6
 try dsimp only
 have rC := ((qx.mono dT).mono fC).mono fh
 have hg8 := ((pO.mono dT).mono fC).mono fh
 have hy8 := (gJ.mono fC).mono fh
 refine kM ?_
 refine bO [5, 3] mixed (fun hG => ?_)
 refine wz.P.z ?_; refine ⟨_, (ag rfl), ?_⟩; refine wz.R.z ?_; refine ⟨_, (ag rfl), ?_⟩; refine wz.S.z ?_; refine ⟨_, (bP 1 rfl rfl rL), ?_⟩; refine wz.X.z ?_; refine ⟨_, (ag rfl), ?_⟩; refine wz.Z.z ?_; refine ⟨_, (ag rfl), ?_⟩; refine wz.Ad.z ?_; refine ⟨_, (ag rfl), ?_⟩; refine wz.Ak.z ?_; refine ⟨_, (ag rfl), ?_⟩; refine wz.Aa.z ?_; refine ⟨_, (bP 0 rfl rfl rL), ?_⟩
 refine wz.Av.z ?_; refine ⟨_, (bP 3 rfl rfl rL), ?_⟩; refine wz.Al.z ?_; refine ⟨_, (ag rfl), ?_⟩
 refine bn 11 rfl kR rfl hG ⟨_, (mA rfl rfl oM), ?_⟩; refine wz.Ae.z ?_
 refine aB rfl rfl (vx g8 ctx _ _ n q z2 rC.x ⟨_, rfl, om⟩ oM) ?_
 rintro w9 g9 yD gQ
 refine wz.Bd.f.b.z ?_
 rw [show ((d + 1 : Nat) : Int) - 1 = (d : Int) by omega]
 have yE := rC.mono gQ
 have aAM : kK g9 ar lv ds dv (ctx ++ [⟨n, q, z2⟩]) w9 := ⟨yE.c, yE.hc, yE.d, yD, fun e he => by
  rcases List.mem_append.1 he with he | he
  ·exact hM.xo e he
  ·rw [List.mem_singleton.1 he]; exact ⟨⟨P7, P8, Io⟩, n1, n2⟩⟩
 refine aG 5 rfl rfl rfl (hI g9 i6 lv ds _ _ _ goal _ aAM nM ⟨_, rfl, hg8.mono gQ⟩ iu oM Ij) ?_
 rintro HU g10 r' ⟨u, i10, hu, gu, su, rfl, aAN⟩ mn
 obtain ⟨e1, f1, h1, e2, f2, h2, e3, f3, h3, rfl, gq⟩ := hu.form
 have aAO := ab.le_trans gQ mn
 refine wz.AJ.f.b.z ?_
 refine bu rfl rfl rL rL rL rL rL (fun fX => ?_)
 refine bg (fun g11 rD aAP => ?_)
 have aFC := ab.le_trans aAO rD
 refine wz.i.d.F.f.b.Au.At.f.b.K.AO.f.b.z ?_
 have zH : kk = 6 ∨ kk = 7 := by omega
 exact bp [_] rfl (ay 3 rfl rfl rL) sE ⟨_, rfl, bC kk 0 n [y, u], i10, jR g11 kk 0 n aAP (o8 (((hy8.mono gQ).mono mn).mono rD) (gq.mono rD)), .bind kk 0 n y u zH n1 oM gy gu, by rw [aAJ]; omega, rfl, aAN⟩
end Go.Proofs.YtlnjfkfojkgiiaaGreatDoor
namespace Go.Th
theorem P9 {B : Nat} : ∀ {l : List Ar}, (∀ a ∈ l, hY a ≤ B) → bZ l ≤ l.length * B
 | [], _ => by simp [bZ]
 | a :: r, h => by
  have h1 := h a (List.mem_cons_self ..)
  have h2 := P9 (l := r) (fun t ht => h t (List.mem_cons_of_mem _ ht))
  simp only [bZ, List.length_cons, Nat.add_mul]
  omega
def aAQ : List Bytes := [[120], [121], [122], [119]]
end Go.Th
namespace Go.Proofs.YtlnjfkfojkgiiaaGreatDoor
theorem aAR (ar : List Int) (b d : Nat) (hI : vK ar b d) (g : ab) (i : Nat) (lv : Value) (ds : List Da) (dv : Value) (ctx : List En) (cv : Value) (goal : Ty) (gv : Value) (hM : kK g ar lv ds dv ctx cv) (hl : ctx.length + 8 * (d + 1) ≤ 90) (hg : aQ g gv goal) (iu : OK 0 0 false goal) (lX : aE goal + 40 * (d + 1) ≤ 5000) (hi : i ≤ ar.length) :
  cR prog 84 [ptr b 0, dv, cv, gv, .int .i64 (d + 1 : Nat)] g (c8 b lv i) (yB ar b lv (d + 1)) := by
 obtain ⟨ga, gc, rfl, cG⟩ := hg.dQ
 obtain ⟨⟨xd, gm, jO⟩, nj, px⟩ := id hM.d
 obtain ⟨da, dc, rfl⟩ := aU gm
 have DR := yA d
 have Ig : sQ (d + 1) = 20 + 4 * sQ d := rfl
 refine aw func84 rfl ntmps84 rfl fun E hE => ?_
 refine aS ?_
 refine aP rfl rfl rfl (fun b8 => ?_)
 skip
 refine aj rfl (fun bh => ?_)
 refine wz.b.a.A.a.c.e.b.z ?_
 refine an rfl (fun h0 => ?_) (fun h0 => ?_)
 ·refine wz.O.a.a.a.c.z ?_
  refine aG 2 rfl rfl rfl (DQ ar b (d + 1) g i lv ds _ ctx _ goal _ hM oM ⟨_, rfl, cG⟩ hi) ?_
  rintro w g2 r' ⟨e, i2, he, ge, se, rfl, cL⟩ aD
  obtain ⟨a1, m1, c1, a2, m2, c2, a3, m3, c3, rfl, b_⟩ := he.form
  refine wz.l.i.b.q.z ?_
  exact bp [_] rfl (ay 0 rfl rfl rL) sB ⟨_, rfl, e, i2, ⟨_, rfl, b_⟩, ge, se, rfl, cL⟩
 ·have pS : 0 < ds.length := by omega
  refine wz.A.a.a.a.c.d.j.z ?_
  refine aG 2 rfl rfl rfl (e_ g ar hM.hc lv hM.c b i hi ds.length oM) ?_
  rintro v g1 r' ⟨rfl, q, i1, rfl, gp, ep, rfl, de⟩ _
  have hq : q.toNat < ds.length := by omega
  obtain ⟨b0, off, cap, aq, hx⟩ := gm.held hq
  cases aq
  obtain ⟨cs, e1, hr⟩ := dt (fun _ _ h => h.one.1) jO hx hq
  obtain ⟨⟨n1, n2, n3⟩, ⟨n4, n5, n6⟩, tC⟩ := px _ (List.getElem_mem hq)
  have P_ := GY (px _ (List.getElem_mem hq)).1
  generalize ds[q.toNat] = dd at e1 n1 n2 n3 n4 n5 n6 tC P_
  obtain ⟨a1, c1, a2, c2, xc, rfl, _, eV, lF⟩ := e1.form
  obtain ⟨bb, oo, cp, lz, jd⟩ := eV.held (show 0 < dd.cons.length by omega)
  cases lz
  skip
  refine gV (j := q.toNat) rfl rfl rfl oM hq ?_
  refine wz.An.z ?_
  skip
  refine aj rfl (fun dY => ?_)
  refine wz.AD.p.b.a.c.e.b.a.c.b.q.z ?_
  refine aX (ι := Nat × ab × Value × List aA × Nat) (fun o => [(0, ptr b 0), (1, .slice (some ⟨b0, off, none⟩) ds.length dc), (2, cv), (4, .int .i64 (d + 1 : Nat)), (8, ptr b8 0), (10, ptr bh 0), (11, ptr dY 0), (12, o.2.2.1), (13, .int .i64 o.1)]) (fun o => o.2.1)
   (fun o => o.2.2.2.1 ++ [.ae dY 60 [.int .i64 dd.pos, str dd.name, .slice a1 dd.params.length c1, .slice (some ⟨bb, oo, none⟩) dd.cons.length c2], .ae bh 47 dK, .ae b8 41 (aH goal (.slice ga goal.args.length gc)), c8 b lv o.2.2.2.2])
   (fun o => o.1 ≤ dd.params.length ∧ ab.le g1 o.2.1 ∧ o.2.2.2.2 ≤ ar.length ∧ ∃ az, DI o.2.1 az o.1 o.2.2.1 o.2.2.2.1 ∧ ∀ t ∈ az, vJ 1 t) (fun o => dd.params.length - o.1) (0, g1, _, [_], i1) ⟨Nat.zero_le _, ab.le_refl _, de, [], ⟨none, 0, [], rfl, rfl, cQ g1, rfl⟩, (fun _ h => by cases h)⟩ ⟨rfl, rfl, rfl, rfl, rfl, rfl, rfl, rfl, rfl, trivial⟩ rfl rfl ?_
  rintro ⟨j, g2, rv, own, i2⟩ ⟨hj, aD, cL, az, ⟨ra, rc, xs, fJ, hown, dV, mT⟩, tR⟩
  simp only at hj aD cL fJ hown dV mT tR
  subst fJ
  subst hown
  try dsimp only
  have tY := hM.mono aD
  refine wz.b.a.A.I.g.a.c.e.z ?_
  refine an rfl (fun hlt => ?_) (fun hlt => ?_)
  ·refine wz.a.a.a.r.p.e.d.j.z ?_
   refine aG 4 rfl rfl rfl (pT Ie ar b 1 oM g2 i2 lv ds _ [] _ (tY.tp ⟨[], cP g2 5, cQ g2⟩ sM (fun _ h => by cases h)) cL) ?_
   rintro w3 g3 r' ⟨t, i3, ht, hpt, rfl, dE⟩ aF
   obtain ⟨ya, yc, rfl, eF⟩ := ht.dQ
   skip
   refine bu rfl rfl rL rL rL rL rL (fun y0 => ?_)
   refine cV 1 0 rfl rfl rfl rfl rfl rL rL rfl mL oM (fun v' _ => ?_)
   refine wz.AC.z ?_
   rintro ⟨z1, z3, rfl⟩
   refine wz.BB.b.a.E.a.r.d.y.N.a.z ?_
   refine aM (j + 1, g3, _, [_], i3) ⟨oM, ab.le_trans aD aF, dE, az ++ [t], ⟨z1, z3, _, rfl, rfl, aV.snoc eF (dV.mono aF), by rw [List.length_append, mT]; rfl⟩, fun u hu => ?_⟩ uM ⟨rfl, rfl, rfl, rfl, rfl, rfl, rfl, rfl, rfl, trivial⟩ rfl rfl
   rcases List.mem_append.1 hu with hu | hu
   ·exact tR u hu
   ·rw [List.mem_singleton.1 hu]; exact hpt
  ·obtain rfl : j = dd.params.length := by omega
   have bW : kG 0 0 false az := fun t ht => (tR t ht).1
   have mo : ∀ t ∈ az, aE t ≤ 3 := fun t ht => (tR t ht).2
   have HJ := PW mo oM
   refine bg (fun g3 aF bY => ?_)
   have bY : au g3 5 (.slice ra dd.params.length rc) az.length xs := by rw [mT]; exact bY
   refine wz.a.v.g.a.a.a.c.d.D.m.m.C.z ?_
   refine aB rfl rfl (wD g3 dd.name _ az xs bY (dV.mono aF) oM) ?_
   rintro w4 g4 fZ aR
   obtain ⟨ya, yc, rfl, eF⟩ := fZ.dQ
   have lj := (tY.mono aF).mono aR
   refine wz.AE.a.z ?_
   rw [show ((d + 1 : Nat) : Int) - 1 = (d : Int) by omega]
   refine aG 3 rfl rfl rfl (hI g4 i2 lv ds _ ctx _ (bJ dd.name az) _ lj oM ⟨_, rfl, eF⟩ (C5 P_ bW) (by simp only [bJ, aE]; omega) cL) ?_
   rintro w5 g5 r' ⟨x, i5, hx0, gx, sx, rfl, o9⟩ cC
   obtain ⟨f1, k1, h1, f2, k2, h2, f3, k3, h3, rfl, db⟩ := hx0.form
   skip
   refine bu rfl rfl rL rL rL rL rL (fun fX => ?_)
   refine bg (fun g6 dT mE => ?_)
   refine wz.K.z ?_
   refine aj rfl (fun jf => ?_)
   refine wz.p.b.a.c.e.b.q.z ?_
   have Ii := db.mono dT
   have aAS := ab.le_trans aD (ab.le_trans aF (ab.le_trans aR (ab.le_trans cC dT)))
   have Ip := (lj.mono cC).mono dT
   refine wz.CA.z ?_
   refine aX (ι := Nat × List Ar × Value × List Value × Nat × ab) (fun p => [(0, ptr b 0), (1, .slice (some ⟨b0, off, none⟩) ds.length dc), (2, cv), (4, .int .i64 (d + 1 : Nat)), (8, ptr b8 0), (10, ptr bh 0), (11, ptr dY 0), (12, .slice ra dd.params.length rc), (14, ptr jf 0), (15, .int .i64 p.1)]) (fun p => p.2.2.2.2.2)
    (fun p => [.row 111 14 p.2.2.1 p.2.1.length p.2.2.2.1, .ae jf 47 (rR 0 (.slice (some ⟨fX, 0, none⟩) 1 1) p.2.2.1), .ae dY 60 [.int .i64 dd.pos, str dd.name, .slice a1 dd.params.length c1, .slice (some ⟨bb, oo, none⟩) dd.cons.length c2], .ae bh 47 dK, .ae b8 41 (aH goal (.slice ga goal.args.length gc)), c8 b lv p.2.2.2.2.1])
    (fun p => ab.le g6 p.2.2.2.2.2 ∧ p.1 ≤ dd.cons.length ∧ p.2.1.length = p.1 ∧ (∃ a m c, p.2.2.1 = .slice a m c) ∧ fw p.2.2.2.2.2 p.2.1 p.2.2.2.1 ∧ (∀ a ∈ p.2.1, kindOf a.bQ = 2 ∧ a.bQ.length ≤ 5 ∧ (∀ v ∈ a.vars, kindOf v = 1 ∧ v.length ≤ 2) ∧ a.vars.length ≤ 2 ∧ GE a.body ∧ aN a.body ≤ sQ d) ∧ p.2.2.2.2.1 ≤ ar.length) (fun p => dd.cons.length - p.1)
    (0, [], .slice none 0 0, [], i5, g6) ⟨ab.le_refl _, Nat.zero_le _, rfl, ⟨_, _, _, rfl⟩, qE _, (fun a h => by cases h), o9⟩ ⟨rfl, rfl, rfl, rfl, rfl, rfl, rfl, rfl, rfl, rfl, trivial⟩ rfl rfl ?_
   rintro ⟨j, acc, av, xa, i7, g7⟩ ⟨k1, k2, k3, ⟨sa, sm, sc, k4⟩, k5, k6, k7⟩
   simp only at k1 k2 k3 k4 k5 k6 k7
   subst k4
   try dsimp only
   refine wz.b.a.A.Ag.g.a.c.e.z ?_
   refine an rfl (fun dk => ?_) (fun dk => ?_)
   ·have eK : j < dd.cons.length := by omega
    have Qa := ab.le_trans aAS k1
    have DS := Ip.mono k1
    obtain ⟨cc, e2, eM⟩ := rz (g := g7) (fun _ _ h => h.one.1) (aL.mono (fun _ _ h => h.mono Qa) lF) (fun k x h => Qa _ _ _ (jd k x h)) eK
    obtain ⟨q1, q2, q3⟩ := n6 _ (List.getElem_mem eK)
    generalize dd.cons[j] = c0 at e2 eM q1 q2 q3
    obtain ⟨a4, c4, xf, rfl, _, _⟩ := e2.form
    have g_ : ∀ g', ab.le g7 g' → ∀ own, Rd g' own bb (oo + j * 3 + 1) [str c0.name] := fun g' hg own => (eM g' hg own).du 1 rfl
    refine wz.g.M.a.Ag.g.a.c.p.e.d.j.z ?_
    refine cj rfl rfl (g_ _ (ab.le_refl _) _) ?_
    refine wz.a.z ?_
    refine aB rfl rfl (Yf g7 ds _ DS.d c0.name az _ xs (((((bY.mono aR).mono cC).mono dT).mono k1)) (((((dV.mono aF).mono aR).mono cC).mono dT).mono k1) oM bW 3 oM oM mo) ?_
    rintro w8 g8 ⟨fv, bo, rfl, fs, xf8, gF, mY, hf3, hf4, hf5⟩ fh
    obtain ⟨fa, fc, rfl⟩ := aU gF
    have rC := DS.mono fh
    refine wz.g.M.a.Ag.g.c.b.a.a.a.a.a.z ?_
    refine cj rfl rfl (g_ _ fh _) ?_
    refine wz.K.z ?_
    refine aj rfl (fun vH => ?_)
    refine wz.BG.p.b.a.c.e.b.a.a.c.b.q.z ?_
    refine aX (ι := Nat × ab × List Bytes × Value × List En × Value) (fun p => [(0, ptr b 0), (1, .slice (some ⟨b0, off, none⟩) ds.length dc), (2, cv), (4, .int .i64 (d + 1 : Nat)), (8, ptr b8 0), (10, ptr bh 0), (11, ptr dY 0), (12, .slice ra dd.params.length rc), (14, ptr jf 0), (15, .int .i64 j), (16, .slice fa fs.length fc), (18, ptr vH 0), (19, p.2.2.2.2.2), (20, .int .i64 p.1)]) (fun p => p.2.1)
     (fun p => [.row 9 1 p.2.2.2.1 p.2.2.1.length (p.2.2.1.map str), .ae vH 111 (kp 0 c0.name p.2.2.2.1 dK), .row 111 14 (.slice sa sm sc) acc.length xa, .ae jf 47 (rR 0 (.slice (some ⟨fX, 0, none⟩) 1 1) (.slice sa sm sc)), .ae dY 60 [.int .i64 dd.pos, str dd.name, .slice a1 dd.params.length c1, .slice (some ⟨bb, oo, none⟩) dd.cons.length c2], .ae bh 47 dK, .ae b8 41 (aH goal (.slice ga goal.args.length gc)), c8 b lv i7])
     (fun p => (∃ a m c, p.2.2.2.1 = .slice a m c) ∧ p.1 ≤ fs.length ∧ p.2.2.1.length = p.1 ∧ (∀ v ∈ p.2.2.1, kindOf v = 1 ∧ v.length ≤ 2) ∧ ab.le g8 p.2.1 ∧ ld p.2.1 p.2.2.2.2.2 p.2.2.2.2.1 ∧ (∀ e ∈ p.2.2.2.2.1, vI e) ∧ p.2.2.2.2.1.length ≤ ctx.length + p.1) (fun p => fs.length - p.1)
     (0, g8, [], .slice none 0 0, ctx, cv) ⟨⟨_, _, _, rfl⟩, Nat.zero_le _, rfl, (fun v h => by cases h), ab.le_refl _, rC.x, rC.xo, Nat.le_refl _⟩ ⟨rfl, rfl, rfl, rfl, rfl, rfl, rfl, rfl, rfl, rfl, rfl, rfl, rfl, rfl, trivial⟩ rfl rfl ?_
    rintro ⟨k, g9, vs, vv, DT, cv9⟩ ⟨⟨va, vm, vc, m1⟩, m2, m3, m4, m5, m6, m7, m8⟩
    simp only at m1 m2 m3 m4 m5 m6 m7 m8
    subst m1
    try dsimp only
    have yE := rC.mono m5
    refine wz.b.a.A.a.a.c.e.z ?_
    refine an rfl (fun iM => ?_) (fun iM => ?_)
    ·have dj : k < fs.length := by omega
     obtain ⟨b9, of9, cp9, aAT, yD⟩ := (gF.mono m5).held dj
     cases aAT
     obtain ⟨s1, t1, r1⟩ := eZ (mY.mono m5) yD dj
     have xQ := hf3 _ (List.getElem_mem dj)
     have kz := hf5 _ (List.getElem_mem dj)
     generalize fs[k] = ft at t1 r1 xQ kz
     obtain ⟨n, l8, tw, aAU⟩ : ∃ n : Bytes, kindOf n = 1 ∧ n.length ≤ 2 ∧ (aAQ.map str)[k]? = some (str n) := by
      have : k = 0 ∨ k = 1 := by omega
      rcases this with rfl | rfl
      ·exact ⟨[120], dC, dC, rfl⟩
      ·exact ⟨[121], dC, dC, rfl⟩
     refine wz.c.p.e.d.j.z ?_
     have hkm : (k : Int).tmod 4 = (k : Int) := by
      rw [Int.tmod_eq_emod_of_nonneg oM]
      omega
     refine bu rfl rfl rL rL rL rL rL (fun y0 => ?_)
     refine wz.Cg.a.z ?_
     refine gV (j := k) rfl rfl rfl hkm oM ?_
     refine cj rfl rfl (v := str n) (Ft 0 rfl (by rw [Nat.zero_add, Nat.mul_one]; exact aAU)) ?_
     refine wz.a.I.g.c.b.a.Dd.z ?_
     refine bu rfl rfl rL rL rL rL rL (fun y1 => ?_)
     refine cV 1 0 rfl rfl rfl rfl rfl rL rL rfl mL oM (fun v' _ => ?_)
     refine gT 1 rfl ?_
     rintro ⟨za, zm, zc, rfl⟩
     refine wz.M.a.a.a.a.r.b.Ah.g.Dd.z ?_
     refine eY rfl rfl (r1 _) rfl ?_
     refine aB rfl rfl (rk g9 ft _ ⟨_, rfl, t1⟩) ?_
     rintro HU g10 ⟨rfl, ez⟩ _
     obtain ⟨s2, s3, rfl, oL⟩ := ez.agg
     skip
     refine aB rfl rfl (vx g10 DT _ _ n 0 ft m6 ⟨_, rfl, oL⟩ oM) ?_
     rintro HZ g11 aAV rD
     refine wz.b.a.E.a.r.d.y.N.a.z ?_
     refine aM (k + 1, g11, vs ++ [n], .slice za zm zc, DT ++ [⟨n, 0, ft⟩], HZ) ⟨⟨_, _, _, rfl⟩, uM, by simp only [List.length_append, List.length_cons, List.length_nil]; omega, fun v hv => ?_, ab.le_trans m5 rD, aAV, fun e he => ?_, by simp only [List.length_append, List.length_cons, List.length_nil]; omega⟩ uM ⟨rfl, rfl, rfl, rfl, rfl, rfl, rfl, rfl, rfl, rfl, rfl, rfl, rfl, rfl, trivial⟩ rfl ?_
     ·rcases List.mem_append.1 hv with h | h
      ·exact m4 v h
      ·rw [List.mem_singleton.1 h]; exact ⟨l8, tw⟩
     ·rcases List.mem_append.1 he with h | h
      ·exact m7 e h
      ·rw [List.mem_singleton.1 h]; exact ⟨⟨xQ, uM, Nat.zero_le _⟩, l8, tw⟩
     ·simp [kp, dO]
    ·refine bg (fun g10 mn H0 => ?_)
     have Iq := yE.mono mn
     have tS : kK g10 ar lv ds (.slice (some ⟨b0, off, none⟩) ds.length dc) DT cv9 := ⟨Iq.c, Iq.hc, Iq.d, m6.mono mn, m7⟩
     have aAW := (((((((((cG.mono aD).mono aF).mono aR).mono cC).mono dT).mono k1).mono fh).mono m5).mono mn)
     refine wz.a.a.a.c.d.D.m.m.C.z ?_; refine oI 5 rfl rfl rfl rL ?_; refine wz.AE.a.z ?_
     rw [show ((d + 1 : Nat) : Int) - 1 = (d : Int) by omega]
     refine aG 6 rfl rfl rfl (hI g10 i7 lv ds _ DT _ goal _ tS oM ⟨_, rfl, aAW⟩ iu oM k7) ?_
     rintro HZ g11 r' ⟨y, i11, hy, gy, sy, rfl, aAX⟩ rD
     obtain ⟨z1, z2, z3, z4, z5, z6, z7, z8, z9, rfl, gJ⟩ := hy.form
     have Qb := ab.le_trans fh (ab.le_trans m5 (ab.le_trans mn rD))
     refine wz.G.Ag.g.r.b.q.g.z ?_
     refine bu rfl rfl rL rL rL rL rL (fun zy => ?_)
     refine cV 2 0 rfl rfl rfl rfl rfl rL rL rfl mL oM (fun v' eD => ?_)
     refine gT 2 rfl ?_
     rintro ⟨ya1, ym, yc1, rfl⟩
     have wQ := JE (p := 0) (c := c0.name) (k5.mono Qb) (H0.mono rD) gJ
     refine wz.De.b.a.E.a.r.d.y.N.Bl.g.z ?_
     refine aM (j + 1, acc ++ [.mk 0 c0.name vs y], .slice ya1 ym yc1, xa ++ kp 0 c0.name (.slice va vm vc) _, i11, g11) ⟨ab.le_trans k1 Qb, uM, by simp only [List.length_append, List.length_cons, List.length_nil]; omega, ⟨_, _, _, rfl⟩, wQ, fun a ha => ?_, aAX⟩ uM ⟨rfl, rfl, rfl, rfl, rfl, rfl, rfl, rfl, rfl, rfl, trivial⟩ rfl ?_
     ·rcases List.mem_append.1 ha with h | h
      ·exact k6 a h
      ·rw [List.mem_singleton.1 h]; exact ⟨q1, q2, m4, by show vs.length ≤ 2; omega, gy, sy⟩
     ·simp [kp, dO]
      first | rfl | exact ⟨rfl, rfl⟩
   ·have eK : j = dd.cons.length := by omega
    refine bg (fun g7' fC iE => ?_)
    have lh := ab.le_trans k1 fC
    have hV := zb (pos := 0) (mE.mono lh) (Ii.mono lh) iE (k5.mono fC)
    refine wz.i.b.V.G.c.d.D.m.m.C.z ?_
    refine bp [_] rfl (ay 2 rfl rfl rL) sD ⟨_, rfl, eS 0 x acc, i7, ⟨_, rfl, hV⟩, .case 0 x acc gx (fun h => by rw [h] at k3; simp at k3; omega) (fun a ha => ⟨(k6 a ha).1, by have := (k6 a ha).2.1; omega, fun v hv => ⟨((k6 a ha).2.2.1 v hv).1, by have := ((k6 a ha).2.2.1 v hv).2; omega⟩⟩) (fun a ha => (k6 a ha).2.2.2.2.1), ?_, rfl, k7⟩
    have n7 : ∀ a ∈ acc, hY a ≤ 3 + sQ d := fun a ha => by
     obtain ⟨_, _, _, h4, _, h6⟩ := k6 a ha
     cases a
     simp only [Ar.vars, Ar.body] at h4 h6
     simp only [hY]
     omega
    have h1 := P9 n7
    have h2 : acc.length * (3 + sQ d) ≤ 2 * (3 + sQ d) := Nat.mul_le_mul_right _ oM
    simp only [eS, aN, cd]
    omega
end Go.Proofs.YtlnjfkfojkgiiaaGreatDoor

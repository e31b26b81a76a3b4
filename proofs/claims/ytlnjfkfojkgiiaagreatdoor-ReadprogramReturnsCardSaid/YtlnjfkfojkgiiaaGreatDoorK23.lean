/- The walks of typedholesref9.Result, Constructor and Fields. -/
import Derived.Test.YtlnjfkfojkgiiaaGreatDoorK22
open Go Go.aZ Go.Th Go.Proofs Tryz
set_option maxRecDepth 10000
set_option maxHeartbeats 4000000
attribute [local irreducible] wpList Code.wp ah bodyPost Go.aZ.Ends Exit.then Exit.inBlock dJ Wq Kq
namespace Go.Proofs.YtlnjfkfojkgiiaaGreatDoor
def jU (g : ab) (v : Value) (n : Nat) (t : Ty) : Prop := ∃ sl, v = .agg (.int .i64 n :: aH t sl).toArray ∧ bx g t (aH t sl)
theorem jU.mono {g g' : ab} (hle : ab.le g g') {v : Value} {n : Nat} {t : Ty} (h : jU g v n t) : jU g' v n t := by
 obtain ⟨sl, h1, h2⟩ := h
 exact ⟨sl, h1, h2.mono hle⟩
theorem Yb (g : ab) (d : Da) (v : Value) (hv : qD g v d) (hp : d.params.length ≤ 2) : bK prog 193 [v] g fun w g' => aQ g' w (bJ d.name (bounds d.params.length)) := by
 obtain ⟨cs, rfl, hd⟩ := hv
 obtain ⟨y1, y2, y3, y4, y5, rfl, _⟩ := id hd.form
 refine aw func193 rfl ntmps193 rfl fun E hE => ?_
 refine aS ?_
 refine aP rfl rfl rfl (fun b1 => ?_)
 skip
 refine aj rfl (fun b2 => ?_)
 refine wz.AD.p.b.a.c.e.b.a.c.b.z ?_
 skip
 refine aX (ι := Nat × Value × List aA) (fun o => [(1, ptr b1 0), (2, ptr b2 0), (3, o.2.1), (4, .int .i64 o.1)]) (fun _ => g) (fun o => o.2.2) (fun o => o.1 ≤ d.params.length ∧ ∃ (a : Option Addr) (c : Nat) (xs : List Value), o.2.1 = .slice a (bounds o.1).length c ∧ o.2.2 = [.row 41 5 (.slice a (bounds o.1).length c) (bounds o.1).length xs, .ae b2 41 k_, .ae b1 60 [.int .i64 d.pos, str d.name, .slice y1 d.params.length y2, .slice y3 d.cons.length y4]] ∧ aV g (bounds o.1) xs) (fun o => d.params.length - o.1) (0, _, _) ⟨Nat.zero_le _, none, 0, [], rfl, rfl, cQ g⟩ ⟨rfl, rfl, rfl, rfl, trivial⟩ rfl rfl ?_
 rintro ⟨i, sv, own⟩ ⟨hi, a, c, xs, eu, ho, hx⟩
 simp only at hi eu ho hx
 subst eu
 subst ho
 try dsimp only
 refine wz.b.a.A.Ag.g.a.c.e.z ?_
 refine an rfl (fun hlt => ?_) (fun hlt => ?_)
 ·have hb := Og i
  have tx := Oh i
  generalize bounds i = B at hb tx hx
  refine wz.a.a.r.p.e.d.j.z ?_
  refine aO rfl rfl (GF g _) ?_
  skip
  refine bu rfl rfl rL rL rL rL rL (fun y0 => ?_)
  refine cV 1 0 rfl rfl rfl rfl rfl rL rL rfl mL oM (fun v' _ => ?_)
  refine wz.AC.z ?_
  rintro ⟨q1, q3, rfl⟩
  refine wz.Bp.b.a.E.a.r.d.y.N.a.z ?_
  exact aM (i + 1, _, _) ⟨oM, q1, q3, _, by rw [hb, List.length_append]; rfl, by rw [hb, List.length_append]; rfl, by rw [hb]; exact aV.snoc (bx.mk (t := .mk 2 [] i 0 []) (cP g 5) (cQ g)) hx⟩ uM ⟨rfl, rfl, rfl, rfl, trivial⟩ rfl rfl
 ·obtain rfl : i = d.params.length := by omega
  have tx := Oh d.params.length
  refine bg (fun g1 a8 aJ => ?_)
  refine wz.a.I.g.c.d.D.m.m.C.z ?_
  refine aB rfl rfl (wD g1 d.name _ _ _ aJ (hx.mono a8) oM) ?_
  rintro w g2 hw aD
  obtain ⟨z1, z2, z3, rfl, jT⟩ := hw.bA
  refine wz.i.b.q.z ?_
  exact bp [] rfl (ay 0 rfl rfl rL) sZ ⟨⟨_, rfl, jT⟩, rfl⟩
structure C8 (g : ab) (d : Da) (k : Nat) (c : Cn) (b off b' fo : Nat) (y1 : Option Addr) (y2 y4 : Nat) (fa : Option Addr) (fc : Nat) (xf : List Value) : Prop where
 xd : ∀ j x, [Value.int .i64 d.pos, str d.name, .slice y1 d.params.length y2, .slice (some ⟨b', fo, none⟩) d.cons.length y4][j]? = some x → g b (off + j) = some x
 xc : ∀ j x, [Value.int .i64 c.pos, str c.name, .slice fa c.fields.length fc][j]? = some x → g b' (fo + k * 3 + j) = some x
 p : au g 1 (.slice y1 d.params.length y2) d.params.length (d.params.map str)
 f1 : au g 5 (.slice fa c.fields.length fc) c.fields.length xf
 f2 : aV g c.fields xf
 at_ : gC g d [Value.int .i64 d.pos, str d.name, .slice y1 d.params.length y2, .slice (some ⟨b', fo, none⟩) d.cons.length y4]
theorem C8.mono {g g' : ab} (hle : ab.le g g') {d : Da} {k : Nat} {c : Cn} {b off b' fo : Nat} {y1 : Option Addr} {y2 y4 : Nat} {fa : Option Addr} {fc : Nat} {xf : List Value} (h : C8 g d k c b off b' fo y1 y2 y4 fa fc xf) : C8 g' d k c b off b' fo y1 y2 y4 fa fc xf :=
 ⟨fun j x hx => hle _ _ _ (h.xd j x hx), fun j x hx => hle _ _ _ (h.xc j x hx), h.p.mono hle, h.f1.mono hle, h.f2.mono hle, h.at_.mono hle⟩
theorem Ok {α : Type} {R : α → List Value → Prop} {g : ab} {sz : Nat} (hR : ∀ a c, R a c → c.length = sz) {l : List α} {xs : List Value} {b off : Nat} (ht : aL R l xs) (hx : ∀ k x, xs[k]? = some x → g b (off + k) = some x) {i : Nat} (h : i < l.length) :
  ∃ c, R l[i] c ∧ ∀ j x, c[j]? = some x → g b (off + i * sz + j) = some x := by
 obtain ⟨c, h1, h2⟩ := ht.get hR i h
 exact ⟨c, h1, fun j x hj => by rw [Nat.add_assoc]; exact hx _ _ (h2 j x hj)⟩
theorem Ol {g : ab} {ds : List Da} {a : Option Addr} {c0 : Nat} (hD : pw g ds (.slice a ds.length c0)) {i k : Nat} (hi : i < ds.length) (hk : k < ds[i].cons.length) :
  ∃ b off y1 y2 b' fo y4 fa fc xf, a = some ⟨b, off, none⟩ ∧ C8 g ds[i] k ds[i].cons[k] b (off + i * 4) b' fo y1 y2 y4 fa fc xf := by
 obtain ⟨⟨xd, gm, jO⟩, _, _⟩ := hD
 obtain ⟨b, off, cap, aq, hx⟩ := gm.held hi
 cases aq
 obtain ⟨cs, e1, hr⟩ := Ok (fun _ _ h => h.one.1) jO hx hi
 obtain ⟨y1, y2, y3, y4, y5, rfl, eV, lF, G2⟩ := id e1.form
 obtain ⟨b', fo, jZ, aq, db⟩ := lF.held hk
 cases aq
 obtain ⟨c', f1, dA⟩ := Ok (fun _ _ h => h.one.1) G2 db hk
 obtain ⟨fa, fc, xf, rfl, gF, mY⟩ := id f1.form
 exact ⟨b, off, y1, y2, b', fo, y4, fa, fc, xf, rfl, ⟨hr, dA, eV, gF, mY, e1⟩⟩
theorem Yc (a b : Ty) : aE (cZ a b) = 1 + aE a + aE b := by simp [cZ, bJ, aE, bM]; omega
def Yd (n : Nat) (t : Ty) : Prop := n ≤ 2 ∧ OK 0 n false t ∧ aE t ≤ 40
theorem Ye (g : ab) (ds : List Da) (dv : Value) (hD : pw g ds dv) (w : Bytes) (hw : ∃ d ∈ ds, ∃ c ∈ d.cons, c.name = w) : bK prog 157 [dv, str w] g fun v g' => ∃ sv n t, v = .tuple #[sv, .bool true] ∧ jU g' sv n t ∧ Yd n t := by
 obtain ⟨⟨xd, gm, jO⟩, nj, px⟩ := id hD
 obtain ⟨da, dc, rfl⟩ := aU gm
 refine aw func157 rfl ntmps157 rfl fun E hE => ?_
 refine aS ?_
 refine aj rfl (fun b4 => ?_)
 refine wz.a.a.c.b.a.z ?_
 refine aB rfl rfl (Oj g ds _ hD w) ?_
 rintro v g1 ⟨hF, rfl⟩ _
 rcases hF with ⟨i, k, hi, hk, tB, rfl⟩ | ⟨qO, _⟩
 case inr =>
  obtain ⟨d, hd, c, hc, e⟩ := hw
  exact absurd e (qO d hd c hc)
 obtain ⟨b, off, y1, y2, b', fo, y4, fa, fc, xf, aq, hX⟩ := Ol hD hi hk
 cases aq
 have hX1 := hX
 obtain ⟨xM, vw, tC⟩ := px _ (List.getElem_mem hi)
 have zx := List.getElem_mem hi
 generalize ds[i] = d at *
 have G3 := tC _ (List.getElem_mem hk)
 have pI := (vw.2.2 _ (List.getElem_mem hk)).2.2
 generalize C9 : d.cons[k] = cc at *
 refine wz.M.a.a.c.d.j.o.b.a.a.c.e.b.a.a.a.a.a.a.a.z ?_; refine eY rfl rfl (nc hX.xd) rfl ?_
 refine aB rfl rfl (Yb g1 d _ ⟨_, rfl, hX.at_⟩ xM.2.2) ?_
 rintro u g2 hu aD
 obtain ⟨z1, z2, z3, rfl, gq⟩ := hu.bA
 have xN := hX.mono aD
 skip
 refine aj rfl (fun b9 => ?_)
 refine wz.g.M.a.a.c.b.q.z ?_
 refine cj rfl rfl (eT (xN.xd 3 _ rfl)) ?_
 refine wz.g.M.a.z ?_
 refine cj rfl rfl (eT (xN.xc 2 _ rfl)) ?_
 refine wz.p.b.a.AE.A.a.c.e.b.a.z ?_
 refine aX (ι := Nat × ab × List Value × Ty) (fun o => [(0, .slice (some ⟨b, off, none⟩) ds.length dc), (4, ptr b4 0), (6, .int .i64 i), (9, ptr b9 0), (10, .slice fa cc.fields.length fc), (11, .int .i64 ((cc.fields.length : Int) - 1 - o.1))]) (fun o => o.2.1) (fun o => [.ae b9 41 o.2.2.1, .ae b4 95 [.int .i64 0, .int .i64 0, str [], .int .i64 0, .int .i64 0, .slice none 0 0]]) (fun o => o.1 ≤ cc.fields.length ∧ ab.le g2 o.2.1 ∧ bx o.2.1 o.2.2.2 o.2.2.1 ∧ OK 0 d.params.length false o.2.2.2 ∧ aE o.2.2.2 ≤ 3 + 11 * o.1) (fun o => cc.fields.length - o.1) (0, g2, _, _) ⟨Nat.zero_le _, ab.le_refl _, gq, C5 (GY xM) (X_ _), by rw [jA]; show 1 + bM (bounds d.params.length) ≤ 3 + 11 * 0; rw [Oi]; have := xM.2.2; omega⟩ ⟨rfl, rfl, rfl, rfl, rfl, qF rfl sM, trivial⟩ rfl rfl ?_
 rintro ⟨j, g3, tc, t⟩ ⟨hj, aF, ht, bW, qn⟩
 simp only at hj aF ht bW qn
 obtain ⟨sl, rfl⟩ := ht.cells
 obtain ⟨q1, q2, rfl⟩ := ht.slice
 try dsimp only
 have py := xN.mono aF
 refine wz.b.a.a.c.e.z ?_
 refine an rfl (fun hlt => ?_) (fun hlt => ?_)
 ·have af : cc.fields.length - 1 - j < cc.fields.length := by omega
  have Om : (cc.fields.length : Int) - 1 - j = ((cc.fields.length - 1 - j : Nat) : Int) := by omega
  obtain ⟨bf, of, cf, aq, G4⟩ := py.f1.held af
  cases aq
  obtain ⟨cS, h2, xO⟩ := eZ py.f2 G4 af
  have G5 := G3 _ (List.getElem_mem af)
  generalize cc.fields[cc.fields.length - 1 - j] = f at *
  have G6 := GZ G5.1
  have o7 := G0 d.params f
  refine wz.p.e.d.j.z ?_
  refine fQ 12 [] mixed kR (fun hG => ?_)
  refine wz.Ar.z ?_; refine ⟨_, (ag rfl), ?_⟩; refine wz.Ax.z ?_; refine ⟨_, (ag rfl), ?_⟩
  refine di 2 rfl kR rfl hG ⟨_, (bU (j := cc.fields.length - 1 - j) rfl rfl Om af), ?_⟩
  refine di 3 rfl kR rfl hG ⟨_, (dL rfl (xO _) rfl), ?_⟩
  refine wz.AT.z ?_; refine ⟨_, (ag rfl), ?_⟩; refine wz.Be.z ?_; refine ⟨_, (ag rfl), ?_⟩
  refine di 6 rfl kR rfl hG ⟨_, (bU (j := i) rfl rfl rfl hi), ?_⟩
  refine wz.Bo.z ?_; refine ⟨_, (aI rfl), ?_⟩
  refine di 8 rfl kR rfl hG ⟨_, (cU rfl (eT (py.xd 2 _ rfl))), ?_⟩
  refine di 10 rfl kR rfl hG ?_; refine ⟨_, (bP 0 rfl rfl rL), ?_⟩
  refine wz.BD.z ?_
  refine aB rfl rfl (GK g3 d.params f oM _ _ ⟨cS, rfl, h2⟩ py.p) ?_
  rintro w1 g4 hw1 aR
  refine wz.f.b.z ?_; refine iP 11 kR rfl rfl ?_
  refine aB rfl rfl (sj g4 _ t _ _ hw1 ⟨_, rfl, ht.mono aR⟩) ?_
  rintro w2 g5 jq cC
  obtain ⟨v1, v2, v3, rfl, xP⟩ := jq.bA
  have oC := ab.le_trans aR cC
  refine wz.b.a.AE.a.r.d.y.N.q.Am.f.b.z ?_
  refine ED 11 rfl (v' := .int .i64 ((cc.fields.length : Int) - 1 - ((j + 1 : Nat) : Int))) (vi oM) ?_
  exact aM (j + 1, g5, _, _) ⟨oM, ab.le_trans aF oC, xP, C4 G6 bW, by show aE (cZ (c7 (iH d.params) f) t) ≤ 3 + 11 * (j + 1); rw [Yc]; omega⟩ uM ⟨rfl, rfl, rfl, rfl, rfl, rfl, trivial⟩ rfl rfl
 ·obtain rfl : j = cc.fields.length := by omega
  refine wz.e.d.D.m.m.C.z ?_
  refine fQ 8 [] mixed kR (fun hG => ?_)
  refine wz.Ar.z ?_; refine ⟨_, (ag rfl), ?_⟩; refine wz.Ax.z ?_; refine ⟨_, (ag rfl), ?_⟩
  refine di 2 rfl kR rfl hG ⟨_, (bU (j := i) rfl rfl rfl hi), ?_⟩
  refine wz.AS.z ?_; refine ⟨_, (aI rfl), ?_⟩
  refine di 4 rfl kR rfl hG ⟨_, (cU rfl (eT (py.xd 2 _ rfl))), ?_⟩
  refine wz.Be.z ?_; refine ⟨_, (jQ rfl), ?_⟩; refine wz.Bs.z ?_; refine ⟨_, (bP 0 rfl rfl rL), ?_⟩; refine wz.Bo.z ?_; refine ⟨_, (et rfl rL), ?_⟩
  refine wz.i.b.a.B.Am.z ?_
  exact cB [] rfl (ay 1 rfl rfl rL) (.tmp rfl) sZ ⟨⟨_, d.params.length, t, rfl, ⟨_, rfl, ht⟩, xM.2.2, bW, oM⟩, rfl⟩
theorem On {az : List Ty} {B : Nat} (hB : 1 ≤ B) (h : ∀ a ∈ az, aE a ≤ B) (t : Ty) : aE (c7 (lT az) t) ≤ B * aE t := N9 hB (fun t u hf => by
 unfold lT at hf
 split at hf
 ·exact h u (List.mem_of_getElem? hf)
 ·cases hf) t
def Oo (g : ab) (B : Nat) (v : Value) : Prop := ∃ (fs : List Ty) (xs : List Value), au g 5 v fs.length xs ∧ aV g fs xs ∧ kG 0 0 false fs ∧ fs.length ≤ 2 ∧ ∀ f ∈ fs, aE f ≤ B
theorem Oq (g : ab) (B : Nat) : Oo g B (.slice none 0 0) := ⟨[], [], cP g 5, cQ g, (fun _ h => by cases h), sM, (fun _ h => by cases h)⟩
theorem Yf (g : ab) (ds : List Da) (dv : Value) (hD : pw g ds dv) (w : Bytes) (az : List Ty) (va : Value) (xa : List Value) (hs : au g 5 va az.length xa) (ha : aV g az xa) (hz : az.length ≤ 1000) (bW : kG 0 0 false az) (B : Nat) (hB : 1 ≤ B) (hB2 : B ≤ 10000) (hn : ∀ a ∈ az, aE a ≤ B) :
  bK prog 113 [dv, str w, va] g fun v g' => ∃ fv b, v = .tuple #[fv, .bool b] ∧ Oo g' (10 * B) fv := by
 obtain ⟨⟨xd, gm, jO⟩, nj, px⟩ := id hD
 obtain ⟨da, dc, rfl⟩ := aU gm
 obtain ⟨aa, ac, rfl⟩ := aU hs
 refine aw func113 rfl ntmps113 rfl fun E hE => ?_
 refine wz.a.a.c.b.a.a.c.z ?_
 refine aB rfl rfl (Oj g ds _ hD w) ?_
 rintro v g1 ⟨hF, rfl⟩ _
 rcases hF with ⟨i, k, hi, hk, tB, rfl⟩ | ⟨qO, rfl⟩
 case inr =>
  refine wz.l.i.b.a.a.c.t.b.a.h.h.h.h.h.h.h.h.h.a.a.a.c.e.b.a.a.a.a.a.a.a.z ?_
  exact cB [] rfl (.tmp rfl) (.tmp rfl) sZ ⟨⟨_, _, rfl, Oq g1 _⟩, rfl⟩
 obtain ⟨b, off, y1, y2, b', fo, y4, fa, fc, xf, aq, hX⟩ := Ol hD hi hk
 cases aq
 obtain ⟨xM, vw, tC⟩ := px _ (List.getElem_mem hi)
 have zx := List.getElem_mem hi
 generalize ds[i] = d at *
 have G3 := tC _ (List.getElem_mem hk)
 have pI := (vw.2.2 _ (List.getElem_mem hk)).2.2
 generalize C9 : d.cons[k] = cc at *
 refine wz.k.g.k.M.k.u.u.A.k.u.a.a.a.c.e.b.a.a.a.a.a.a.a.z ?_; refine cj rfl rfl (eT (hX.xd 2 _ rfl)) ?_; refine wz.b.a.u.A.k.z ?_
 refine an rfl (fun hne => ?_) (fun hne => ?_)
 ·refine wz.l.i.b.a.a.c.z ?_
  exact cB [] rfl (.tmp rfl) (.tmp rfl) sZ ⟨⟨_, _, rfl, Oq g1 _⟩, rfl⟩
 have lr : az.length = d.params.length := by omega
 refine wz.g.M.a.a.c.b.a.c.d.j.z ?_; refine cj rfl rfl (eT (hX.xd 3 _ rfl)) ?_; refine wz.g.M.a.z ?_; refine cj rfl rfl (eT (hX.xc 2 _ rfl)) ?_; refine wz.AD.p.b.a.c.e.b.a.z ?_
 skip
 refine aX (ι := Nat × ab × Value × List aA) (fun o => [(0, .slice (some ⟨b, off, none⟩) ds.length dc), (2, .slice aa az.length ac), (8, .int .i64 i), (11, o.2.2.1), (12, .slice fa cc.fields.length fc), (13, .int .i64 o.1)]) (fun o => o.2.1) (fun o => o.2.2.2) (fun o => o.1 ≤ cc.fields.length ∧ ab.le g1 o.2.1 ∧ ∃ (a : Option Addr) (c : Nat) (fs : List Ty) (xs : List Value), o.2.2.1 = .slice a fs.length c ∧ o.2.2.2 = [.row 41 5 (.slice a fs.length c) fs.length xs] ∧ aV o.2.1 fs xs ∧ kG 0 0 false fs ∧ fs.length = o.1 ∧ ∀ f ∈ fs, aE f ≤ 10 * B) (fun o => cc.fields.length - o.1) (0, g1, _, _) ⟨Nat.zero_le _, ab.le_refl _, none, 0, [], [], rfl, rfl, cQ g1, (fun _ h => by cases h), rfl, (fun _ h => by cases h)⟩ ⟨rfl, rfl, rfl, rfl, rfl, rfl, trivial⟩ rfl rfl ?_
 rintro ⟨j, g3, sv, own⟩ ⟨hj, aF, a, c, fs, xs, eu, ho, hx, xQ, kz, Ot⟩
 simp only at hj aF eu ho hx kz
 subst eu
 subst ho
 try dsimp only
 have py := hX.mono aF
 refine wz.b.a.A.a.a.c.e.z ?_
 refine an rfl (fun hlt => ?_) (fun hlt => ?_)
 ·have af : j < cc.fields.length := by omega
  obtain ⟨bf, of, cf, aq, G4⟩ := py.f1.held af
  cases aq
  obtain ⟨cS, h2, xO⟩ := eZ py.f2 G4 af
  have G5 := G3 _ (List.getElem_mem af)
  generalize cc.fields[j] = f at *
  have G6 := GZ G5.1
  have o7 := G0 d.params f
  refine wz.p.e.d.j.z ?_
  refine fQ 15 [0] mixed kR (fun hG => ?_)
  refine wz.Ar.z ?_; refine ⟨_, (ag rfl), ?_⟩; refine wz.Ax.z ?_; refine ⟨_, (ag rfl), ?_⟩; refine wz.Ay.z ?_; refine ⟨_, (ag rfl), ?_⟩
  refine di 3 rfl kR rfl hG ⟨_, (bU (j := j) rfl rfl rfl af), ?_⟩
  refine di 4 rfl kR rfl hG ⟨_, (dL rfl (xO _) rfl), ?_⟩
  refine wz.Be.z ?_; refine ⟨_, (ag rfl), ?_⟩; refine wz.Bs.z ?_; refine ⟨_, (ag rfl), ?_⟩
  refine di 7 rfl kR rfl hG ⟨_, (bU (j := i) rfl rfl rfl hi), ?_⟩
  refine wz.Cq.z ?_; refine ⟨_, (aI rfl), ?_⟩
  refine di 9 rfl kR rfl hG ⟨_, (cU rfl (eT (py.xd 2 _ rfl))), ?_⟩
  refine wz.Cb.z ?_; refine ⟨_, (ag rfl), ?_⟩
  refine wz.BE.z ?_
  refine aB rfl rfl (GK g3 d.params f oM _ _ ⟨cS, rfl, h2⟩ py.p) ?_
  rintro w1 g4 hw1 aR
  have G7 := ab.le_trans aF aR
  refine wz.f.b.z ?_; refine iP 12 kR rfl rfl ?_
  refine aB rfl rfl (GJ g4 az oM _ oM _ _ _ hw1 (hs.mono G7) (ha.mono G7)) ?_
  rintro w2 g5 jq cC
  obtain ⟨v1, v2, v3, rfl, xP⟩ := jq.bA
  have oC := ab.le_trans aR cC
  have hon := On hB hn (c7 (iH d.params) f)
  have hBn : B * aE (c7 (iH d.params) f) ≤ B * 10 := Nat.mul_le_mul_left B oM
  have Yg := G1 (by omega : d.params.length ≤ az.length) bW G6
  generalize c7 (lT az) (c7 (iH d.params) f) = F at *
  refine wz.f.b.z ?_; refine iP 13 kR rfl rfl ?_
  skip
  refine bu rfl rfl rL rL rL rL rL (fun y0 => ?_)
  refine wz.f.b.z ?_; refine iP 14 kR rfl rfl ?_
  skip
  refine cV 1 0 rfl rfl rfl rfl rfl rL rL rfl mL oM (fun v' _ => ?_)
  refine wz.AC.z ?_
  rintro ⟨q1, q3, rfl⟩
  refine wz.b.a.E.a.r.d.y.N.a.Bk.Am.f.b.z ?_
  exact aM (j + 1, g5, _, _) ⟨oM, ab.le_trans aF oC, q1, q3, fs ++ [F], _, by rw [List.length_append]; rfl, by rw [List.length_append]; rfl, aV.snoc xP (hx.mono oC), fun t ht => by
   rcases List.mem_append.1 ht with ht | ht
   ·exact xQ t ht
   ·rw [List.mem_singleton.1 ht]; exact Yg, by rw [List.length_append, kz]; rfl, fun t ht => by
   rcases List.mem_append.1 ht with ht | ht
   ·exact Ot t ht
   ·rw [List.mem_singleton.1 ht]; omega⟩ uM ⟨rfl, rfl, rfl, rfl, rfl, rfl, trivial⟩ rfl rfl
 ·refine bg (fun g4 aR eG => ?_)
  refine wz.i.b.a.a.a.c.d.D.m.m.C.z ?_
  exact cB [] rfl (.tmp rfl) (.tmp rfl) sZ ⟨⟨_, _, rfl, fs, xs, eG, hx.mono aR, xQ, oM, Ot⟩, rfl⟩
end Go.Proofs.YtlnjfkfojkgiiaaGreatDoor
namespace Go.Th
structure En where
 name : Bytes
 gj : Nat
 ty : Ty
end Go.Th
namespace Go.Proofs.YtlnjfkfojkgiiaaGreatDoor
def qo (g : ab) (e : En) (cs : List Value) : Prop := ∃ sl, cs = str e.name :: .int .i64 e.gj :: aH e.ty sl ∧ bx g e.ty (aH e.ty sl)
theorem qo.mono {g g' : ab} (hle : ab.le g g') {e : En} {cs : List Value} (h : qo g e cs) : qo g' e cs := by
 obtain ⟨sl, h1, h2⟩ := h
 exact ⟨sl, h1, h2.mono hle⟩
theorem qo.form {g : ab} {e : En} {cs : List Value} (h : qo g e cs) : ∃ (a : Option Addr) (c : Nat), cs = str e.name :: .int .i64 e.gj :: aH e.ty (.slice a e.ty.args.length c) ∧ bx g e.ty (aH e.ty (.slice a e.ty.args.length c)) := by
 obtain ⟨sl, h1, h2⟩ := h
 obtain ⟨a, c, rfl⟩ := h2.slice
 exact ⟨a, c, h1, h2⟩
theorem qo.one {g : ab} {e : En} {cs : List Value} (h : qo g e cs) : cs.length = 7 ∧ ∀ u ∈ cs, fx u = true := by
 obtain ⟨a, c, rfl, h2⟩ := h.form
 refine ⟨rfl, fun u hu => ?_⟩
 rcases List.mem_cons.1 hu with rfl | hu
 ·rfl
 rcases List.mem_cons.1 hu with rfl | hu
 ·rfl
 exact h2.one.2 u hu
def ld (g : ab) (v : Value) (ctx : List En) : Prop := ∃ xs, au g 7 v ctx.length xs ∧ aL (qo g) ctx xs
theorem ld.mono {g g' : ab} (hle : ab.le g g') {v : Value} {ctx : List En} (h : ld g v ctx) : ld g' v ctx := by
 obtain ⟨xs, h1, h2⟩ := h
 exact ⟨xs, h1.mono hle, aL.mono (fun _ _ h => h.mono hle) h2⟩
theorem jU.form {g : ab} {v : Value} {n : Nat} {t : Ty} (h : jU g v n t) : ∃ (a : Option Addr) (c : Nat), v = .agg #[.int .i64 n, .int .i64 t.kind, str t.name, .int .i64 t.id, .int .i64 t.home, .slice a t.args.length c] ∧ bx g t (aH t (.slice a t.args.length c)) := by
 obtain ⟨sl, rfl, h2⟩ := h
 obtain ⟨a, c, rfl⟩ := h2.slice
 exact ⟨a, c, rfl, h2⟩
theorem rk (g : ab) (t : Ty) (v : Value) (hv : aQ g v t) : bK prog 45 [v] g fun w g' => g' = g ∧ jU g w 0 t := by
 obtain ⟨ya, ym, yc, rfl, h1⟩ := hv.bA
 refine aw func45 rfl ntmps45 rfl fun E hE => ?_
 refine aS ?_
 refine aP rfl rfl rfl (fun b1 => ?_)
 skip
 refine aj rfl (fun b2 => ?_)
 refine wz.i.b.q.K.O.c.b.z ?_
 exact bp [] rfl (ay 0 rfl rfl rL) sZ ⟨⟨rfl, _, rfl, h1⟩, rfl⟩
theorem vx (g : ab) (ctx : List En) (v sv : Value) (name : Bytes) (n : Nat) (t : Ty) (hc : ld g v ctx) (hs : jU g sv n t) (hl : ctx.length ≤ 1000000) : bK prog 44 [v, str name, sv] g fun w g' => ld g' w (ctx ++ [⟨name, n, t⟩]) := by
 obtain ⟨xs, h1, h2⟩ := hc
 obtain ⟨a, c, rfl, h3⟩ := hs.form
 obtain ⟨ca, cc, rfl⟩ := aU h1
 have jB := (aL.one (fun _ _ h => h.one) h2).2
 refine aw func44 rfl ntmps44 rfl fun E hE => ?_
 refine aS ?_
 refine aP rfl rfl rfl (fun b5 => ?_)
 refine wz.b.a.z ?_; refine fW 138 7 ?_
 refine cD (ι := Value × List Value) (fun p => [(6, p.1)]) (fun _ => g) (fun p => [.row 138 7 p.1 (ctx.length + 1) p.2]) (fun p => p.2 = xs ++ (str name :: .int .i64 n :: aH t (.slice a t.args.length c))) ?_ ?_
 ·rintro ⟨w, ys⟩ hy
  simp only at hy
  subst hy
  try dsimp only
  refine bg (fun g1 a8 aJ => ?_)
  refine Ey ?_
  exact ao [] rfl rfl sZ ⟨⟨_, by rw [List.length_append]; exact aJ, aL.snoc ⟨_, rfl, h3.mono a8⟩ (aL.mono (fun _ _ h => h.mono a8) h2)⟩, rfl⟩
 ·intro K hK
  refine fQ 7 [0] mixed kR (fun hG => ?_)
  refine wz.Ar.z ?_; refine ⟨_, (ag rfl), ?_⟩
  refine wz.Ay.z ?_; refine ⟨_, (ag rfl), ?_⟩; refine wz.AS.z ?_; refine ⟨_, (bP 0 rfl rfl rL), ?_⟩; refine wz.AT.z ?_; refine ⟨_, (et rfl rL), ?_⟩
  refine Ou 1 5 kR rfl rfl rfl rfl ?_ ?_
  ·skip
   refine jr 0 rfl rfl rfl rfl h1 rL rL jB mL oM (fun v1 _ => ?_)
   refine gT 0 rfl ?_
   rintro ⟨z1, z2, z3, rfl⟩
   refine wz.Bn.f.b.z ?_
   skip
   refine bu rfl rfl rL rL rL rL rL (fun y0 => ?_)
   refine wz.Cd.f.b.z ?_
   skip
   refine cV 1 0 rfl rfl rfl rfl rfl rL rL rfl mL oM (fun v2 _ => ?_)
   refine gT 1 rfl ?_
   rintro ⟨z4, z5, z6, rfl⟩
   refine wz.b.a.Am.f.b.z ?_
   rw [Nat.zero_add, List.nil_append]
   refine fF (own' := [_]) (.cons _ (.cons_cons _ sZ)) ?_
   exact hK (_, _) _ rfl ⟨rfl, trivial⟩
  ·skip
   refine bu rfl rfl rL rL rL rL rL (fun y0 => ?_)
   refine wz.f.b.z ?_; refine iP 1 kR rfl rfl ?_
   skip
   refine jr 1 rfl rfl rfl rfl h1 rL rL jB mL oM (fun v1 _ => ?_)
   refine gT 1 rfl ?_
   rintro ⟨z1, z2, z3, rfl⟩
   refine wz.Cd.f.b.z ?_
   skip
   refine cV 1 0 rfl rfl rfl rfl rfl rL rL rfl mL oM (fun v2 _ => ?_)
   refine gT 1 rfl ?_
   rintro ⟨z4, z5, z6, rfl⟩
   refine wz.b.a.Am.f.b.z ?_
   rw [Nat.zero_add, List.nil_append]
   refine fF (own' := [_]) (.cons _ (.cons_cons _ sZ)) ?_
   exact hK (_, _) _ rfl ⟨rfl, trivial⟩
theorem Ov (g : ab) (ctx : List En) (v : Value) (hc : ld g v ctx) (name : Bytes) : bK prog 147 [v, str name] g fun w g' => g' = g ∧ ∃ sv n t b, w = .tuple #[sv, .bool b] ∧ jU g sv n t := by
 obtain ⟨xs, h1, h2⟩ := hc
 obtain ⟨ca, cc, rfl⟩ := aU h1
 have hle := h1.le
 refine aw func147 rfl ntmps147 rfl fun E hE => ?_
 refine aS ?_
 refine aj rfl (fun b4 => ?_)
 refine wz.p.b.a.AE.A.a.c.e.b.a.z ?_
 refine aX (ι := Nat) (fun k => [(0, .slice ca ctx.length cc), (1, str name), (4, ptr b4 0), (6, .int .i64 ((ctx.length : Int) - 1 - k))]) (fun _ => g) (fun _ => [.ae b4 95 [.int .i64 0, .int .i64 0, str [], .int .i64 0, .int .i64 0, .slice none 0 0]]) (fun k => k ≤ ctx.length) (fun k => ctx.length - k) 0 (Nat.zero_le _) ⟨rfl, rfl, rfl, qF rfl sM, trivial⟩ rfl rfl ?_
 intro k hk
 refine wz.b.a.a.c.e.z ?_
 refine an rfl (fun hlt => ?_) (fun hlt => ?_)
 ·have af : ctx.length - 1 - k < ctx.length := by omega
  have he : (ctx.length : Int) - 1 - k = ((ctx.length - 1 - k : Nat) : Int) := by omega
  obtain ⟨b, off, cap, aq, hx⟩ := h1.held af
  cases aq
  obtain ⟨c, e1, hr⟩ := dt (fun _ _ h => h.one.1) h2 hx af
  obtain ⟨a, c', rfl, e2⟩ := e1.form
  refine wz.a.a.c.p.e.d.j.z ?_
  refine gV (j := ctx.length - 1 - k) rfl rfl rfl he af ?_
  refine wz.g.z ?_
  refine cj rfl rfl ((hr _).du 0 rfl) ?_
  refine wz.b.a.a.z ?_
  refine an rfl (fun hn => ?_) (fun hn => ?_)
  ·refine wz.a.a.c.z ?_
   refine gV (j := ctx.length - 1 - k) rfl rfl rfl he af ?_
   refine wz.g.z ?_
   refine eY rfl rfl ((hr _).part 1 (vs := .int .i64 ctx[ctx.length - 1 - k].gj :: aH ctx[ctx.length - 1 - k].ty _) (fun j x h => by rw [Nat.add_comm]; exact h)) rfl ?_
   refine wz.l.x.l.l.x.i.b.a.q.z ?_
   exact cB [] rfl (ay 0 rfl rfl rL) (.tmp rfl) sZ ⟨⟨rfl, _, _, _, _, rfl, ⟨_, rfl, e2⟩⟩, rfl⟩
  ·refine wz.b.a.AE.a.r.d.y.j.z ?_
   exact aM (k + 1) oM oM ⟨rfl, rfl, rfl, qF rfl oM, trivial⟩ rfl rfl
 ·refine wz.i.b.a.q.K.c.d.D.m.m.C.z ?_
  exact cB [] rfl (ay 0 rfl rfl rL) (.tmp rfl) sZ ⟨⟨rfl, _, 0, bX, _, rfl, ⟨_, rfl, bx.mk (t := bX) (cP g 5) (cQ g)⟩⟩, rfl⟩
theorem aL.drop {α : Type} {R : α → List Value → Prop} {sz : Nat} (hR : ∀ a c, R a c → c.length = sz) : ∀ {l : List α} {xs : List Value}, aL R l xs → ∀ k, aL R (l.drop k) (xs.drop (k * sz))
 | l, xs, h, 0 => by simpa using h
 | [], xs, h, k + 1 => by rw [show xs = [] from h]; simp [aL]
 | a :: l, xs, ⟨c, r, h1, h2, h3⟩, k + 1 => by
  have := aL.drop hR h3 k
  rw [List.drop_succ_cons, h1, Nat.succ_mul, Nat.add_comm, ← List.drop_drop, List.drop_left' (hR _ _ h2)]
  exact this
def Yh (g : ab) (ctx : List En) (k : Nat) (v : Value) (own : List aA) : Prop := ∃ (o : List En) (a : Option Addr) (c : Nat) (xs : List Value), v = .slice a o.length c ∧ own = [.row 138 7 (.slice a o.length c) o.length xs] ∧ aL (qo g) o xs ∧ (∀ e ∈ o, e ∈ ctx) ∧ o.length ≤ k
theorem G8 (g : ab) (ctx : List En) (v : Value) (hc : ld g v ctx) (hl : ctx.length ≤ 1000000) : bK prog 110 [v] g fun w g' => ∃ o, ld g' w o ∧ (∀ e ∈ o, e ∈ ctx) ∧ o.length ≤ ctx.length := by
 obtain ⟨xs, h1, h2⟩ := id hc
 obtain ⟨ca, cc, rfl⟩ := aU h1
 refine aw func110 rfl ntmps110 rfl fun E hE => ?_
 refine wz.p.b.a.c.e.b.a.c.b.a.c.z ?_; refine fW 138 7 ?_
 skip
 refine aX (ι := Nat × Value × List aA) (fun o => [(0, .slice ca ctx.length cc), (3, o.2.1), (4, .int .i64 o.1)]) (fun _ => g) (fun o => o.2.2) (fun o => o.1 ≤ ctx.length ∧ Yh g ctx o.1 o.2.1 o.2.2) (fun o => ctx.length - o.1) (0, _, _) ⟨Nat.zero_le _, [], none, 0, [], rfl, rfl, rfl, (fun _ h => by cases h), Nat.le_refl _⟩ ⟨rfl, rfl, rfl, trivial⟩ rfl rfl ?_
 rintro ⟨k, sv, own⟩ ⟨hk, o, a, c, ys, eu, ho, hy, hs, hn⟩
 simp only at hk eu ho hn
 subst eu
 subst ho
 try dsimp only
 refine wz.b.a.A.a.a.c.e.z ?_
 refine an rfl (fun hlt => ?_) (fun hlt => ?_)
 ·have af : k < ctx.length := by omega
  obtain ⟨hm, tD, kh⟩ := h1.lo (p := k + 1) oM
  obtain ⟨b, off, cap, aq, hx⟩ := h1.held af
  cases aq
  obtain ⟨cs, e1, hr⟩ := dt (fun _ _ h => h.one.1) h2 hx af
  obtain ⟨a', c', rfl, e2⟩ := e1.form
  have Ow : ld g (.slice (if cc = k + 1 then some ⟨b, off, none⟩ else (some ⟨b, off, none⟩ : Option Addr).map (·.add ((k + 1) * 7))) (ctx.length - (k + 1)) (cc - (k + 1))) (ctx.drop (k + 1)) := ⟨_, by rw [List.length_drop]; exact kh, aL.drop (fun _ _ h => h.one.1) h2 (k + 1)⟩
  refine wz.p.e.d.j.z ?_
  refine cD (ι := Bool) (fun z => [(0, .slice (some ⟨b, off, none⟩) ctx.length cc), (3, .slice a o.length c), (4, .int .i64 k), (6, .bool z)]) (fun _ => g) (fun _ => [.row 138 7 (.slice a o.length c) o.length ys]) (fun _ => True) ?_ ?_
  ·intro z _
   try dsimp only
   cases z with
   | true =>
    refine wz.b.a.E.a.r.d.y.j.o.b.a.a.c.z ?_
    exact aM (k + 1, _, _) ⟨oM, o, a, c, ys, rfl, rfl, hy, hs, oM⟩ uM ⟨rfl, rfl, rfl, trivial⟩ rfl rfl
   | false =>
    refine wz.An.M.a.a.a.r.t.b.a.a.c.z ?_
    refine bu rfl rfl rL rL rL rL rL (fun y0 => ?_)
    refine cV 1 0 rfl rfl rfl rfl rfl rL rL rfl mL oM (fun v1 _ => ?_)
    refine wz.AC.z ?_
    rintro ⟨q1, q3, rfl⟩
    refine wz.Bk.b.a.E.a.r.d.y.N.a.z ?_
    exact aM (k + 1, _, _) ⟨oM, o ++ [ctx[k]], q1, q3, _, by rw [List.length_append]; rfl, by rw [List.length_append]; rfl, aL.snoc ⟨_, rfl, e2⟩ hy, (fun e he => (List.mem_append.1 he).elim (hs e) (fun h => by rw [List.mem_singleton.1 h]; exact List.getElem_mem af)), by rw [List.length_append, List.length_singleton]; omega⟩ uM ⟨rfl, rfl, rfl, trivial⟩ rfl rfl
  ·intro K hK
   refine bO [] mixed (fun hG => ?_)
   refine wz.P.z ?_; refine ⟨_, (ag rfl), ?_⟩; refine wz.R.z ?_; refine ⟨_, (ag rfl), ?_⟩; refine wz.S.z ?_; refine ⟨_, (val_add rfl rfl oM), ?_⟩
   refine bn 3 rfl kR rfl hG ⟨_, (C_ rfl rfl oM af tD), ?_⟩
   refine wz.Z.z ?_; refine ⟨_, (ag rfl), ?_⟩; refine wz.Ad.z ?_; refine ⟨_, (ag rfl), ?_⟩
   refine bn 6 rfl kR rfl hG ⟨_, (bU (j := k) rfl rfl rfl af), ?_⟩
   refine wz.Aa.z ?_; refine ⟨_, (aI rfl), ?_⟩
   refine bn 8 rfl kR rfl hG ⟨_, (cU rfl ((hr _).du 0 rfl)), ?_⟩
   refine eH 9 13 kR rfl rfl ?_ ?_
   ·skip
    refine aB rfl rfl (Ov g _ _ Ow ctx[k].name) ?_
    rintro w g1 ⟨rfl, sv, n, t, z, rfl, eu⟩ _
    obtain ⟨s1, s2, rfl, _⟩ := eu.form
    refine wz.Al.f.b.z ?_; refine ⟨_, (ag rfl), ?_⟩; refine wz.As.z ?_; refine ⟨_, (ag rfl), ?_⟩; refine wz.Az.z ?_; refine ⟨_, (ag rfl), ?_⟩
    refine wz.AJ.z ?_
    skip
    refine aj rfl (fun b5 => ?_)
    refine wz.Bk.d.F.f.b.a.At.f.b.q.AO.f.b.z ?_
    exact hK z _ trivial ⟨rfl, rfl, rfl, rfl, trivial⟩
   ·skip
    refine aj rfl (fun b5 => ?_)
    refine wz.Ai.f.b.z ?_
    skip
    refine aB rfl rfl (Ov g _ _ Ow ctx[k].name) ?_
    rintro w g1 ⟨rfl, sv, n, t, z, rfl, eu⟩ _
    obtain ⟨s1, s2, rfl, _⟩ := eu.form
    refine wz.Al.f.b.z ?_; refine ⟨_, (ag rfl), ?_⟩; refine wz.As.z ?_; refine ⟨_, (ag rfl), ?_⟩; refine wz.Az.z ?_; refine ⟨_, (ag rfl), ?_⟩
    refine wz.Bk.d.F.f.b.a.At.f.b.q.AO.z ?_
    exact hK z _ trivial ⟨rfl, rfl, rfl, rfl, trivial⟩
 ·refine bg (fun g1 a8 aJ => ?_)
  refine wz.i.b.a.a.c.d.D.m.m.C.z ?_
  exact ao [] rfl rfl sZ ⟨⟨o, ⟨ys, aJ, aL.mono (fun _ _ h => h.mono a8) hy⟩, hs, oM⟩, rfl⟩
end Go.Proofs.YtlnjfkfojkgiiaaGreatDoor
namespace Go.Th
inductive dx (p : Ty → Prop) : Ty → Prop where
 | mk (t : Ty) (h : p t) (ha : ∀ a ∈ t.args, dx p a) : dx p t
theorem dx.node {p : Ty → Prop} {t : Ty} (h : dx p t) : p t := by cases h; assumption
theorem dx.arg {p : Ty → Prop} {t : Ty} (h : dx p t) : ∀ a ∈ t.args, dx p a := by cases h; assumption
theorem dx.imp {p q : Ty → Prop} (h : ∀ t, p t → q t) {t : Ty} (ht : dx p t) : dx q t := by
 induction ht with
 | mk t h0 _ ih => exact .mk t (h t h0) ih
theorem dx.and {p q : Ty → Prop} {t : Ty} (hp : dx p t) (hq : dx q t) : dx (fun u => p u ∧ q u) t := by
 induction hp with
 | mk t h0 _ ih => exact .mk t ⟨h0, hq.node⟩ fun a ha => ih a ha (hq.arg a ha)
theorem Yi {p : Ty → Bool} : ∀ t : Ty, fE p t = true → dx (fun u => p u = true) t :=
 kH fun t ih h => dx.mk t (lU h) fun a ha => ih a ha (oB h a ha)
theorem oD {p : Ty → Bool} {t : Ty} (h : fE p t = true) : dx (fun u => p u = true) t := Yi t h
theorem G9 {p : Ty → Bool} {t : Ty} (h : dx (fun u => p u = true) t) : fE p t = true := by
 induction h with
 | mk t h0 _ ih => exact mh h0 ih
theorem dx.map {p : Ty → Prop} {q : Ty → Bool} {f : Ty → Option Ty} (h1 : ∀ t u, p t → f t = some u → fE q u = true)
  (h2 : ∀ t a, p t → f t = none → a.length = t.args.length → q (.mk t.kind t.name t.id t.home a) = true) {t : Ty} (ht : dx p t) : fE q (c7 f t) = true := by
 induction ht with
 | mk t h0 _ ih =>
  cases hf : f t with
  | some u => rw [mO hf]; exact h1 t u h0 hf
  | none =>
   rw [ow hf]
   refine mh (h2 t _ h0 hf (List.length_map _)) fun a ha => ?_
   obtain ⟨b, hb, rfl⟩ := List.mem_map.1 ha
   exact ih b hb
theorem Yj (k : Int) : ∀ (t : Ty) (acc : List Ty), ∀ w ∈ acc, w ∈ ki k acc t := by
 have hl : ∀ (l : List Ty), (∀ a ∈ l, ∀ acc, ∀ w ∈ acc, w ∈ ki k acc a) → ∀ acc, ∀ w ∈ acc, w ∈ dU k acc l := by
  intro l
  induction l with
  | nil => intro _ acc w h; exact h
  | cons a r ih => intro h acc w hw; exact ih (fun y hy => h y (List.mem_cons_of_mem _ hy)) _ w (h a (List.mem_cons_self ..) acc w hw)
 refine kH fun t ih => fun acc w hw => ?_
 rw [xH]
 split
 ·split
  ·exact hw
  ·exact List.mem_append_left _ hw
 ·exact hl t.args ih acc w hw
theorem G_ (k : Int) : ∀ (l acc : List Ty), ∀ w ∈ acc, w ∈ dU k acc l
 | [], _, _, h => h
 | a :: r, acc, w, h => G_ k r _ w (Yj k a acc w h)
theorem Yk (k : Int) : ∀ (t : Ty) (acc : List Ty), dx (fun u => u.kind = k → u.args = [] → u ∈ ki k acc t) t := by
 have hl : ∀ (l : List Ty), (∀ a ∈ l, ∀ acc, dx (fun u => u.kind = k → u.args = [] → u ∈ ki k acc a) a) → ∀ acc, ∀ a ∈ l, dx (fun u => u.kind = k → u.args = [] → u ∈ dU k acc l) a := by
  intro l
  induction l with
  | nil => intro _ _ a ha; cases ha
  | cons b r ih =>
   intro h acc a ha
   rcases List.mem_cons.1 ha with rfl | ha
   ·exact (h a (List.mem_cons_self ..) acc).imp fun u hu h1 h2 => G_ k r _ u (hu h1 h2)
   ·exact ih (fun y hy => h y (List.mem_cons_of_mem _ hy)) _ a ha
 refine kH fun t ih => fun acc => ?_
 rw [xH]
 by_cases hk : t.kind = k ∧ t.args.length = 0
 ·rw [if_pos hk]
  have ha : t.args = [] := List.length_eq_zero_iff.1 hk.2
  refine .mk t (fun _ _ => ?_) (fun a h => by rw [ha] at h; cases h)
  by_cases hq : acc.any (fun u => kY u t) = true
  ·rw [if_pos hq]
   obtain ⟨w, hw, he⟩ := List.any_eq_true.1 hq
   rw [← NN w t he]; exact hw
  ·rw [if_neg hq]; simp
 ·rw [if_neg hk]
  exact .mk t (fun h1 h2 => absurd ⟨h1, by rw [h2]; rfl⟩ hk) (hl t.args ih acc)
theorem Ha (k : Int) : ∀ (l acc : List Ty), ∀ a ∈ l, dx (fun u => u.kind = k → u.args = [] → u ∈ dU k acc l) a
 | b :: r, acc, a, ha => by
  rcases List.mem_cons.1 ha with rfl | ha
  ·exact (Yk k a acc).imp fun u hu h1 h2 => G_ k r _ u (hu h1 h2)
  ·exact Ha k r _ a ha
theorem Ox : ∀ (l : List Ty) (out : List Int), (∀ n ∈ out, n ∈ jj out l) ∧ ∀ w ∈ l, w.id ∈ jj out l
 | [], out => ⟨fun _ h => h, fun _ h => by cases h⟩
 | a :: r, out => by
  have ih := Ox r (if a.id ∈ out then out else out ++ [a.id])
  have h1 : ∀ n ∈ out, n ∈ (if a.id ∈ out then out else out ++ [a.id]) := fun n hn => by
   split
   ·exact hn
   ·exact List.mem_append_left _ hn
  have h2 : a.id ∈ (if a.id ∈ out then out else out ++ [a.id]) := by
   split
   ·assumption
   ·simp
  refine ⟨fun n hn => ih.1 n (h1 n hn), fun w hw => ?_⟩
  rcases List.mem_cons.1 hw with rfl | hw
  ·exact ih.1 _ h2
  ·exact ih.2 w hw
theorem Hb {l : List Ty} {a : Ty} (ha : a ∈ l) : dx (fun u => u.kind = 1 → u.args = [] → u.id ∈ nE l) a :=
 (Ha 1 l [] a ha).imp fun _ hu h1 h2 => (Ox _ []).2 _ (hu h1 h2)
theorem Hc (l : List Ty) : (nE l).length ≤ bM l := by
 have h1 := GM (dU 1 [] l) []
 have h2 := (ri 1 l []).2
 simp only [List.length_nil, Nat.zero_add] at h1 h2
 unfold nE
 omega
theorem Yl (k : Int) : ∀ (t : Ty) (acc : List Ty), dx (fun u => u.kind ≠ k) t → ki k acc t = acc := by
 have hl : ∀ (l : List Ty), (∀ a ∈ l, ∀ acc, dx (fun u => u.kind ≠ k) a → ki k acc a = acc) → ∀ acc, (∀ a ∈ l, dx (fun u => u.kind ≠ k) a) → dU k acc l = acc := by
  intro l
  induction l with
  | nil => intro _ _ _; rfl
  | cons b r ih =>
   intro h acc ha
   rw [dU, h b (List.mem_cons_self ..) acc (ha b (List.mem_cons_self ..))]
   exact ih (fun y hy => h y (List.mem_cons_of_mem _ hy)) acc (fun a h => ha a (List.mem_cons_of_mem _ h))
 refine kH fun t ih => fun acc h => ?_
 rw [xH, if_neg (fun hk => h.node hk.1)]
 exact hl t.args ih acc h.arg
theorem Oy (k : Int) : ∀ (l acc : List Ty), (∀ a ∈ l, dx (fun u => u.kind ≠ k) a) → dU k acc l = acc
 | [], _, _ => rfl
 | a :: r, acc, h => by
  rw [dU, Yl k a acc (h a (List.mem_cons_self ..))]
  exact Oy k r acc (fun x hx => h x (List.mem_cons_of_mem _ hx))
theorem Ym {l : List Ty} (h : ∀ a ∈ l, dx (fun u => u.kind ≠ 1) a) : nE l = [] := by
 unfold nE
 rw [Oy 1 l [] h]
 rfl
theorem He {l : List (Int × Ty)} {v v' b b' : Nat} (hb : b ≤ b') {t : Ty} (h : dx (fun u => jk v b false u = true ∧ (u.kind = 1 → u.args = [] → ∃ w, tA l u.id = some w ∧ OK v' b' false w)) t) : OK v' b' false (c7 (gN l) t) := by
 refine dx.map (fun t u ht hf => ?_) (fun t a ht hf hl => ?_) h
 ·unfold gN at hf
  split at hf
  ·rename_i hk
   have ha : t.args = [] := by
    rcases iT ht.1 with h | h | h | h | h
    ·exact h.2.2.2.1
    all_goals omega
   obtain ⟨w, hw, ho⟩ := ht.2 hk ha
   rw [hw] at hf
   cases hf
   exact ho
  ·cases hf
 ·have hk : t.kind ≠ 1 := fun hk => by
   unfold gN at hf
   rw [if_pos hk] at hf
   cases hf
  rcases iT ht.1 with h | h | h | h | h
  ·exact absurd h.1 hk
  ·have e : a = [] := by rw [h.2.2.2.1] at hl; exact List.length_eq_zero_iff.1 hl
   rw [e, h.1, h.2.2.2.2]
   exact GR h.2.1 (by show t.id < _; omega)
  ·have e : a = [] := by rw [h.2.2.2.1] at hl; exact List.length_eq_zero_iff.1 hl
   rw [e, h.1, h.2.2.2.2]
   exact xJ h.2.1 h.2.2.1
  ·exact GX h.1 h.2.1 h.2.2 hl
  ·exact absurd h.1 dC
theorem Hf {l : List (Int × Ty)} {B : Nat} (hB : 1 ≤ B) (h : ∀ x ∈ l, aE x.2 ≤ B) {v b : Nat} {t : Ty} (ht : OK v b false t) : aE (c7 (gN l) t) ≤ B * aE t := by
 have hl : ∀ l' : List Ty, (∀ a ∈ l', aE (c7 (gN l) a) ≤ B * aE a) → bM (l'.map (c7 (gN l))) ≤ B * bM l' := by
  intro l'
  induction l' with
  | nil => intro _; simp [bM]
  | cons x r ih =>
   intro hx
   have h1 := hx x (List.mem_cons_self ..)
   have h2 := ih (fun y hy => hx y (List.mem_cons_of_mem _ hy))
   simp only [List.map_cons, bM, Nat.mul_add]
   omega
 have hN := oD ht
 induction hN with
 | mk t h0 ha ih =>
  have hp := jA t
  have ji := hl t.args (fun a hm => ih a hm (G9 (ha a hm)))
  cases hf : gN l t with
  | none =>
   rw [ow hf]
   simp only [aE]
   rw [hp, Nat.mul_add]
   omega
  | some u =>
   rw [mO hf]
   have hu : aE u ≤ max B (aE t) := by
    unfold gN at hf
    split at hf
    ·cases hf
     unfold tA
     cases Yn : l.find? (fun x => decide (x.1 = t.id)) with
     | none => simp only [Option.map_none, Option.getD_none]; omega
     | some x => simp only [Option.map_some, Option.getD_some]; have := h x (List.mem_of_find?_eq_some Yn); omega
    ·cases hf
   have : 1 * aE t ≤ B * aE t := Nat.mul_le_mul_right _ hB
   have : B * 1 ≤ B * aE t := Nat.mul_le_mul_left B oM
   omega
end Go.Th
namespace Go.Proofs.YtlnjfkfojkgiiaaGreatDoor
theorem vy {g : ab} {t : Ty} {c : List Value} (h : bx g t c) : aV g [t] c := by
 unfold aV
 exact ⟨c, [], sM, h, cQ g⟩
theorem Hg {l : List (Int × Ty)} {i : Int} (h : ∃ x ∈ l, x.1 = i) : ∃ x ∈ l, x.1 = i ∧ tA l i = some x.2 := by
 unfold tA
 cases hf : l.find? (fun x => decide (x.1 = i)) with
 | none =>
  obtain ⟨x, hx, e⟩ := h
  have := List.find?_eq_none.1 hf x hx
  simp [e] at this
 | some x => exact ⟨x, List.mem_of_find?_eq_some hf, by simpa using List.find?_some hf, rfl⟩
def Hh (g : ab) (s : List (Int × Ty)) (v : Value) (own : List aA) : Prop := ∃ (a : Option Addr) (c : Nat) (xs : List Value), v = .slice a s.length c ∧ own = [.row 225 6 (.slice a s.length c) s.length xs] ∧ aL (ox g) s xs
theorem Yo (g : ab) (i j : Int) : ox g (i, .mk 2 [] j 0 []) [.int .i64 i, .int .i64 2, str [], .int .i64 j, .int .i64 0, .slice none 0 0] := ⟨_, rfl, bx.mk (t := .mk 2 [] j 0 []) (cP g 5) (cQ g)⟩
theorem Yp (g : ab) (t : Ty) (u va : Value) (ids : List Int) (hu : aQ g u t) (hn : aE t ≤ 100000) (hs : au g 1 va ids.length (ints ids)) {V : Nat} (bW : OK V 0 false t) (hall : dx (fun x => x.kind = 1 → x.id ∈ ids) t) :
  bK prog 150 [u, va] g fun w g' => ∃ n y, jU g' w n y ∧ n ≤ aE t ∧ OK 0 n false y ∧ aE y ≤ aE t := by
 obtain ⟨ya, ym, yc, rfl, h1⟩ := hu.bA
 obtain ⟨ia, ic, rfl⟩ := aU hs
 have nL := Hc [t]
 have np := Hb (l := [t]) (List.mem_singleton.2 rfl)
 have l8 : bM [t] = aE t := by simp [bM]
 rw [l8] at nL
 refine aw func150 rfl ntmps150 rfl fun E hE => ?_
 refine aS ?_
 refine aP rfl rfl rfl (fun b2 => ?_)
 skip
 refine aj rfl (fun b4 => ?_)
 refine wz.O.c.b.z ?_
 refine bu rfl rfl rL rL rL rL rL (fun y0 => ?_)
 refine bg (fun g1 a8 aJ => ?_)
 refine aB rfl rfl (C3 g1 [t] _ _ oM aJ (vy (h1.mono a8))) ?_
 rintro w g2 hw aD
 generalize nE [t] = vs at hw nL np
 obtain ⟨wa, wc, rfl⟩ := aU hw
 have bj := (hs.mono a8).mono aD
 have h2 := (h1.mono a8).mono aD
 refine wz.p.b.a.c.e.b.a.c.b.a.z ?_; refine fW 225 6 ?_
 skip
 refine aX (ι := Nat × Value × List aA) (fun o => [(1, .slice ia ids.length ic), (2, ptr b2 0), (4, ptr b4 0), (5, .slice wa vs.length wc), (6, o.2.1), (7, .int .i64 o.1)]) (fun _ => g2) (fun o => o.2.2 ++ [.ae b4 95 [.int .i64 0, .int .i64 0, str [], .int .i64 0, .int .i64 0, .slice none 0 0], .ae b2 41 (aH t (.slice ya ym yc))])
  (fun o => o.1 ≤ vs.length ∧ ∃ s : List (Int × Ty), Hh g2 s o.2.1 o.2.2 ∧ s.length ≤ o.1 ∧ (∀ x ∈ s, ∃ j : Int, 0 ≤ j ∧ j < s.length ∧ x.2 = .mk 2 [] j 0 []) ∧ ∀ j (h : j < vs.length), j < o.1 → vs[j] ∈ ids → ∃ x ∈ s, x.1 = vs[j]) (fun o => vs.length - o.1) (0, _, [_]) ⟨Nat.zero_le _, [], ⟨none, 0, [], rfl, rfl, rfl⟩, Nat.le_refl _, (fun _ h => by cases h), fun j _ h => by simp only at h; omega⟩ ⟨rfl, rfl, rfl, rfl, rfl, rfl, trivial⟩ rfl rfl ?_
 rintro ⟨k, sv, own⟩ ⟨hk, s, ⟨a, c, xs, eu, ho, hx⟩, aq, hb, dW⟩
 simp only at hk eu ho aq dW
 subst eu
 subst ho
 try dsimp only
 refine wz.b.a.A.a.a.c.e.z ?_
 refine an rfl (fun hlt => ?_) (fun hlt => ?_)
 ·have af : k < vs.length := by omega
  obtain ⟨b, off, cap, fq, mM⟩ := hw.held af
  cases fq
  have jb : ∀ own, Rd g2 own b (off + k * 1) [.int .i64 vs[k]] := fun own => eT (mM (k * 1) _ (by simp [ints, af]))
  refine wz.M.a.a.a.c.p.e.d.j.z ?_
  refine cj rfl rfl (jb _) ?_
  refine aO rfl rfl (B8 g2 _ ids bj vs[k]) ?_
  by_cases hm : vs[k] ∈ ids
  ·rw [decide_eq_true hm]
   refine wz.t.b.z ?_
   refine fQ 11 [0] mixed kR (fun hG => ?_)
   refine wz.Ar.z ?_; refine ⟨_, (ag rfl), ?_⟩; refine wz.Ax.z ?_; refine ⟨_, (ag rfl), ?_⟩; refine wz.Ay.z ?_; refine ⟨_, (ag rfl), ?_⟩
   refine di 3 rfl kR rfl hG ⟨_, (bU (j := k) rfl rfl rfl af), ?_⟩
   refine di 4 rfl kR rfl hG ⟨_, (cU rfl (jb _)), ?_⟩
   refine wz.Be.z ?_; refine ⟨_, (ag rfl), ?_⟩; refine wz.Bs.z ?_; refine ⟨_, (jQ rfl), ?_⟩
   refine wz.BK.z ?_
   refine aO rfl rfl (GF g2 _) ?_
   refine wz.Cq.f.b.z ?_; refine ⟨_, (et rfl rL), ?_⟩
   refine wz.BD.z ?_
   skip
   refine bu rfl rfl rL rL rL rL rL (fun y1 => ?_)
   refine wz.BE.f.b.z ?_
   skip
   refine cV 1 0 rfl rfl rfl rfl rfl rL rL rfl mL oM (fun v' _ => ?_)
   refine wz.AC.z ?_
   rintro ⟨q1, q3, rfl⟩
   refine wz.b.a.E.a.r.d.y.N.a.Bp.Am.f.b.z ?_
   refine aM (k + 1, _, [_]) ⟨oM, s ++ [(vs[k], .mk 2 [] s.length 0 [])], ⟨q1, q3, _, by rw [List.length_append]; rfl, by rw [List.length_append]; rfl, aL.snoc (Yo g2 vs[k] s.length) hx⟩, by rw [List.length_append, List.length_singleton]; omega, fun x hx => ?_, fun j hj fK hm => ?_⟩ uM ⟨rfl, rfl, rfl, rfl, rfl, rfl, trivial⟩ rfl rfl
   ·rw [List.length_append, List.length_singleton]
    rcases List.mem_append.1 hx with hx | hx
    ·obtain ⟨j, h1, h2, h3⟩ := hb x hx
     exact ⟨j, h1, oM, h3⟩
    ·rw [List.mem_singleton.1 hx]
     exact ⟨s.length, oM, oM, rfl⟩
   ·by_cases oE : j = k
    ·subst oE
     exact ⟨_, List.mem_append_right _ (List.mem_singleton.2 rfl), rfl⟩
    ·obtain ⟨x, hx, e⟩ := dW j hj (by simp only at fK; omega) hm
     exact ⟨x, List.mem_append_left _ hx, e⟩
  ·rw [decide_eq_false hm]
   refine wz.b.a.E.a.r.d.y.j.o.b.z ?_
   exact aM (k + 1, _, [_]) ⟨oM, s, ⟨a, c, xs, rfl, rfl, hx⟩, oM, hb, fun j hj fK uD => by
    by_cases oE : j = k
    ·subst oE; exact absurd uD hm
    ·exact dW j hj (by simp only at fK; omega) uD⟩ uM ⟨rfl, rfl, rfl, rfl, rfl, rfl, trivial⟩ rfl rfl
 ·obtain rfl : k = vs.length := by omega
  refine bg (fun g3 aF bY => ?_)
  refine wz.a.O.A.a.c.d.D.m.m.C.z ?_
  refine aB rfl rfl (xG g3 s t oM _ _ _ ⟨_, rfl, h2.mono aF⟩ bY (aL.mono (fun _ _ h => h.mono aF) hx)) ?_
  rintro w g4 fZ aR
  obtain ⟨z1, z2, z3, rfl, ir⟩ := fZ.bA
  refine wz.i.b.q.K.z ?_
  refine bp [] rfl (ay 0 rfl rfl rL) sZ ⟨⟨s.length, _, ⟨_, rfl, ir⟩, oM, He (v := V) (b := 0) (Nat.zero_le _) ?_, ?_⟩, rfl⟩
  ·refine (((oD bW).and hall).and np).imp fun x hx => ⟨hx.1.1, fun h1 h2 => ?_⟩
   have B3 := hx.2 h1 h2
   obtain ⟨j, hj, e⟩ := List.mem_iff_getElem.1 B3
   obtain ⟨y, hy, oF, pz⟩ := Hg (dW j hj hj (by rw [e]; exact hx.1.2 h1))
   rw [e] at pz
   obtain ⟨j', b1, b2, b3⟩ := hb y hy
   exact ⟨_, pz, by rw [b3]; exact GU b1 b2⟩
  ·have := Hf (l := s) (B := 1) (Nat.le_refl _) (fun x hx => by obtain ⟨j, _, _, e⟩ := hb x hx; rw [e]; simp [aE, bM]) bW
   omega
end Go.Proofs.YtlnjfkfojkgiiaaGreatDoor
namespace Go.Th
theorem Hi {n : Bytes} (h : kindOf n = 2) : n ≠ eg := fun e => by rw [e] at h; revert h; decide
theorem Oz {a : Ty} : ∀ {l : List Ty}, a ∈ l → (cK a).length ≤ (eN l).length
 | [], h => by cases h
 | b :: r, h => by
  rw [oZ]
  simp only [List.length_cons, List.length_append]
  rcases List.mem_cons.1 h with rfl | h
  ·have := Fj a; omega
  ·have := Oz h; omega
theorem Yq {t : Ty} (h : fr t) : (cK t).length ≤ 1000 → ∀ ns : List Bytes, dx (fun u => u.kind = 5 → u.name ∈ ns) t → fE (okF ns) t = true := by
 induction h with
 | name n h =>
  intro _ ns ha
  refine mh ?_ (fun _ h => by cases h)
  have := ha.node rfl
  simp only [okF, Bool.and_eq_true, decide_eq_true_eq]
  exact ⟨by simp [jk, fY, Ty.kind, Ty.id, Ty.name, Ty.home, Ty.args, h], fun _ => this, (by show (5 : Int) ≠ 3; decide)⟩
 | bQ n l h hl ih =>
  intro hs ns ha
  rw [uA l (Hi h), List.length_append] at hs
  refine mh ?_ (fun a hm => ih a hm (by have := Oz (l := l) hm; omega) ns (ha.arg a hm))
  simp only [okF, Bool.and_eq_true, decide_eq_true_eq]
  exact ⟨xK l (by simp [qm, h]; omega), fun hk => absurd (show (4 : Int) = 5 from hk) dC, (by show (4 : Int) ≠ 3; decide)⟩
 | arrow a b h1 h2 OA OB =>
  intro hs ns ha
  rw [uB, List.length_append, List.length_append] at hs
  have := Fk a
  refine mh ?_ (fun x hm => ?_)
  ·simp only [okF, Bool.and_eq_true, decide_eq_true_eq]
   exact ⟨C7 rfl, fun hk => absurd (show (4 : Int) = 5 from hk) dC, (by show (4 : Int) ≠ 3; decide)⟩
  ·simp only [cZ, bJ, Ty.args, List.mem_cons, List.not_mem_nil, or_false] at hm
   rcases hm with rfl | rfl
   ·exact OA oM ns (ha.arg _ (by simp [cZ, bJ, Ty.args]))
   ·exact OB oM ns (ha.arg _ (by simp [cZ, bJ, Ty.args]))
theorem Yr {t : Ty} (h : fr t) (hs : (cK t).length ≤ 1000) : fE (okF (jl [] t)) t = true := Yq h hs _ ((oD (X6 t [])).imp fun u hu hk => by simp only [decide_eq_true_eq] at hu; exact hu hk)
theorem Ds {t : Ty} (h : fr t) : aE t ≤ (cK t).length := by
 have hk : ∀ (n : Bytes) (k : Int), k ≠ 0 → kindOf n = k → 1 ≤ n.length := fun n k h0 h => by
  cases n with
  | nil => exact absurd (h.symm.trans (by decide : kindOf [] = 0)) h0
  | cons => simp
 induction h with
 | name n h => rw [Fp]; have := hk n 1 dC h; simpa [fY, aE, bM] using this
 | bQ n l h hl ih =>
  rw [uA l (Hi h), List.length_append]
  have h1 := hk n 2 dC h
  have : ∀ l : List Ty, (∀ a ∈ l, aE a ≤ (cK a).length) → bM l ≤ (eN l).length := by
   intro l
   induction l with
   | nil => intro _; simp [bM]
   | cons x r oG =>
    intro hx
    have a1 := hx x (List.mem_cons_self ..)
    have a2 := oG (fun y hy => hx y (List.mem_cons_of_mem _ hy))
    have a3 := Fj x
    rw [oZ]
    simp only [bM, List.length_cons, List.length_append]
    omega
  have := this l ih
  simp only [bJ, aE]
  omega
 | arrow a b h1 h2 OA OB =>
  rw [uB, List.length_append, List.length_append]
  have := Fk a
  simp only [cZ, bJ, aE, bM, List.length_cons, List.length_nil]
  omega
def mR (n : Nat) : List Ty := (List.range n).map fun (i : Nat) => .mk 3 [] i 98 []
theorem Ys (n : Nat) : mR (n + 1) = mR n ++ [.mk 3 [] n 98 []] := by simp [mR, List.range_succ]
theorem OC (n : Nat) : (mR n).length = n := by simp [mR]
theorem Yt {n : Nat} (h : n ≤ 1000000) : kG 0 0 false (mR n) := fun t ht => by
 obtain ⟨i, hi, rfl⟩ := List.mem_map.1 ht
 exact GS oM (by have := List.mem_range.1 hi; omega)
theorem Yu {n : Nat} : ∀ t ∈ mR n, aE t ≤ 1 := fun t ht => by
 obtain ⟨i, _, rfl⟩ := List.mem_map.1 ht
 simp [aE, bM]
end Go.Th
namespace Go.Proofs.YtlnjfkfojkgiiaaGreatDoor
theorem Yv {g : ab} (i : Int) {a : Option Addr} {c : Nat} (h : bx g fL (aH fL (.slice a 0 c))) : ox g (i, fL) (.int .i64 i :: aH fL (.slice a 0 c)) := ⟨_, rfl, h⟩
theorem Yw (g : ab) (t : Ty) (u : Value) (hu : aQ g u t) (hn : aE t ≤ 100000) {V : Nat} (bW : OK V 0 false t) :
  bK prog 115 [u] g fun w g' => ∃ y, aQ g' w y ∧ OK 0 0 false y ∧ aE y ≤ aE t := by
 obtain ⟨ya, ym, yc, rfl, h1⟩ := hu.bA
 have nL := Hc [t]
 have np := Hb (l := [t]) (List.mem_singleton.2 rfl)
 have l8 : bM [t] = aE t := by simp [bM]
 have hni : aE fL = 1 := by simp [fL, bJ, aE, bM]
 rw [l8] at nL
 refine aw func115 rfl ntmps115 rfl fun E hE => ?_
 refine aS ?_
 refine aP rfl rfl rfl (fun b1 => ?_)
 skip
 refine aj rfl (fun b2 => ?_)
 refine wz.O.c.b.z ?_
 refine bu rfl rfl rL rL rL rL rL (fun y0 => ?_)
 refine bg (fun g1 a8 aJ => ?_)
 refine aB rfl rfl (C3 g1 [t] _ _ oM aJ (vy (h1.mono a8))) ?_
 rintro w g2 hw aD
 generalize nE [t] = vs at hw nL np
 obtain ⟨wa, wc, rfl⟩ := aU hw
 have h2 := (h1.mono a8).mono aD
 refine wz.p.b.a.c.e.b.a.c.b.a.z ?_; refine fW 225 6 ?_
 skip
 refine aX (ι := Nat × ab × Value × List aA) (fun o => [(1, ptr b1 0), (2, ptr b2 0), (3, .slice wa vs.length wc), (4, o.2.2.1), (5, .int .i64 o.1)]) (fun o => o.2.1) (fun o => o.2.2.2 ++ [.ae b2 41 k_, .ae b1 41 (aH t (.slice ya ym yc))])
  (fun o => o.1 ≤ vs.length ∧ ab.le g2 o.2.1 ∧ ∃ s : List (Int × Ty), Hh o.2.1 s o.2.2.1 o.2.2.2 ∧ s.length ≤ o.1 ∧ (∀ x ∈ s, x.2 = fL) ∧ ∀ j (h : j < vs.length), j < o.1 → ∃ x ∈ s, x.1 = vs[j]) (fun o => vs.length - o.1) (0, g2, _, [_]) ⟨Nat.zero_le _, ab.le_refl _, [], ⟨none, 0, [], rfl, rfl, rfl⟩, Nat.le_refl _, (fun _ h => by cases h), fun j _ h => by simp only at h; omega⟩ ⟨rfl, rfl, rfl, rfl, rfl, trivial⟩ rfl rfl ?_
 rintro ⟨k, g3, sv, own⟩ ⟨hk, aF, s, ⟨a, c, xs, eu, ho, hx⟩, aq, hb, dW⟩
 simp only at hk aF eu ho aq dW hx
 subst eu
 subst ho
 try dsimp only
 refine wz.b.a.A.a.a.c.e.z ?_
 refine an rfl (fun hlt => ?_) (fun hlt => ?_)
 ·have af : k < vs.length := by omega
  obtain ⟨b, off, cap, fq, mM⟩ := (hw.mono aF).held af
  cases fq
  have jb : ∀ own, Rd g3 own b (off + k * 1) [.int .i64 vs[k]] := fun own => eT (mM (k * 1) _ (by simp [ints, af]))
  refine wz.p.e.d.j.z ?_
  refine fQ 9 [0] mixed kR (fun hG => ?_)
  refine wz.Ar.z ?_; refine ⟨_, (ag rfl), ?_⟩; refine wz.Ax.z ?_; refine ⟨_, (ag rfl), ?_⟩; refine wz.Ay.z ?_; refine ⟨_, (ag rfl), ?_⟩
  refine di 3 rfl kR rfl hG ⟨_, (bU (j := k) rfl rfl rfl af), ?_⟩
  refine di 4 rfl kR rfl hG ⟨_, (cU rfl (jb _)), ?_⟩
  refine wz.Bn.z ?_
  refine aB rfl rfl (qN g3) ?_
  rintro wi g4 Gz aR
  obtain ⟨ia, im, ic, rfl, ib⟩ := Gz.bA
  obtain ⟨ia', ic', Hj⟩ := ib.slice
  cases Hj
  refine wz.Bs.f.b.z ?_; refine ⟨_, (et rfl rL), ?_⟩
  refine wz.BK.z ?_
  skip
  refine bu rfl rfl rL rL rL rL rL (fun y1 => ?_)
  refine wz.Bx.f.b.z ?_
  skip
  refine cV 1 0 rfl rfl rfl rfl rfl rL rL rfl mL oM (fun v' _ => ?_)
  refine wz.AC.z ?_
  rintro ⟨q1, q3, rfl⟩
  refine wz.b.a.E.a.r.d.y.N.a.Bp.Am.f.b.z ?_
  refine aM (k + 1, g4, _, [_]) ⟨oM, ab.le_trans aF aR, s ++ [(vs[k], fL)], ⟨q1, q3, _, by rw [List.length_append]; rfl, by rw [List.length_append]; rfl, aL.snoc (Yv vs[k] ib) (aL.mono (fun _ _ h => h.mono aR) hx)⟩, by rw [List.length_append, List.length_singleton]; omega, fun x hx => ?_, fun j hj fK => ?_⟩ uM ⟨rfl, rfl, rfl, rfl, rfl, trivial⟩ rfl rfl
  ·rcases List.mem_append.1 hx with hx | hx
   ·exact hb x hx
   ·rw [List.mem_singleton.1 hx]
  ·by_cases oE : j = k
   ·subst oE
    exact ⟨_, List.mem_append_right _ (List.mem_singleton.2 rfl), rfl⟩
   ·obtain ⟨x, hx, e⟩ := dW j hj (by simp only at fK; omega)
    exact ⟨x, List.mem_append_left _ hx, e⟩
 ·obtain rfl : k = vs.length := by omega
  refine bg (fun g4 aR eG => ?_)
  have h4 := (h2.mono aF).mono aR
  refine wz.a.O.c.d.D.m.m.C.z ?_
  refine aB rfl rfl (xG g4 s t oM _ _ _ ⟨_, rfl, h4⟩ eG (aL.mono (fun _ _ h => h.mono aR) hx)) ?_
  rintro w g5 fZ cC
  obtain ⟨z1, z2, z3, rfl, ir⟩ := fZ.bA
  refine wz.i.b.q.z ?_
  refine bp [] rfl (ay 0 rfl rfl rL) sZ ⟨⟨_, ⟨_, rfl, ir⟩, He (v := V) (b := 0) (Nat.zero_le _) ?_, ?_⟩, rfl⟩
  ·refine ((oD bW).and np).imp fun x hx => ⟨hx.1, fun h1 h2 => ?_⟩
   obtain ⟨j, hj, e⟩ := List.mem_iff_getElem.1 (hx.2 h1 h2)
   obtain ⟨y, hy, oF, pz⟩ := Hg (dW j hj hj)
   rw [e] at pz
   exact ⟨_, pz, by rw [hb y hy]; exact ok_int⟩
  ·have := Hf (l := s) (B := 1) (Nat.le_refl _) (fun x hx => by rw [hb x hx]; omega) bW
   omega
end Go.Proofs.YtlnjfkfojkgiiaaGreatDoor

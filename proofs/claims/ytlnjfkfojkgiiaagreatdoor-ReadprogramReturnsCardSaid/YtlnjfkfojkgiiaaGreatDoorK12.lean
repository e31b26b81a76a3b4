/- The walk of typedholesmake's Tape.Type: it makes types that can be written, with short texts. -/
import Derived.Test.YtlnjfkfojkgiiaaGreatDoorK11
import Derived.Lib.ItoaNum
open Go Go.aZ Go.Th Go.Proofs Tryz
set_option maxRecDepth 10000
set_option maxHeartbeats 4000000
attribute [local irreducible] wpList Code.wp ah bodyPost Go.aZ.Ends Exit.then Exit.inBlock dJ Wq Kq
namespace Go.Th
def bT : Nat → Nat
 | 0 => 3
 | d + 1 => 12 + 2 * bT d
theorem Fb : ∀ d, 3 ≤ bT d
 | 0 => Nat.le_refl _
 | d + 1 => by have := Fb d; simp only [bT]; omega
def si (d : Da) : Prop := kindOf d.name = 2 ∧ d.name.length ≤ 6 ∧ d.params.length ≤ 2
theorem Fc (t : Ty) : (lu t).length ≤ (cK t).length + 2 := by
 unfold lu
 split <;> simp
theorem Ku : ∀ {ta : List Ty} {B : Nat}, (∀ t ∈ ta, (cK t).length ≤ B) → (eN ta).length ≤ ta.length * (3 + B)
 | [], B, _ => by simp [eN]
 | a :: r, B, h => by
  have h1 := h a (List.mem_cons_self ..)
  have h2 := Ku (ta := r) (fun t ht => h t (List.mem_cons_of_mem _ ht))
  have h3 := Fc a
  rw [oZ]
  simp only [List.length_cons, List.length_append, Nat.add_mul]
  omega
theorem Kv (t : Ty) : (ni t).length ≤ (cK t).length + 2 := by
 unfold ni
 split <;> simp
end Go.Th
namespace Go.Proofs.YtlnjfkfojkgiiaaGreatDoor
structure zz (Φ : Nat → Ty → Prop) : Prop where
 leaf : ∀ d t, Φ 0 t → Φ d t
 int : ∀ d, Φ d fL
 bQ : ∀ d (dd : Da) ta, si dd → ta.length ≤ 2 → (∀ t ∈ ta, Φ d t) → Φ (d + 1) (bJ dd.name ta)
 arrow : ∀ d t u, Φ d t → Φ d u → Φ (d + 1) (cZ t u)
structure o4 (Φ : Nat → Ty → Prop) (g : ab) (ar : List Int) (lv : Value) (ds : List Da) (dv : Value) (lf : List Ty) (fv : Value) : Prop where
 c : au g 1 lv ar.length (ar.map (Value.int .i64))
 hc : ar.length ≤ 1000000
 d : ∃ xd, au g 4 dv ds.length xd ∧ aL (gC g) ds xd
 dn : ds.length ≤ 8
 dg : ∀ d ∈ ds, si d
 f : ∃ xl, au g 5 fv lf.length xl ∧ aV g lf xl
 fn : lf.length ≤ 8
 fg : ∀ t ∈ lf, Φ 0 t
theorem o4.mono {Φ : Nat → Ty → Prop} {g g' : ab} (hle : ab.le g g') {ar : List Int} {lv : Value} {ds : List Da} {dv : Value} {lf : List Ty} {fv : Value} (h : o4 Φ g ar lv ds dv lf fv) : o4 Φ g' ar lv ds dv lf fv := by
 obtain ⟨h1, h2, ⟨xd, h3, h4⟩, h5, h6, ⟨xl, h7, h8⟩, h9, Fe⟩ := h
 exact ⟨h1.mono hle, h2, ⟨xd, h3.mono hle, ng hle h4⟩, h5, h6, ⟨xl, h7.mono hle, h8.mono hle⟩, h9, Fe⟩
def Ff (Φ : Nat → Ty → Prop) (ar : List Int) (b : Nat) (lv : Value) (d : Nat) (v : Value) (g' : ab) (r' : aA) : Prop := ∃ (t : Ty) (i' : Nat), aQ g' v t ∧ Φ d t ∧ r' = c8 b lv i' ∧ i' ≤ ar.length
def Fg (d : Nat) (t : Ty) : Prop := fr t ∧ (cK t).length ≤ bT d
abbrev wC := o4 Fg
theorem wC.mono {g g' : ab} (hle : ab.le g g') {ar : List Int} {lv : Value} {ds : List Da} {dv : Value} {lf : List Ty} {fv : Value} (h : wC g ar lv ds dv lf fv) : wC g' ar lv ds dv lf fv := o4.mono hle h
def TA (ar : List Int) (b : Nat) (lv : Value) (d : Nat) (v : Value) (g' : ab) (r' : aA) : Prop := ∃ (t : Ty) (i' : Nat), aQ g' v t ∧ fr t ∧ (cK t).length ≤ bT d ∧ r' = c8 b lv i' ∧ i' ≤ ar.length
theorem TC : fr fL := .bQ Fh [] dC (fun a h => by cases h)
theorem TD : (cK fL).length = 3 := by decide
theorem Kx {Φ : Nat → Ty → Prop} (hΦ : zz Φ) (ar : List Int) (b d : Nat) (hd : d ≤ 1000)
  (hI : ∀ d', d = d' + 1 → ∀ g i lv ds dv lf fv, o4 Φ g ar lv ds dv lf fv → i ≤ ar.length → cR prog 42 [ptr b 0, dv, fv, .int .i64 d'] g (c8 b lv i) (Ff Φ ar b lv d'))
  (g : ab) (i : Nat) (lv : Value) (ds : List Da) (dv : Value) (lf : List Ty) (fv : Value) (cY : o4 Φ g ar lv ds dv lf fv) (hi : i ≤ ar.length) :
  cR prog 42 [ptr b 0, dv, fv, .int .i64 d] g (c8 b lv i) (Ff Φ ar b lv d) := by
 obtain ⟨xd, gm, jO⟩ := cY.d
 obtain ⟨xl, gF, mY⟩ := cY.f
 have nj := cY.dn
 have kz := cY.fn
 obtain ⟨da, dc, rfl⟩ := aU gm
 obtain ⟨fa, fc, rfl⟩ := aU gF
 refine aw func42 rfl ntmps42 rfl fun E hE => ?_
 refine aS ?_
 refine aj rfl (fun b8 => ?_)
 refine wz.a.c.b.z ?_
 refine aG 1 rfl rfl rfl (e_ g ar cY.hc lv cY.c b i hi 7 oM) ?_
 rintro v g1 r' ⟨rfl, k, i1, rfl, gW, fb, rfl, de⟩ _
 refine wz.p.e.b.a.z ?_
 refine cD (ι := Bool) (fun p => [(0, ptr b 0), (1, .slice da ds.length dc), (2, .slice fa lf.length fc), (3, .int .i64 d), (8, ptr b8 0), (9, .int .i64 k), (16, .bool p)]) (fun _ => g1)
  (fun _ => [.ae b8 41 (aH bX (.slice none 0 0)), c8 b lv i1]) (fun p => p = true → 0 < lf.length) ?_ ?_
 ·intro p hp
  try dsimp only
  cases p with
  | true =>
   have pS := hp rfl
   refine wz.A.a.a.a.c.t.z ?_
   refine aG 1 rfl rfl rfl (e_ g1 ar cY.hc lv cY.c b i1 de lf.length oM) ?_
   rintro v g2 r' ⟨rfl, q, i2, rfl, gp, ep, rfl, cL⟩ _
   have hq : q.toNat < lf.length := by omega
   obtain ⟨b0, off, cap, aq, hx⟩ := gF.held hq
   cases aq
   obtain ⟨cS, t2, hr⟩ := eZ mY hx hq
   have f1 := hΦ.leaf d _ (cY.fg _ (List.getElem_mem hq))
   obtain ⟨_, lz, _⟩ := t2.args
   obtain ⟨ya, ym, yc, rfl⟩ := au.form lz
   skip
   refine gV (j := q.toNat) rfl rfl rfl oM hq ?_
   refine wz.l.x.i.b.q.An.z ?_
   exact bp [_] rfl (ay 0 rfl rfl rL) sA ⟨_, rfl, _, i2, ⟨_, rfl, t2⟩, f1, rfl, cL⟩
  | false =>
  refine wz.o.z ?_
  refine cD (ι := Bool) (fun p => [(0, ptr b 0), (1, .slice da ds.length dc), (2, .slice fa lf.length fc), (3, .int .i64 d), (8, ptr b8 0), (9, .int .i64 k), (31, .bool p)]) (fun _ => g1)
   (fun _ => [.ae b8 41 (aH bX (.slice none 0 0)), c8 b lv i1]) (fun p => p = false → 1 ≤ d) ?_ ?_
  ·intro p hp
   try dsimp only
   cases p with
   | true =>
    refine wz.c.t.z ?_
    refine aB rfl rfl (qN g1) ?_
    rintro w g2 hw hle
    obtain ⟨ya, ym, yc, rfl, ht⟩ := hw.bA
    refine wz.l.x.i.b.q.z ?_
    exact bp [_] rfl (ay 0 rfl rfl rL) sA ⟨_, rfl, fL, i1, ⟨_, rfl, ht⟩, hΦ.int d, rfl, de⟩
   | false =>
   have aEX := hp rfl
   obtain ⟨d', rfl⟩ : ∃ d', d = d' + 1 := ⟨d - 1, oM⟩
   have ih := hI d' rfl
   refine wz.o.z ?_
   refine cD (ι := Bool) (fun p => [(0, ptr b 0), (1, .slice da ds.length dc), (2, .slice fa lf.length fc), (3, .int .i64 (d' + 1 : Nat)), (8, ptr b8 0), (9, .int .i64 k), (39, .bool p)]) (fun _ => g1)
    (fun _ => [.ae b8 41 (aH bX (.slice none 0 0)), c8 b lv i1]) (fun p => p = true → 0 < ds.length) ?_ ?_
   ·intro p hp
    try dsimp only
    cases p with
    | true =>
     have pS := hp rfl
     refine wz.A.a.a.a.c.t.z ?_
     refine aG 1 rfl rfl rfl (e_ g1 ar cY.hc lv cY.c b i1 de ds.length oM) ?_
     rintro v g2 r' ⟨rfl, q, i2, rfl, gp, ep, rfl, cL⟩ _
     have hq : q.toNat < ds.length := by omega
     obtain ⟨b0, off, cap, aq, hx⟩ := gm.held hq
     cases aq
     obtain ⟨cs, e1, hr⟩ := dt (fun _ _ h => h.one.1) jO hx hq
     obtain ⟨n1, n2, n3⟩ := cY.dg _ (List.getElem_mem hq)
     generalize ds[q.toNat] = dd at e1 n1 n2 n3
     obtain ⟨a1, c1, a2, c2, xc, rfl, _⟩ := e1.form
     skip
     refine gV (j := q.toNat) rfl rfl rfl oM hq ?_
     refine wz.An.z ?_
     refine aj rfl (fun bh => ?_)
     refine wz.AD.p.b.a.c.e.b.a.c.b.q.z ?_
     refine aX (ι := Nat × List Ty × Value × List Value × Nat × ab) (fun p => [(0, ptr b 0), (1, .slice (some ⟨b0, off, none⟩) ds.length dc), (2, .slice fa lf.length fc), (3, .int .i64 (d' + 1 : Nat)), (8, ptr b8 0), (10, ptr bh 0), (11, p.2.2.1), (12, .int .i64 p.1)]) (fun p => p.2.2.2.2.2)
      (fun p => [.row 41 5 p.2.2.1 p.2.1.length p.2.2.2.1, .ae bh 60 [.int .i64 dd.pos, str dd.name, .slice a1 dd.params.length c1, .slice a2 dd.cons.length c2], .ae b8 41 (aH bX (.slice none 0 0)), c8 b lv p.2.2.2.2.1])
      (fun p => ab.le g2 p.2.2.2.2.2 ∧ p.1 ≤ dd.params.length ∧ p.2.1.length = p.1 ∧ aV p.2.2.2.2.2 p.2.1 p.2.2.2.1 ∧ (∀ t ∈ p.2.1, Φ d' t) ∧ p.2.2.2.2.1 ≤ ar.length) (fun p => dd.params.length - p.1) (0, [], .slice none 0 0, [], i2, g2)
      ⟨ab.le_refl _, Nat.zero_le _, rfl, cQ _, (fun t h => by cases h), cL⟩ ⟨rfl, rfl, rfl, rfl, rfl, rfl, rfl, rfl, trivial⟩ rfl rfl ?_
     rintro ⟨m, ta, tv, xs, i3, g3⟩ ⟨k1, k2, k3, k4, k5, k6⟩
     simp only at k1 k2 k3 k4 k5 k6
     try dsimp only
     refine wz.b.a.A.I.g.a.c.e.z ?_
     refine an rfl (fun hlt => ?_) (fun hlt => ?_)
     ·refine wz.AE.a.a.a.a.a.r.p.e.d.j.z ?_
      rw [show ((d' + 1 : Nat) : Int) - 1 = (d' : Int) by omega]
      refine aG 3 rfl rfl rfl (ih g3 i3 lv ds _ lf _ (cY.mono k1) k6) ?_
      rintro w g4 r' ⟨t, i4, ht, gt, rfl, ib⟩ aR
      obtain ⟨ya, ym, yc, rfl, eF⟩ := ht.bA
      skip
      refine bu rfl rfl rL rL rL rL rL (fun zy => ?_)
      refine cV 1 0 rfl rfl rfl rfl rfl rL rL rfl mL oM (fun v' _ => ?_)
      refine wz.b.a.E.a.r.d.y.N.a.Bb.z ?_
      refine aM (m + 1, ta ++ [t], v', xs ++ aH t (.slice ya ym yc), i4, g4) ⟨ab.le_trans k1 aR, uM, by simp [k3], aV.snoc eF (k4.mono aR), ?_, ib⟩ uM ⟨rfl, rfl, rfl, rfl, rfl, rfl, rfl, rfl, trivial⟩ rfl ?_
      ·intro u hu
       rcases List.mem_append.1 hu with hu | hu
       ·exact k5 u hu
       ·rw [List.mem_singleton] at hu; subst hu; exact gt
      ·simp [aH, dO]
     ·refine bg (fun g4 eW eG => ?_)
      refine wz.a.v.g.c.d.D.m.m.C.z ?_
      refine aB rfl rfl (wD g4 dd.name tv ta xs eG (k4.mono eW) oM) ?_
      rintro w g5 hw cC
      obtain ⟨ya, ym, yc, rfl, eF⟩ := hw.bA
      refine wz.l.x.i.b.B.z ?_
      exact bp [_] rfl (ay 1 rfl rfl rL) sB ⟨_, rfl, bJ dd.name ta, i3, ⟨_, rfl, eF⟩, hΦ.bQ d' dd ta ⟨n1, n2, n3⟩ oM k5, rfl, k6⟩
    | false =>
     refine wz.AE.a.a.a.a.c.d.y.j.o.z ?_
     rw [show ((d' + 1 : Nat) : Int) - 1 = (d' : Int) by omega]
     refine aG 1 rfl rfl rfl (ih g1 i1 lv ds _ lf _ cY de) ?_
     rintro w g2 r' ⟨t, i2, ht, gt, rfl, cL⟩ aD
     obtain ⟨ya, ym, yc, rfl, eF⟩ := ht.bA
     skip
     refine aj rfl (fun nk => ?_)
     refine wz.e.b.q.z ?_
     refine bO [2, 1] mixed (fun hG => ?_)
     refine wz.P.z ?_; refine ⟨_, (bP 0 rfl rfl rL), ?_⟩; refine wz.R.z ?_; refine ⟨_, (ag rfl), ?_⟩; refine wz.S.z ?_; refine ⟨_, (ag rfl), ?_⟩; refine wz.X.z ?_; refine ⟨_, (ag rfl), ?_⟩; refine wz.Z.z ?_; refine ⟨_, (ag rfl), ?_⟩
     refine bn 5 rfl kR rfl hG ⟨_, (mA rfl rfl oM), ?_⟩; refine wz.Ao.z ?_
     rw [show ((d' + 1 : Nat) : Int) - 1 = (d' : Int) by omega]
     refine aG 2 rfl rfl rfl (ih g2 i2 lv ds _ lf _ (cY.mono aD) cL) ?_
     rintro w g3 r' ⟨u, i3, hu, gu, rfl, dE⟩ aF
     refine wz.AM.f.b.z ?_
     refine aB rfl rfl (sj g3 t u _ _ ⟨_, rfl, eF.mono aF⟩ hu) ?_
     rintro w4 g4 fZ aR
     have ju := ab.le_trans aF aR
     obtain ⟨za, zm, zc, rfl, hz⟩ := fZ.bA
     refine wz.i.d.F.f.b.B.Ae.f.b.z ?_
     exact bp [_] rfl (ay 1 rfl rfl rL) sB ⟨_, rfl, cZ t u, i3, ⟨_, rfl, hz⟩, hΦ.arrow d' t u gt gu, rfl, dE⟩
   ·intro K hK
    refine wz.a.a.a.c.z ?_
    refine bw rfl rfl (fun h4 => ?_) (fun h4 => ?_)
    ·refine wz.b.a.a.u.A.k.u.z ?_
     refine iJ 39 rfl (fun h => ?_) (fun h => ?_)
     ·refine wz.d.j.t.z ?_
      exact hK true _ (fun _ => by omega) ⟨rfl, rfl, rfl, rfl, rfl, rfl, rfl, trivial⟩
     ·refine wz.a.a.a.r.o.z ?_
      refine bw rfl rfl (fun h5 => ?_) (fun h5 => ?_)
      ·omega
      ·refine wz.b.a.a.h.h.h.z ?_
       exact hK false _ (fun h => by cases h) ⟨rfl, rfl, rfl, rfl, rfl, rfl, rfl, trivial⟩
    ·refine wz.a.a.a.r.o.b.a.a.h.h.h.z ?_
     refine bw rfl rfl (fun h5 => ?_) (fun h5 => ?_)
     ·refine wz.b.a.a.u.A.k.u.z ?_
      refine iJ 39 rfl (fun h => ?_) (fun h => ?_)
      ·exact hK true _ (fun _ => by omega) ⟨rfl, rfl, rfl, rfl, rfl, rfl, rfl, trivial⟩
      ·exact hK false _ (fun h => by cases h) ⟨rfl, rfl, rfl, rfl, rfl, rfl, rfl, trivial⟩
     ·refine wz.b.a.a.h.h.h.z ?_
      exact hK false _ (fun h => by cases h) ⟨rfl, rfl, rfl, rfl, rfl, rfl, rfl, trivial⟩
  ·intro K hK
   refine wz.a.a.a.r.z ?_
   refine bw rfl rfl (fun h4 => ?_) (fun h4 => ?_)
   ·refine wz.b.a.a.h.h.z ?_
    exact hK true _ (fun h => by cases h) ⟨rfl, rfl, rfl, rfl, rfl, rfl, rfl, trivial⟩
   ·refine wz.b.a.a.u.u.z ?_
    refine iJ 31 rfl (fun h => ?_) (fun h => ?_)
    ·exact hK true _ (fun h => by cases h) ⟨rfl, rfl, rfl, rfl, rfl, rfl, rfl, trivial⟩
    ·exact hK false _ (fun _ => by omega) ⟨rfl, rfl, rfl, rfl, rfl, rfl, rfl, trivial⟩
 ·intro K hK
  refine wz.a.a.a.r.z ?_
  refine bw rfl rfl (fun h3 => ?_) (fun h3 => ?_)
  ·refine wz.b.a.a.u.A.k.u.z ?_
   refine iJ 16 rfl (fun h => ?_) (fun h => ?_)
   ·exact hK true _ (fun _ => by omega) ⟨rfl, rfl, rfl, rfl, rfl, rfl, rfl, trivial⟩
   ·exact hK false _ (fun h => by cases h) ⟨rfl, rfl, rfl, rfl, rfl, rfl, rfl, trivial⟩
  ·refine wz.b.a.a.h.h.h.z ?_
   exact hK false _ (fun h => by cases h) ⟨rfl, rfl, rfl, rfl, rfl, rfl, rfl, trivial⟩
theorem pT {Φ : Nat → Ty → Prop} (hΦ : zz Φ) (ar : List Int) (b : Nat) : ∀ d : Nat, d ≤ 1000 → ∀ g i lv ds dv lf fv, o4 Φ g ar lv ds dv lf fv → i ≤ ar.length → cR prog 42 [ptr b 0, dv, fv, .int .i64 d] g (c8 b lv i) (Ff Φ ar b lv d)
 | 0, h => Kx hΦ ar b 0 h (fun d' h => by omega)
 | d + 1, h => Kx hΦ ar b (d + 1) h (fun d' hd => by
   obtain rfl : d' = d := by omega
   exact pT hΦ ar b d' oM)
theorem wE : zz Fg where
 leaf d t h := ⟨h.1, Nat.le_trans h.2 (by have := Fb d; simpa [bT] using this)⟩
 int d := ⟨TC, by rw [TD]; exact Fb d⟩
 bQ d dd ta h1 h2 h3 := ⟨.bQ _ _ h1.1 (fun t ht => (h3 t ht).1), by
  obtain ⟨n1, n2, n3⟩ := h1
  rw [uA ta (sk n1), List.length_append]
  have h1 := Ku (ta := ta) (B := bT d) (fun t ht => (h3 t ht).2)
  have h2 : ta.length * (3 + bT d) ≤ 2 * (3 + bT d) := Nat.mul_le_mul_right _ oM
  simp only [bT]
  omega⟩
 arrow d t u h1 h2 := ⟨.arrow t u h1.1 h2.1, by
  have := Kv t
  have h3 := h1.2
  have h4 := h2.2
  rw [uB]
  simp only [List.length_append, List.length_cons, List.length_nil, bT]
  omega⟩
theorem cR.mono {P : Program} {f : FuncId} {vs : List Value} {g : ab} {r : aA} {Φ Ψ : Value → ab → aA → Prop} (h : cR P f vs g r Φ) (hm : ∀ v g' r', Φ v g' r' → Ψ v g' r') : cR P f vs g r Ψ :=
 aZ.Spec.mono h fun v g' own' ⟨r', e, k⟩ => ⟨r', e, hm v g' r' k⟩
theorem TE (ar : List Int) (b : Nat) (d : Nat) (hd : d ≤ 1000) (g : ab) (i : Nat) (lv : Value) (ds : List Da) (dv : Value) (lf : List Ty) (fv : Value) (hE : wC g ar lv ds dv lf fv) (hi : i ≤ ar.length) :
  cR prog 42 [ptr b 0, dv, fv, .int .i64 d] g (c8 b lv i) (TA ar b lv d) :=
 cR.mono (pT wE ar b d hd g i lv ds dv lf fv hE hi) fun _ _ _ ⟨t, i', h1, h2, h3, h4⟩ => ⟨t, i', h1, h2.1, h2.2, h3, h4⟩
end Go.Proofs.YtlnjfkfojkgiiaaGreatDoor
namespace Go.Th
theorem Fi : ∀ (x y : List Ty), eN (x ++ y) = eN x ++ eN y
 | [], y => by simp [eN]
 | a :: x, y => by rw [List.cons_append, oZ, oZ, Fi x y]; simp
theorem Ky {ta : List Ty} {i : Nat} (h : i < ta.length) : eN (ta.take (i + 1)) = eN (ta.take i) ++ ([32] ++ lu ta[i]) := by
 rw [List.take_succ_eq_append_getElem h, Fi, oZ]
 simp [eN]
theorem TF (ta : List Ty) (i : Nat) : (eN (ta.take i)).length ≤ (eN ta).length := by
 have := congrArg List.length (Fi (ta.take i) (ta.drop i))
 rw [List.take_append_drop, List.length_append] at this
 omega
theorem Fj (t : Ty) : (cK t).length ≤ (lu t).length := by
 unfold lu
 split
 ·simp only [List.length_cons, List.length_append, List.length_nil]; omega
 ·exact Nat.le_refl _
theorem Fk (t : Ty) : (cK t).length ≤ (ni t).length := by
 unfold ni
 split
 ·simp only [List.length_cons, List.length_append, List.length_nil]; omega
 ·exact Nat.le_refl _
theorem Kz {n : Bytes} (ta : List Ty) (h : kindOf n = 2) : jc (bJ n ta) = false := by
 simp [jc, bJ, Ty.kind, Ty.name, sk h]
theorem TG (n : Bytes) : jc (fY n) = false := rfl
def Fl (d : Da) : Bool := decide (kindOf d.name = 2) && decide (d.name.length ≤ 6) && decide (d.params.length ≤ 2)
theorem TH {d : Da} (h : Fl d = true) : si d := by
 simp only [Fl, Bool.and_eq_true, decide_eq_true_eq] at h
 exact ⟨h.1.1, h.1.2, h.2⟩
theorem KA : ∀ d ∈ ja, si d := fun d hd => TH (List.all_eq_true.1 (show ja.all Fl = true by kernel_rfl) d hd)
def so : List Ty := [fY [97], fY [98], fY [99]]
end Go.Th
namespace Go.Proofs.YtlnjfkfojkgiiaaGreatDoor
abbrev sr : Value := .agg (aH bX (.slice none 0 0)).toArray
theorem Fm (g : ab) {t : Ty} {v : Value} (h0 : jc t = false) (hv : aQ g v t) : Pure prog 55 [v] g (.tuple #[sr, sr, .bool false]) := by
 obtain ⟨sl, rfl, h1⟩ := hv
 obtain ⟨xs, aJ, eE⟩ := h1.args
 obtain ⟨a, c, rfl⟩ := aU aJ
 refine aw func55 rfl ntmps55 rfl fun E hE => ?_
 refine aS ?_
 refine aP rfl rfl rfl (fun b1 => ?_)
 skip
 refine aj rfl (fun b2 => ?_)
 skip
 refine aj rfl (fun b3 => ?_)
 refine wz.a.a.Ag.g.c.e.b.a.z ?_
 refine bw rfl rfl (fun k1 => ?_) (fun k1 => ?_)
 ·refine wz.a.a.u.Ag.k.g.k.z ?_
  refine bw rfl rfl (fun k2 => ?_) (fun k2 => ?_)
  ·refine wz.b.a.u.A.k.Ag.k.g.k.z ?_
   refine an rfl (fun k3 => ?_) (fun k3 => ?_)
   ·have : t.args.length = 2 := by omega
    simp [jc, k1, this, eg] at h0
    exact absurd k2 (of_decide_eq_false h0)
   ·refine wz.i.b.a.q.B.K.K.c.d.j.z ?_
    exact eO [] rfl (ay 1 rfl rfl rL) (ay 0 rfl rfl rL) (.tmp rfl) sM ⟨rfl, rfl, rfl⟩
  ·refine wz.i.b.a.q.B.K.K.c.d.j.o.b.a.h.h.h.h.z ?_
   exact eO [] rfl (ay 1 rfl rfl rL) (ay 0 rfl rfl rL) (.tmp rfl) sM ⟨rfl, rfl, rfl⟩
 ·refine wz.i.b.a.q.B.K.K.c.d.j.o.b.a.h.h.h.h.a.a.h.h.h.z ?_
  exact eO [] rfl (ay 1 rfl rfl rL) (ay 0 rfl rfl rL) (.tmp rfl) sM ⟨rfl, rfl, rfl⟩
theorem Fo (g : ab) {a b : Ty} {v : Value} (hv : aQ g v (cZ a b)) : ∃ va vb, aQ g va a ∧ aQ g vb b ∧ Pure prog 55 [v] g (.tuple #[va, vb, .bool true]) := by
 obtain ⟨sl, rfl, h1⟩ := hv
 obtain ⟨xs, aJ, eE⟩ := h1.args
 replace aJ : au g 5 sl 2 xs := aJ
 replace eE : aV g [a, b] xs := eE
 obtain ⟨b0, off, cap, rfl, hx⟩ := aJ.held (show 0 < 2 by omega)
 obtain ⟨s1, a1, r1⟩ := eZ eE hx (i := 0) sM
 obtain ⟨s2, a2, r2⟩ := eZ eE hx (i := 1) sM
 replace a1 : bx g a (aH a s1) := a1
 replace a2 : bx g b (aH b s2) := a2
 replace r1 : ∀ own, Rd g own b0 (off + 0 * 5) (aH a s1) := r1
 replace r2 : ∀ own, Rd g own b0 (off + 1 * 5) (aH b s2) := r2
 obtain ⟨_, gp, _⟩ := a1.args
 obtain ⟨u1, w1, rfl⟩ := aU gp
 obtain ⟨_, ep, _⟩ := a2.args
 obtain ⟨u2, w2, rfl⟩ := aU ep
 refine ⟨_, _, ⟨_, rfl, a1⟩, ⟨_, rfl, a2⟩, ?_⟩
 refine aw func55 rfl ntmps55 rfl fun E hE => ?_
 refine aS ?_
 refine aP rfl rfl rfl (fun b1 => ?_)
 skip
 refine aj rfl (fun b2 => ?_)
 skip
 refine aj rfl (fun b3 => ?_)
 refine wz.e.t.b.a.u.A.k.Ag.k.g.k.a.a.u.Ag.k.g.k.a.a.Ag.g.c.e.b.a.z ?_
 refine bO [1, 0] mixed (fun hG => ?_)
 refine wz.P.z ?_; refine ⟨_, (aI rfl), ?_⟩; refine wz.R.z ?_; refine ⟨_, (a7 0 rfl rfl rfl), ?_⟩
 refine wz.Dh.z ?_
 refine bn 3 rfl kR rfl hG ⟨_, (dL rfl (r1 _) rfl), ?_⟩
 refine wz.Z.z ?_; refine ⟨_, (aI rfl), ?_⟩; refine wz.Ad.z ?_; refine ⟨_, (a7 0 rfl rfl rfl), ?_⟩
 refine wz.Di.z ?_
 refine bn 7 rfl kR rfl hG ⟨_, (dL rfl (r2 _) rfl), ?_⟩
 refine wz.l.i.d.F.f.b.a.AW.f.b.q.Ai.f.b.B.Ae.z ?_
 exact eO [] rfl (ay 1 rfl rfl rL) (ay 0 rfl rfl rL) (.tmp rfl) sM ⟨rfl, rfl, rfl⟩
theorem TI (g : ab) {t : Ty} {v : Value} (ht : fr t) (hv : aQ g v t) : ∃ va vb ta tb, aQ g va ta ∧ aQ g vb tb ∧ Pure prog 55 [v] g (.tuple #[va, vb, .bool (jc t)]) := by
 have no : jc t = false → ∃ va vb ta tb, aQ g va ta ∧ aQ g vb tb ∧ Pure prog 55 [v] g (.tuple #[va, vb, .bool (jc t)]) := fun h => by
  rw [h]
  have hn : aQ g sr bX := aQ.of (t := bX) (cP g 5) (cQ g)
  exact ⟨sr, sr, bX, bX, hn, hn, Fm g h hv⟩
 cases ht with
 | name n h => exact no (TG n)
 | bQ n ta h ha => exact no (Kz ta h)
 | arrow a b ha hb =>
  obtain ⟨va, vb, h1, h2, h3⟩ := Fo g hv
  exact ⟨va, vb, a, b, h1, h2, h3⟩
theorem KB (g : ab) (t : Ty) (v : Value) (hl : (cK t).length ≤ 1000000000000000) (hv : aQ g v t) (hT : Pure prog 20 [v] g (str (cK t))) : Pure prog 19 [v] g (str (lu t)) := by
 obtain ⟨sl, rfl, h1⟩ := hv
 obtain ⟨xs, aJ, eE⟩ := h1.args
 obtain ⟨a, c, rfl⟩ := aU aJ
 have no : lA t = false → lu t = cK t := fun h => by unfold lu; rw [h]; rfl
 refine aw func19 rfl ntmps19 rfl fun E hE => ?_
 refine aS ?_
 refine aP rfl rfl rfl (fun b1 => ?_)
 refine wz.a.a.v.g.c.e.b.a.z ?_
 refine bw rfl rfl (fun k1 => ?_) (fun k1 => ?_)
 ·refine wz.b.a.u.A.k.v.k.g.k.z ?_
  refine an rfl (fun k2 => ?_) (fun k2 => ?_)
  ·have hp : lA t = true := by simp [lA, k1]; omega
   have he : lu t = [40] ++ cK t ++ [41] := by unfold lu; rw [if_pos hp]; rfl
   refine wz.G.c.z ?_; refine aO rfl rfl hT ?_; refine wz.l.i.b.a.AA.AA.z ?_
   exact ao [] rfl rfl sM ⟨by rw [he], rfl, rfl⟩
  ·have he := no (by simp [lA]; intro _; exact List.length_eq_zero_iff.1 oM)
   refine wz.G.c.d.j.z ?_; refine aO rfl rfl hT ?_; refine wz.i.b.a.z ?_
   exact ao [] rfl rfl sM ⟨by rw [he], rfl, rfl⟩
 ·have he := no (by simp [lA, k1])
  refine wz.G.c.d.j.o.b.a.h.h.h.h.z ?_; refine aO rfl rfl hT ?_; refine wz.i.b.a.z ?_
  exact ao [] rfl rfl sM ⟨by rw [he], rfl, rfl⟩
theorem KC (g : ab) : ∀ (N : Nat) (t : Ty) (v : Value), SizeOf.sizeOf t < N → fr t → (cK t).length ≤ 1000000000000000 → aQ g v t → Pure prog 20 [v] g (str (cK t))
 | 0, _, _, h, _, _, _ => by omega
 | N + 1, t, v, h, ht, hl, hv => by
  have ih := KC g N
  obtain ⟨sl, rfl, h1⟩ := hv
  obtain ⟨xs, aJ, eE⟩ := h1.args
  cases ht with
  | name n hn =>
   rw [Fp] at hl ⊢
   refine aw func20 rfl ntmps20 rfl fun E hE => ?_
   refine aS ?_
   refine aP rfl rfl rfl (fun b1 => ?_)
   refine wz.l.x.i.b.a.v.g.c.t.b.a.a.c.o.b.a.a.c.o.b.a.a.c.o.b.a.a.c.p.b.v.g.c.e.b.a.z ?_
   exact ao [] rfl rfl sM ⟨rfl, rfl, rfl⟩
  | bQ n ta hn ha =>
   have o6 := uA ta (sk hn)
   rw [o6, List.length_append] at hl
   rw [o6]
   replace aJ : au g 5 sl ta.length xs := aJ
   replace eE : aV g ta xs := eE
   obtain ⟨a, c, rfl⟩ := aU aJ
   have hle := aJ.le
   refine aw func20 rfl ntmps20 rfl fun E hE => ?_
   refine aS ?_
   refine aP rfl rfl rfl (fun b1 => ?_)
   refine wz.G.c.e.d.y.j.o.b.a.a.c.o.b.a.a.c.o.b.a.a.c.o.b.a.a.c.p.b.v.g.c.e.b.a.z ?_
   refine aO rfl rfl (Fm g (Kz ta hn) ⟨_, rfl, h1⟩) ?_
   refine wz.a.a.a.a.z ?_
   refine aj rfl (fun b3 => ?_)
   skip
   refine aj rfl (fun b4 => ?_)
   refine wz.p.b.a.c.e.b.a.Ag.g.c.d.j.o.b.a.c.b.a.q.B.z ?_
   refine aX (ι := Nat) (fun i => [(1, ptr b1 0), (10, str (n ++ eN (ta.take i))), (11, .int .i64 i)]) (fun _ => g) (fun _ => [.ae b4 41 (aH bX (.slice none 0 0)), .ae b3 41 (aH bX (.slice none 0 0)), .ae b1 41 (aH (bJ n ta) (.slice a ta.length c))]) (fun i => i ≤ ta.length) (fun i => ta.length - i) 0 (Nat.zero_le _) ⟨rfl, by simp [eN]; rfl, rfl, trivial⟩ rfl rfl ?_
   intro i hi
   refine wz.b.a.A.Ag.g.a.c.e.z ?_
   refine an rfl (fun hlt => ?_) (fun hlt => ?_)
   ·have af : i < ta.length := by omega
    obtain ⟨b, off, cap, aq, hx⟩ := aJ.held af
    cases aq
    obtain ⟨cS, h2, hr⟩ := eZ eE hx af
    have hm := List.getElem_mem af
    have bN : SizeOf.sizeOf ta[i] < N := by
     have := List.sizeOf_lt_of_mem hm
     simp [bJ] at h
     omega
    have fz := Ky af
    have hA := TF ta (i + 1)
    rw [fz] at hA
    simp only [List.length_append, List.length_cons, List.length_nil] at hA
    have nh := Fj ta[i]
    have gY : aQ g (.agg (aH ta[i] cS).toArray) ta[i] := ⟨cS, rfl, h2⟩
    refine wz.An.M.a.Ag.g.a.r.p.e.d.j.z ?_
    refine aO rfl rfl (KB g ta[i] _ oM gY (ih ta[i] _ bN (ha _ hm) oM gY)) ?_
    refine wz.b.a.E.a.r.d.y.N.a.AA.AA.z ?_
    exact aM (i + 1) oM oM ⟨rfl, by rw [fz, ← List.append_assoc n]; rfl, rfl, trivial⟩ rfl rfl
   ·have dw : i = ta.length := by omega
    subst dw
    refine wz.i.b.a.a.c.d.D.m.m.C.z ?_
    exact ao [] rfl rfl sM ⟨by rw [List.take_length], rfl, rfl⟩
  | arrow a b ha hb =>
   have o6 := uB a b
   rw [o6] at hl ⊢
   simp only [List.length_append, List.length_cons, List.length_nil] at hl
   have nh := Fk a
   obtain ⟨va, vb, np, KD, hP⟩ := Fo g (v := .agg (aH (cZ a b) sl).toArray) ⟨sl, rfl, h1⟩
   have jv : SizeOf.sizeOf a < N := by simp [cZ, bJ] at h; omega
   have ss : SizeOf.sizeOf b < N := by simp [cZ, bJ] at h; omega
   have iha := ih a va jv ha oM np
   have nq := ih b vb ss hb oM KD
   obtain ⟨wa, wb, ua, ub, zA, TJ, hQ⟩ := TI g ha np
   obtain ⟨x1, m1, c1, rfl, _⟩ := np.bA
   obtain ⟨x2, m2, c2, rfl, _⟩ := KD.bA
   obtain ⟨x3, m3, c3, rfl, _⟩ := zA.bA
   obtain ⟨x4, m4, c4, rfl, _⟩ := TJ.bA
   obtain ⟨_, wF, _⟩ := h1.args
   obtain ⟨y1, y2, rfl⟩ := aU wF
   have qO : jc a = false → ni a = cK a := fun h => by unfold ni; rw [h]; rfl
   have TK : jc a = true → ni a = [40] ++ cK a ++ [41] := fun h => by unfold ni; rw [if_pos h]; rfl
   refine aw func20 rfl ntmps20 rfl fun E hE => ?_
   refine aS ?_
   refine aP rfl rfl rfl (fun b1 => ?_)
   refine wz.G.c.e.d.y.j.o.b.a.a.c.o.b.a.a.c.o.b.a.a.c.o.b.a.a.c.p.b.v.g.c.e.b.a.z ?_; refine aO rfl rfl hP ?_; refine wz.a.a.a.a.z ?_
   refine aj rfl (fun b3 => ?_)
   skip
   refine aj rfl (fun b4 => ?_)
   refine wz.O.c.t.b.a.c.b.a.q.B.z ?_; refine aO rfl rfl iha ?_; refine wz.O.c.e.b.a.z ?_; refine aO rfl rfl hQ ?_; refine wz.a.a.a.a.z ?_
   refine aj rfl (fun b7 => ?_)
   skip
   refine aj rfl (fun b8 => ?_)
   refine wz.b.a.c.b.a.q.B.z ?_
   cases uC : jc a with
   | true =>
    have he := TK uC
    have KE := congrArg List.length he
    simp only [List.length_append, List.length_cons, List.length_nil] at KE
    refine wz.Af.AA.a.c.b.a.AA.AA.a.r.t.z ?_; refine aO rfl rfl nq ?_; refine wz.l.i.b.a.AA.z ?_
    exact ao [] rfl rfl sM ⟨by rw [he, ← List.append_assoc], rfl, rfl⟩
   | false =>
    have he := qO uC
    rw [he] at hl
    refine wz.Af.AA.a.c.d.j.o.z ?_; refine aO rfl rfl nq ?_; refine wz.l.i.b.a.AA.z ?_
    exact ao [] rfl rfl sM ⟨by rw [he, ← List.append_assoc], rfl, rfl⟩
theorem Fq (g : ab) (t : Ty) (v : Value) (ht : fr t) (hl : (cK t).length ≤ 1000000000000000) (hv : aQ g v t) : Pure prog 20 [v] g (str (cK t)) := KC g _ t v (Nat.lt_succ_self _) ht hl hv
theorem TL (g : ab) (v : Value) (l : List Int) (hs : au g 1 v l.length (l.map (Value.int .i64))) : Pure prog 5 [v] g (.bool (decide ((l.length : Int) ≤ 60))) := by
 obtain ⟨a, c, rfl⟩ := aU hs
 refine aw func5 rfl ntmps5 rfl fun E hE => ?_
 refine wz.i.b.a.a.A.a.c.b.a.c.z ?_
 exact ao [] rfl rfl sM ⟨rfl, rfl, rfl⟩
end Go.Proofs.YtlnjfkfojkgiiaaGreatDoor
namespace Go.Th
def bE : Nat → Nat
 | 0 => 5
 | d + 1 => 3 * bE d + 43
theorem nY : ∀ d, 5 ≤ bE d
 | 0 => Nat.le_refl _
 | d + 1 => by have := nY d; simp only [bE]; omega
def TM (c : Cn) : Prop := kindOf c.name = 2 ∧ c.name.length ≤ 5 ∧ c.fields.length ≤ 2
def zB (d : Da) : Prop := 1 ≤ d.cons.length ∧ d.cons.length ≤ 2 ∧ ∀ c ∈ d.cons, TM c
def Fs (d : Da) : Bool := decide (1 ≤ d.cons.length) && decide (d.cons.length ≤ 2) && d.cons.all fun c => decide (kindOf c.name = 2) && decide (c.name.length ≤ 5) && decide (c.fields.length ≤ 2)
theorem TN {d : Da} (h : Fs d = true) : zB d := by
 simp only [Fs, Bool.and_eq_true, decide_eq_true_eq, List.all_eq_true] at h
 exact ⟨h.1.1, h.1.2, fun c hc => ⟨(h.2 c hc).1.1, (h.2 c hc).1.2, (h.2 c hc).2⟩⟩
theorem KF : ∀ d ∈ ja, zB d := fun d hd => TN (List.all_eq_true.1 (show ja.all Fs = true by kernel_rfl) d hd)
def varNames : List Bytes := [[120], [121], [122], [102], [103], [118, 49], [118, 50], [105, 100]]
theorem TO {k : Nat} (h : k < varNames.length) : kindOf varNames[k] = 1 ∧ varNames[k].length ≤ 2 := by
 have : ∀ v ∈ varNames, kindOf v = 1 ∧ v.length ≤ 2 := by decide
 exact this _ (List.getElem_mem h)
end Go.Th
namespace Go.Proofs.YtlnjfkfojkgiiaaGreatDoor
theorem qP (g : ab) (ar : List Int) (hc : ar.length ≤ 1000000) (lv : Value) (hs : au g 1 lv ar.length (ar.map (Value.int .i64))) (b i : Nat) (hi : i ≤ ar.length) :
  cR prog 82 [ptr b 0] g (c8 b lv i) fun v g' r' => g' = g ∧ ∃ (n : Bytes) (i' : Nat), v = str n ∧ kindOf n = 1 ∧ n.length ≤ 2 ∧ r' = c8 b lv i' ∧ i' ≤ ar.length := by
 refine aw func82 rfl ntmps82 rfl fun E hE => ?_
 refine wz.c.b.a.c.z ?_
 refine bu rfl rfl rL rL rL rL rL (fun b3 => ?_)
 refine wz.a.z ?_
 refine aG 1 rfl rfl rfl (e_ g ar hc lv hs b i hi 8 oM) ?_
 rintro v g1 r' ⟨rfl, k, i1, rfl, gW, fb, rfl, de⟩ _
 have hk : k.toNat < varNames.length := by show _ < 8; omega
 obtain ⟨v1, v2⟩ := TO hk
 skip
 refine gV (j := k.toNat) rfl rfl rfl oM oM ?_
 refine cj rfl rfl (v := str varNames[k.toNat]) (Ft 0 rfl ?_) ?_
 ·rw [show 0 + k.toNat * 1 = k.toNat by omega]
  show (varNames.map str)[k.toNat]? = _
  rw [List.getElem?_map, List.getElem?_eq_getElem hk]
  rfl
 refine wz.i.b.a.z ?_
 exact ao [_] rfl rfl sA ⟨_, rfl, rfl, _, i1, rfl, v1, v2, rfl, de⟩
def zC : Bytes := [48, 49, 50, 51, 52, 53, 54, 55, 56, 57]
theorem KG {d : Nat} (h : d < 10) : (zC.take (d + 1)).drop d = [UInt8.ofNat (48 + d)] := by
 have : ∀ d : Fin 10, (zC.take (d.val + 1)).drop d.val = [UInt8.ofNat (48 + d.val)] := by decide
 exact this ⟨d, h⟩
theorem zD {u : Nat} (h : u < 10) : Lib.decDigits u = [UInt8.ofNat (48 + u)] := by rw [Lib.decDigits, dif_pos h]
theorem TP {u : Nat} (h : ¬ u < 10) : Lib.decDigits u = Lib.decDigits (u / 10) ++ [UInt8.ofNat (48 + u % 10)] := by rw [Lib.decDigits, dif_neg h]
theorem TS (g : ab) (n : Int) (hn : -9223372036854775808 ≤ n ∧ n ≤ 9223372036854775807) (hD : (Lib.decDigits n.natAbs).length ≤ 100) : Pure prog 56 [.int .i64 n] g (str (Lib.itoa n)) := by
 refine aw func56 rfl ntmps56 rfl fun E hE => ?_
 refine wz.b.a.a.c.e.b.a.c.z ?_
 refine an rfl (fun h0 => ?_) (fun h0 => ?_)
 ·subst h0
  refine wz.l.i.b.a.c.z ?_
  exact ao [] rfl rfl sM ⟨by
   have : Lib.itoa 0 = [48] := by unfold Lib.itoa; rw [if_neg oM]; exact zD dC
   rw [this], rfl, rfl⟩
 ·refine wz.p.b.a.a.c.e.b.a.c.d.j.z ?_
  refine aX (ι := Int × Bytes) (fun p => [(0, .int .i64 n), (3, str p.2), (4, .int .i64 p.1)]) (fun _ => g) (fun _ => []) (fun p => p.1.natAbs ≤ n.natAbs ∧ (p.1 ≠ 0 → Lib.decDigits n.natAbs = Lib.decDigits p.1.natAbs ++ p.2) ∧ (p.1 = 0 → Lib.decDigits n.natAbs = p.2)) (fun p => p.1.natAbs) (n, []) ⟨Nat.le_refl _, fun _ => by simp, fun h => absurd h h0⟩ ⟨rfl, rfl, rfl, trivial⟩ rfl rfl ?_
  rintro ⟨k, s⟩ ⟨hk, h1, h2⟩
  simp only at hk h1 h2
  try dsimp only
  refine wz.b.a.a.c.e.z ?_
  refine an rfl (fun qQ => ?_) (fun qQ => ?_)
  ·have hd := h1 qQ
   have aq : s.length ≤ 100 := by have := congrArg List.length hd; rw [List.length_append] at this; omega
   have hm := Int.natAbs_tmod k 10
   have hq := Int.natAbs_tdiv k 10
   have uD : (k.tmod 10).natAbs = k.natAbs % 10 := hm
   have wG : (k.tdiv 10).natAbs = k.natAbs / 10 := hq
   obtain ⟨d, TT⟩ : ∃ d : Nat, d = k.natAbs % 10 := ⟨_, rfl⟩
   have KH : d < 10 := by omega
   have zE : (k.tdiv 10 ≠ 0 → Lib.decDigits n.natAbs = Lib.decDigits (k.tdiv 10).natAbs ++ ([UInt8.ofNat (48 + d)] ++ s)) ∧ (k.tdiv 10 = 0 → Lib.decDigits n.natAbs = [UInt8.ofNat (48 + d)] ++ s) := by
    constructor
    ·intro h
     rw [hd, TP oM, wG, ← TT, List.append_assoc]
    ·intro h
     rw [hd, zD oM, show k.natAbs = d by omega]
   refine wz.b.a.a.c.e.b.a.Cg.a.c.p.e.d.j.z ?_
   refine an rfl (fun nj => ?_) (fun nj => ?_)
   ·refine wz.a.r.z ?_; refine TU rfl rfl oM ?_; refine wz.E.a.a.r.b.a.z ?_
    refine nW (l := zC) (p := d) (q := d + 1) rfl rfl ⟨_, _, rfl, oM⟩ ⟨_, _, rfl, oM⟩ oM (show d + 1 ≤ 10 by omega) ?_
    rw [KG KH]
    refine wz.a.r.d.y.N.a.AA.a.z ?_; refine KI rfl rfl rfl oM oM ?_; refine wz.b.a.z ?_
    exact aM (k.tdiv 10, [UInt8.ofNat (48 + d)] ++ s) ⟨uM, zE.1, zE.2⟩ uM ⟨rfl, rfl, rfl, trivial⟩ rfl rfl
   ·refine wz.E.a.a.r.d.j.z ?_
    refine nW (l := zC) (p := d) (q := d + 1) rfl rfl ⟨_, _, rfl, oM⟩ ⟨_, _, rfl, oM⟩ oM (show d + 1 ≤ 10 by omega) ?_
    rw [KG KH]
    refine wz.a.r.d.y.N.a.AA.a.z ?_; refine KI rfl rfl rfl oM oM ?_; refine wz.b.a.z ?_
    exact aM (k.tdiv 10, [UInt8.ofNat (48 + d)] ++ s) ⟨uM, zE.1, zE.2⟩ uM ⟨rfl, rfl, rfl, trivial⟩ rfl rfl
  ·have gW : k = 0 := by omega
   have hd := h2 gW
   have aq : s.length ≤ 100 := by rw [← hd]; exact hD
   refine wz.b.a.a.c.e.d.D.m.m.C.z ?_
   refine an rfl (fun sw => ?_) (fun sw => ?_)
   ·refine wz.i.b.a.a.c.b.a.AA.a.r.z ?_
    exact ao [] rfl rfl sM ⟨by rw [Lib.itoa, if_pos sw, hd]; rfl, rfl, rfl⟩
   ·refine wz.i.b.a.a.c.d.j.z ?_
    exact ao [] rfl rfl sM ⟨by rw [Lib.itoa, if_neg sw, ← hd, show n.natAbs = n.toNat by omega], rfl, rfl⟩
theorem TV (g : ab) (m : Nat) (hm : m < 10) : Pure prog 56 [.int .i64 m] g (str [UInt8.ofNat (48 + m)]) := by
 have h := TS g m oM (by rw [zD oM]; simp)
 have e : Lib.itoa (m : Int) = [UInt8.ofNat (48 + m)] := by
  unfold Lib.itoa
  rw [if_neg oM]
  exact zD hm
 rw [e] at h
 exact h
abbrev dS (b : Nat) (lv : Value) (i : Nat) (p : Int) : aA := .ae b 179 [lv, .int .i64 i, .int .i64 p]
abbrev uE (w : Bytes) : Value := .iface 292 (.agg #[str w])
abbrev nZ : Value := .iface 182 (.agg #[])
theorem KJ {l : List Tok} {i : Nat} (h : i < l.length) (k : Int) (w : Bytes) : df l i k w = (decide (l[i].kind = k) && decide (l[i].text = w)) := by unfold df; rw [eB h]
theorem KK {l : List Tok} {i : Nat} (h : ¬ i < l.length) (k : Int) (w : Bytes) : df l i k w = false := by unfold df; rw [List.getElem?_eq_none oM]
theorem TW (g : ab) (l : List Tok) (lv : Value) (hs : cg g lv l) (b i : Nat) (p k : Int) (w : Bytes) : lB prog 166 [ptr b 0, .int .i64 k, str w] g (dS b lv i p) (.bool (df l i k w)) := by
 refine aw func166 rfl ntmps166 rfl fun E hE => ?_
 refine wz.s.s.Bu.Q.J.s.s.Q.J.s.s.Ab.e.b.a.c.z ?_
 refine lC rfl rfl (fun hlt => ?_) (fun hlt => ?_)
 ·have af : i < l.length := by omega
  have hk := KJ af k w
  obtain ⟨b0, off, cap, rfl, hx⟩ := hs.held af
  refine wz.H.J.H.Aj.H.Q.H.J.H.L.L.Q.H.J.H.L.L.z ?_
  refine bR rfl (cU rfl (au.cell eP hx af 0 rfl)) ?_
  refine wz.s.s.L.L.z ?_
  refine lC rfl rfl (fun h5 => ?_) (fun h5 => ?_)
  ·refine wz.H.J.H.Aj.H.Q.H.J.H.L.L.Q.H.J.H.L.L.z ?_
   refine bR rfl (cU rfl (au.cell eP hx af 1 rfl)) ?_
   refine wz.i.d.T.s.s.L.L.z ?_
   exact ao [_] rfl rfl sR ⟨by rw [hk]; simp [h5], rfl, rfl⟩
  ·refine wz.i.d.T.s.s.n.n.n.n.n.n.n.n.n.n.n.n.n.z ?_
   exact ao [_] rfl rfl sR ⟨by rw [hk]; simp [h5], rfl, rfl⟩
 ·have hk := KK (l := l) (i := i) oM k w
  refine wz.i.d.T.s.s.n.n.n.n.n.n.n.n.n.n.n.n.n.s.s.n.n.n.n.n.n.n.n.n.n.n.n.n.z ?_
  exact ao [_] rfl rfl sR ⟨by rw [hk], rfl, rfl⟩
theorem sG (g : ab) (l : List Tok) (hb : TB l) (lv : Value) (hs : cg g lv l) (b i : Nat) (p k : Int) (w : Bytes) : cR prog 131 [ptr b 0, .int .i64 k, str w] g (dS b lv i p) fun v g' r' => v = .bool (df l i k w) ∧ g' = g ∧ r' = dS b lv (if df l i k w then i + 1 else i) p := by
 have dh := hb.1
 refine aw func131 rfl ntmps131 rfl fun E hE => ?_
 refine wz.a.a.a.c.e.b.a.c.z ?_
 refine eo 0 rfl rfl rfl (TW g l lv hs b i p k w) ?_
 cases hk : df l i k w with
 | false =>
  refine wz.l.i.b.a.c.t.b.a.z ?_
  exact ao [_] rfl rfl sR ⟨_, rfl, rfl, rfl, rfl⟩
 | true =>
  have := cF hk
  obtain ⟨a, m, c, rfl⟩ := au.form hs
  refine wz.i.b.a.c.b.Ac.g.a.E.v.g.a.a.c.d.j.o.b.a.z ?_
  exact ao [_] rfl rfl sR ⟨_, rfl, rfl, rfl, rfl⟩
theorem wH (g : ab) (l : List Tok) (hb : TB l) (lv : Value) (hs : cg g lv l) (b i : Nat) (w : Bytes) : cR prog 197 [ptr b 0, str w] g (dS b lv i 0) fun v g' r' => v = uE w ∧ g' = g ∧ r' = dS b lv i (bH l i) := by
 refine aw func197 rfl ntmps197 rfl fun E hE => ?_
 refine wz.b.a.a.a.v.g.a.a.c.p.e.b.a.AU.v.g.a.a.c.b.a.c.z ?_
 refine an rfl (fun hlt => ?_) (fun hlt => ?_)
 ·have af : i < l.length := by omega
  have hf : bH l i = l[i].pos := by unfold bH; rw [eB af]
  obtain ⟨b0, off, cap, rfl, hx⟩ := hs.held af
  skip
  refine wI 14 mixed kR ?_; refine wz.AK.CP.Bq.AK.Ap.Ap.Bq.AK.Ap.Ap.Ap.z ?_
  refine jw rfl ⟨_, cU rfl (au.cell eP hx af 2 rfl), ?_⟩
  refine wz.AK.Ap.z ?_; refine wJ ?_; refine wz.i.b.a.Bh.K.a.c.d.y.N.Ac.z ?_
  exact ao [_] rfl rfl sR ⟨_, rfl, rfl, rfl, by rw [hf]⟩
 ·have hn : l[i]? = none := List.getElem?_eq_none oM
  refine wz.b.a.a.a.c.z ?_
  refine an rfl (fun h0 => ?_) (fun h0 => ?_)
  ·have f_ : l.length - 1 < l.length := by omega
   have dh := hb.1
   have eL := hb.2 _ (List.getElem_mem f_)
   obtain ⟨b0, off, cap, rfl, hx⟩ := hs.held f_
   have hf : bH l i = l[l.length - 1].pos + l[l.length - 1].text.length := by
    unfold bH; rw [hn, List.getLast?_eq_getElem?, eB f_]
   skip
   refine wI 23 mixed kR ?_; refine wz.Ck.Ap.Bq.AK.Ap.Ap.Ap.z ?_
   refine jw rfl ⟨_, bU (j := l.length - 1) rfl rfl oM f_, ?_⟩
   refine wz.AK.z ?_
   refine jw rfl ⟨_, cU rfl (au.cell eP hx f_ 2 rfl), ?_⟩
   refine wz.Ck.Ap.Bq.AK.Ap.Ap.z ?_
   refine jw rfl ⟨_, bU (j := l.length - 1) rfl rfl oM f_, ?_⟩
   refine wz.AK.z ?_
   refine jw rfl ⟨_, cU rfl (au.cell eP hx f_ 1 rfl), ?_⟩
   refine jw rfl ⟨_, (zF rfl), ?_⟩; refine jw rfl ⟨_, (val_add rfl rfl oM), ?_⟩; refine wz.AK.Ap.z ?_; refine wJ ?_; refine wz.i.b.a.Bh.K.a.c.d.y.N.Ac.z ?_
   exact ao [_] rfl rfl sR ⟨_, rfl, rfl, rfl, by rw [hf]⟩
  ·have hf : bH l i = 0 := by
    unfold bH; rw [hn, List.getLast?_eq_getElem?, List.getElem?_eq_none oM]
   refine wz.i.b.a.Bh.K.a.c.d.y.j.z ?_
   exact ao [_] rfl rfl sR ⟨_, rfl, rfl, rfl, by rw [hf]⟩
theorem pU (g : ab) (l : List Tok) (hb : TB l) (lv : Value) (hs : cg g lv l) (b i : Nat) (k : Int) (w : Bytes) : cR prog 168 [ptr b 0, .int .i64 k, str w] g (dS b lv i 0) fun v g' r' => g' = g ∧ (df l i k w = true ∧ v = .nilIface ∧ r' = dS b lv (i + 1) 0 ∨ df l i k w = false ∧ v = uE w ∧ r' = dS b lv i (bH l i)) := by
 refine aw func168 rfl ntmps168 rfl fun E hE => ?_
 refine wz.a.a.a.c.e.b.a.c.z ?_
 refine aG 0 rfl rfl rfl (sG g l hb lv hs b i 0 k w) ?_
 rintro v g' r' ⟨rfl, rfl, rfl⟩ _
 cases hk : df l i k w with
 | false =>
  simp only [Bool.false_eq_true, if_false]
  refine wz.a.a.c.t.b.a.z ?_
  refine aG 0 rfl rfl rfl (wH g' l hb lv hs b i w) ?_
  rintro v g1 r' ⟨rfl, rfl, rfl⟩ _
  refine wz.l.i.b.a.z ?_
  exact ao [_] rfl rfl sR ⟨_, rfl, rfl, .inr ⟨by trivial, rfl, rfl⟩⟩
 | true =>
  simp only [if_true]
  refine wz.i.b.a.c.d.j.o.b.a.z ?_
  exact ao [_] rfl rfl sR ⟨_, rfl, rfl, .inl ⟨by trivial, rfl, rfl⟩⟩
theorem KL (g : ab) (l : List Tok) (lv : Value) (hs : cg g lv l) (b i : Nat) (p : Int) : lB prog 130 [ptr b 0] g (dS b lv i p) (.int .i64 (posOf l i)) := by
 refine aw func130 rfl ntmps130 rfl fun E hE => ?_
 refine wz.d.T.s.Bu.Q.J.s.s.Q.J.s.s.Ab.e.e.b.a.c.z ?_
 refine an rfl (fun hlt => ?_) (fun hlt => ?_)
 ·have af : i < l.length := by omega
  have hk : posOf l i = l[i].pos := by unfold posOf; rw [eB af]
  obtain ⟨b0, off, cap, rfl, hx⟩ := hs.held af
  refine wz.J.Aj.Q.J.s.s.Q.J.s.s.Ab.e.z ?_
  refine bR rfl (cU rfl (au.cell eP hx af 2 rfl)) ?_
  refine wz.l.i.d.T.s.z ?_
  exact ao [_] rfl rfl sR ⟨by rw [hk], rfl, rfl⟩
 ·have hk : posOf l i = 0 := by unfold posOf; rw [List.getElem?_eq_none oM]
  refine wz.i.b.a.c.d.j.z ?_
  exact ao [_] rfl rfl sR ⟨by rw [hk], rfl, rfl⟩
def Fu : Bytes := [110, 97, 109, 101]
theorem TX {l : List Tok} {i : Nat} (h : i < l.length) (k : Int) : nameAt l i k = if l[i].kind = k then some l[i].text else none := by unfold nameAt; rw [eB h]
theorem KM {l : List Tok} {i : Nat} (h : ¬ i < l.length) (k : Int) : nameAt l i k = none := by unfold nameAt; rw [List.getElem?_eq_none oM]
theorem Fv (g : ab) (l : List Tok) (hb : TB l) (lv : Value) (hs : cg g lv l) (b i : Nat) (k : Int) : cR prog 167 [ptr b 0, .int .i64 k] g (dS b lv i 0) fun v g' r' => g' = g ∧ match nameAt l i k with
  | some t => v = .tuple #[str t, .nilIface] ∧ r' = dS b lv (i + 1) 0
  | none => v = .tuple #[str [], uE Fu] ∧ r' = dS b lv i (bH l i) := by
 have dh := hb.1
 refine aw func167 rfl ntmps167 rfl fun E hE => ?_
 refine wz.s.s.Bu.Q.J.s.s.Q.J.s.s.Ab.e.e.b.a.a.c.z ?_
 refine lC rfl rfl (fun hlt => ?_) (fun hlt => ?_)
 ·have hk := KM (l := l) (i := i) oM k
  refine wz.a.c.t.d.T.s.n.n.n.n.n.n.n.n.n.n.n.n.n.z ?_
  refine aG 0 rfl rfl rfl (wH g l hb lv hs b i Fu) ?_
  rintro v g1 r' ⟨rfl, rfl, rfl⟩ _
  refine wz.l.i.b.a.a.z ?_
  exact cB [_] rfl (.tmp rfl) (.tmp rfl) sR ⟨_, rfl, rfl, by rw [hk]; exact ⟨rfl, rfl⟩⟩
 ·have af : i < l.length := by omega
  have hk := TX af k
  obtain ⟨b0, off, cap, rfl, hx⟩ := hs.held af
  refine wz.H.J.H.Aj.H.Q.H.J.H.L.L.Q.H.J.H.L.L.z ?_
  refine bR rfl (cU rfl (au.cell eP hx af 0 rfl)) ?_
  refine wz.d.T.s.L.L.z ?_
  refine an rfl (fun h5 => ?_) (fun h5 => ?_)
  ·rw [if_neg h5] at hk
   refine wz.a.c.z ?_
   refine aG 0 rfl rfl rfl (wH g l hb _ hs b i Fu) ?_
   rintro v g1 r' ⟨rfl, rfl, rfl⟩ _
   refine wz.l.i.b.a.a.z ?_
   exact cB [_] rfl (.tmp rfl) (.tmp rfl) sR ⟨_, rfl, rfl, by rw [hk]; exact ⟨rfl, rfl⟩⟩
  ·rw [if_pos (Decidable.not_not.1 h5)] at hk
   refine wz.Ch.Q.J.s.s.Q.J.s.s.Ab.e.b.Ac.g.a.E.v.g.a.a.c.d.j.z ?_
   refine bR rfl (bU (j := i) rfl rfl oM af) ?_
   refine wz.J.z ?_
   refine bR rfl (cU rfl (au.cell eP hx af 1 rfl)) ?_
   refine wz.i.d.T.s.s.z ?_
   exact cB [_] rfl (.tmp rfl) (.tmp rfl) sR ⟨_, rfl, rfl, by rw [hk]; exact ⟨rfl, rfl⟩⟩
theorem KN (g : ab) (t : Tok) : Pure prog 171 [KO t] g (.bool (kS t)) := by
 refine aw func171 rfl ntmps171 rfl fun E hE => ?_
 refine aS ?_
 refine aP rfl rfl rfl (fun b1 => ?_)
 refine wz.b.a.a.c.e.p.b.v.g.c.e.b.a.z ?_
 refine an rfl (fun h1 => ?_) (fun h1 => ?_)
 ·refine wz.d.j.z ?_
  refine an rfl (fun k1 => ?_) (fun k1 => ?_)
  ·refine wz.l.x.i.b.a.c.z ?_
   exact ao [] rfl rfl sM ⟨by simp [kS, h1], rfl, rfl⟩
  ·exact absurd h1 k1
 refine wz.b.a.a.c.z ?_
 refine an rfl (fun h2 => ?_) (fun h2 => ?_)
 ·refine wz.d.j.z ?_
  refine an rfl (fun k2 => ?_) (fun k2 => ?_)
  ·refine wz.l.x.i.b.a.c.z ?_
   exact ao [] rfl rfl sM ⟨by simp [kS, h2], rfl, rfl⟩
  ·exact absurd h2 k2
 refine wz.b.a.a.r.z ?_
 refine an rfl (fun h3 => ?_) (fun h3 => ?_)
 ·refine wz.l.x.i.b.a.c.z ?_
  exact ao [] rfl rfl sM ⟨by simp [kS, h3], rfl, rfl⟩
 refine wz.b.a.a.c.z ?_
 refine an rfl (fun h5 => ?_) (fun h5 => ?_)
 ·refine wz.a.a.v.g.c.z ?_
  refine bw rfl rfl (fun h6 => ?_) (fun h6 => ?_)
  ·refine wz.l.x.i.b.a.a.h.h.h.a.a.h.h.h.z ?_
   exact ao [] rfl rfl sM ⟨by simp [kS, h5, h6], rfl, rfl⟩
  refine wz.a.a.u.v.k.g.k.z ?_
  refine bw rfl rfl (fun h7 => ?_) (fun h7 => ?_)
  ·refine wz.l.x.i.b.a.a.h.h.h.z ?_
   exact ao [] rfl rfl sM ⟨by simp [kS, h5, h7], rfl, rfl⟩
  refine wz.l.x.i.b.a.a.u.v.k.g.k.z ?_
  exact ao [] rfl rfl sM ⟨by simp [kS, h5, h6, h7], rfl, rfl⟩
 ·refine wz.i.b.a.c.d.y.j.z ?_
  exact ao [] rfl rfl sM ⟨by simp [kS, h1, h2, h3, h5], rfl, rfl⟩
theorem TY (g : ab) (l : List Tok) (lv : Value) (hs : cg g lv l) (i : Int) : aZ.Spec prog 98 [lv, .int .i64 i] g [] fun v g' own' => g' = g ∧ ∃ b, v = ptr b 0 ∧ own' = [dS b lv (idxOf l.length i) 0] := by
 obtain ⟨a, c, rfl⟩ := aU hs
 refine aw func98 rfl ntmps98 rfl fun E hE => ?_
 refine wz.b.a.a.c.e.b.a.c.z ?_
 refine an rfl (fun h1 => ?_) (fun h1 => ?_)
 ·have hx : idxOf l.length i = l.length := by simp [idxOf, h1]
  refine wz.K.BL.A.a.a.a.c.b.a.A.a.r.z ?_
  refine aP rfl rfl rfl (fun b => ?_)
  refine wz.i.b.a.z ?_
  exact ao [_] rfl rfl sR ⟨rfl, b, rfl, by rw [hx]; simp⟩
 ·have hx : ((idxOf l.length i : Nat) : Int) = min i l.length := by simp only [idxOf, h1, if_false]; omega
  refine wz.K.BL.A.a.a.a.c.d.j.z ?_
  refine aP rfl rfl rfl (fun b => ?_)
  refine wz.i.b.a.z ?_
  exact ao [_] rfl rfl sR ⟨rfl, b, rfl, by rw [← hx]⟩
theorem KP (g : ab) : ∀ (N : Nat) (g : ab) (a c : Ex) (u v : Value), aN a < N → aN a ≤ 1000000 → aN c ≤ 1000000 → bV a = bV c → cT g u a → cT g v c → Pure prog 36 [u, v] g (.bool true)
 | 0, _, _, _, _, _, h, _, _, _, _, _ => by omega
 | N + 1, g, a, c, u, v, hN, ha, hc, he, hu, hv => by
  have ih := KP g N
  obtain ⟨f1, f2, f3, f4, f5, f6, f7, f8⟩ := SX he
  have gk := my a
  have aEY : (aY a).length = a.kids.length + a.aK.length := by simp [aY]
  have TZ := hu
  have ie := hv
  obtain ⟨a1, c1, a2, c2, a3, m3, c3, xk, xa, rfl, h1, h2, h3, h4, h5⟩ := hu.open
  obtain ⟨b1, d1, b2, d2, b3, n3, d3, yk, ya, rfl, g1, g2, g3, g4, g5⟩ := hv.open
  rw [← f1, ← f2, ← f3, ← f4, ← f5, ← f6] at ie ⊢
  rw [← f4] at g5
  rw [← f5] at g1
  rw [← f6] at g3
  refine aw func36 rfl ntmps36 rfl fun E hE => ?_
  refine aS ?_
  refine aP rfl rfl rfl (fun p2 => ?_)
  refine aP rfl rfl rfl (fun p3 => ?_)
  refine wz.a.a.v.g.I.g.c.e.b.a.z ?_
  refine bw rfl rfl (fun h => absurd rfl h) (fun _ => ?_)
  refine wz.a.a.u.v.k.g.k.I.k.g.k.z ?_
  refine bw rfl rfl (fun h => absurd rfl h) (fun _ => ?_)
  refine wz.a.a.u.v.k.g.k.I.k.g.k.z ?_
  refine bw rfl rfl (fun h => absurd rfl h) (fun _ => ?_)
  refine wz.k.G.k.g.k.O.k.g.k.z ?_
  refine aO rfl rfl (sH g a.ty _ _ ⟨_, rfl, h5⟩ ⟨_, rfl, g5⟩) ?_
  refine wz.a.a.u.A.k.v.k.g.k.A.k.I.k.g.k.a.a.u.z ?_
  refine bw rfl rfl (fun h => absurd rfl h) (fun _ => ?_)
  refine wz.b.a.u.A.k.v.k.g.k.A.k.I.k.g.k.z ?_
  refine an rfl (fun h => absurd rfl h) (fun _ => ?_)
  refine wz.p.b.a.c.e.d.j.z ?_
  refine aX (ι := Nat) (fun i => [(2, ptr p2 0), (3, ptr p3 0), (5, .int .i64 i)]) (fun _ => g) (fun _ => [.ae p3 47 [.int .i64 a.kind, .int .i64 c.pos, str a.name, .int .i64 a.num, .slice b1 a.kids.length d1, .slice b2 a.aK.length d2, .int .i64 a.ty.kind, str a.ty.name, .int .i64 a.ty.id, .int .i64 a.ty.home, .slice b3 n3 d3], .ae p2 47 [.int .i64 a.kind, .int .i64 a.pos, str a.name, .int .i64 a.num, .slice a1 a.kids.length c1, .slice a2 a.aK.length c2, .int .i64 a.ty.kind, str a.ty.name, .int .i64 a.ty.id, .int .i64 a.ty.home, .slice a3 m3 c3]]) (fun i => i ≤ a.aK.length) (fun i => a.aK.length - i) 0 (Nat.zero_le _) ⟨rfl, rfl, rfl, trivial⟩ rfl rfl ?_
  intro i hi
  refine wz.b.a.A.I.g.a.c.e.z ?_
  refine an rfl (fun hlt => ?_) (fun hlt => ?_)
  ·have af : i < a.aK.length := by omega
   have dk : i < c.aK.length := by omega
   obtain ⟨e1, e2⟩ := f7 i af dk
   obtain ⟨bb, off, cap, aq, iX⟩ := h3.held af
   cases aq
   obtain ⟨KQ, fo, jZ, fq, T1⟩ := g3.held af
   cases fq
   obtain ⟨sv, bc, dh, _, hr⟩ := zn (own := [.ae p3 47 [.int .i64 a.kind, .int .i64 c.pos, str a.name, .int .i64 a.num, .slice b1 a.kids.length d1, .slice (some ⟨KQ, fo, none⟩) a.aK.length d2, .int .i64 a.ty.kind, str a.ty.name, .int .i64 a.ty.id, .int .i64 a.ty.home, .slice b3 n3 d3], .ae p2 47 [.int .i64 a.kind, .int .i64 a.pos, str a.name, .int .i64 a.num, .slice a1 a.kids.length c1, .slice (some ⟨bb, off, none⟩) a.aK.length c2, .int .i64 a.ty.kind, str a.ty.name, .int .i64 a.ty.id, .int .i64 a.ty.home, .slice a3 m3 c3]]) h4 iX af
   obtain ⟨sv', sI, KR, _, dA⟩ := zn (own := [.ae p3 47 [.int .i64 a.kind, .int .i64 c.pos, str a.name, .int .i64 a.num, .slice b1 a.kids.length d1, .slice (some ⟨KQ, fo, none⟩) a.aK.length d2, .int .i64 a.ty.kind, str a.ty.name, .int .i64 a.ty.id, .int .i64 a.ty.home, .slice b3 n3 d3], .ae p2 47 [.int .i64 a.kind, .int .i64 a.pos, str a.name, .int .i64 a.num, .slice a1 a.kids.length c1, .slice (some ⟨bb, off, none⟩) a.aK.length c2, .int .i64 a.ty.kind, str a.ty.name, .int .i64 a.ty.id, .int .i64 a.ty.home, .slice a3 m3 c3]]) g4 T1 dk
   rw [← e1] at dA
   rw [← e2] at KR
   refine wz.J.Aj.s.BQ.J.Ab.e.p.e.d.j.z ?_
   refine bR rfl (cU rfl (hr.du 1 rfl)) ?_
   refine wz.J.Aj.s.Q.J.z ?_
   refine bR rfl (cU rfl (dA.du 1 rfl)) ?_
   refine wz.s.s.z ?_
   refine lC rfl rfl (fun h => absurd rfl h) (fun _ => ?_)
   refine wz.H.J.H.Aj.H.L.BQ.H.J.H.z ?_
   refine bR rfl (cU rfl (hr.du 2 rfl)) ?_
   refine wz.H.J.H.Aj.H.L.Q.H.J.H.z ?_
   refine bR rfl (cU rfl (dA.du 2 rfl)) ?_
   refine wz.H.z ?_
   refine iy rfl rfl (JT g _ _ _ dh KR) ?_
   refine wz.b.a.E.a.r.d.y.j.o.d.T.s.L.z ?_
   exact aM (i + 1) oM oM ⟨rfl, rfl, rfl, trivial⟩ rfl rfl
  ·refine wz.e.d.D.m.m.C.z ?_
   refine bO [] mixed (fun hG => ?_)
   refine wz.P.z ?_; refine ⟨_, (bP 1 rfl rfl rL), ?_⟩
   refine wz.S.z ?_; refine ⟨_, (bP 0 rfl rfl rL), ?_⟩
   refine wz.BP.z ?_
   refine aB rfl rfl (rY g _ a TZ ha) ?_
   rintro w nf ⟨xs, aJ, j9⟩ a8
   refine wz.Aw.f.b.z ?_
   refine aB rfl rfl (rY nf _ c (ie.mono a8) hc) ?_
   rintro w2 fj ⟨ys, bj, jd⟩ aD
   have jP := ab.le_trans a8 aD
   refine wz.AH.f.b.z ?_
   refine aO rfl rfl (SY fj (aY a) (aY c) (by simpa using congrArg List.length f8) (fun i h h' u v h1 h2 => ih fj _ _ u v (by
    have := mC (List.getElem_mem h)
    omega) (by have := mC (List.getElem_mem h); omega) (by have := mC (List.getElem_mem h'); omega) (by
    have : ((aY a).map bV)[i]? = ((aY c).map bV)[i]? := by rw [f8]
    simpa [h, h'] using this) h1 h2) _ _ _ _ (aJ.mono aD) (dp.mono aD _ _ j9) bj jd) ?_
   refine wz.F.f.b.a.Aq.f.b.z ?_
   refine l6 hE jP ?_
   refine wz.i.d.z ?_
   exact ao [] rfl rfl sM ⟨rfl, rfl, rfl⟩
theorem zG (g : ab) (a c : Ex) (u v : Value) (ha : aN a ≤ 1000000) (hc : aN c ≤ 1000000) (he : bV a = bV c) (hu : cT g u a) (hv : cT g v c) : Pure prog 36 [u, v] g (.bool true) := KP g _ g a c u v (Nat.lt_succ_self _) ha hc he hu hv
end Go.Proofs.YtlnjfkfojkgiiaaGreatDoor

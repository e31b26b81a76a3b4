/- The walks of the reference's reader of expressions: cases. -/
import Derived.Test.YtlnjfkfojkgiiaaGreatDoorK9
open Go Go.aZ Go.Th Go.Proofs Tryz
set_option maxRecDepth 10000
set_option maxHeartbeats 4000000
attribute [local irreducible] wpList Code.wp ah bodyPost Go.aZ.Ends Exit.then Exit.inBlock dJ Wq Kq
namespace Go.Proofs.YtlnjfkfojkgiiaaGreatDoor
theorem RS.y_ {l : List Tok} {k : Int} : ∀ {s : RS}, s.ok l → (s.word l k).ok l
 | .ak i, h => by
  cases hk : dq l i k with
  | true => obtain ⟨_, e, hlt⟩ := mZ hk; rw [e]; exact hlt
  | false => rw [(pL hk).2.1]; exact h
 | .bad _ _, h => h
theorem RS.JD {l : List Tok} {w : Bytes} : ∀ {s : RS}, s.ok l → (s.fi l w).ok l
 | .ak i, h => by
  cases hk : dZ l i w with
  | true => obtain ⟨_, e, hlt⟩ := kN hk; rw [e]; exact hlt
  | false => rw [(lY hk).2]; exact h
 | .bad _ _, h => h
def kO (l : List Tok) : RS → RS → List Bytes → Prop
 | .bad j p, s, vs => s = .bad j p ∧ vs = []
 | .ak j, s, vs => s = .ak (j + vs.length) ∧ j + vs.length ≤ l.length ∧ lowers (l.drop j) = vs ++ lowers (l.drop (j + vs.length))
theorem kO.start {l : List Tok} : ∀ {s : RS}, s.ok l → kO l s s []
 | .bad _ _, _ => ⟨rfl, rfl⟩
 | .ak _, h => ⟨rfl, h, rfl⟩
theorem Sy {l : List Tok} {j : Nat} (h : dq l j 1 = true) : lowers (l.drop j) = RS.text l 1 (.ak j) :: lowers (l.drop (j + 1)) := by
 obtain ⟨_, _, hlt⟩ := mZ h
 rw [nJ hlt] at h
 rw [List.drop_eq_getElem_cons hlt, EE, eB hlt]
 simp only [decide_eq_true_eq] at h
 simp [lowers, h]
theorem Sz {l : List Tok} {j : Nat} (h : dq l j 1 = false) : lowers (l.drop j) = [] := by
 by_cases hlt : j < l.length
 ·rw [nJ hlt] at h
  rw [List.drop_eq_getElem_cons hlt]
  simp only [decide_eq_false_iff_not] at h
  simp [lowers, h]
 ·rw [List.drop_eq_nil_of_le oM]; rfl
theorem kO.next {l : List Tok} {s0 s : RS} {vs : List Bytes} (h : kO l s0 s vs) (hk : s.iK l 1 = true) : kO l s0 (s.word l 1) (vs ++ [s.text l 1]) := by
 cases s0 with
 | bad j p => obtain ⟨rfl, rfl⟩ := h; cases hk
 | ak j =>
  obtain ⟨rfl, h2, h3⟩ := h
  have c_ : dq l (j + vs.length) 1 = true := hk
  obtain ⟨_, e, hlt⟩ := mZ c_
  rw [e]
  refine ⟨by rw [List.length_append]; simp; omega, by rw [List.length_append]; simp; omega, ?_⟩
  rw [h3, Sy c_]
  simp [Nat.add_assoc]
theorem kO.ok {l : List Tok} {s0 s : RS} {vs : List Bytes} (h0 : s0.ok l) (h : kO l s0 s vs) : s.ok l := by
 cases s0 with
 | bad j p => obtain ⟨rfl, rfl⟩ := h; exact h0
 | ak j => obtain ⟨rfl, h2, h3⟩ := h; exact h2
theorem kO.len {l : List Tok} {s0 s : RS} {vs : List Bytes} (h0 : s0.ok l) (h : kO l s0 s vs) : vs.length ≤ l.length := by
 cases s0 with
 | bad j p => obtain ⟨rfl, rfl⟩ := h; simp
 | ak j => obtain ⟨rfl, h2, h3⟩ := h; omega
def m_ (l : List Tok) (pos : Int) (i : Nat) : ER := match bt l .expr i with
 | .error p => .error p
 | .ok (e, j) => if cA l j kP then bt l (.aK pos e []) (j + 1) else .error (bH l j)
theorem SA {l : List Tok} {pos : Int} {i : Nat} {e : Ex} {j : Nat} (h : m_ l pos i = .ok (e, j)) : i < j := by
 unfold m_ at h
 cases hq : bt l .expr i with
 | error p => rw [hq] at h; cases h
 | ok q =>
  obtain ⟨x, k⟩ := q
  rw [hq] at h
  simp only at h
  have h1 := vW rfl hq
  split at h
  ·have h2 := jH h; omega
  ·cases h
def dK : List Value := [.int .i64 0, .int .i64 0, str [], .int .i64 0, .slice none 0 0, .slice none 0 0, .int .i64 0, str [], .int .i64 0, .int .i64 0, .slice none 0 0]
def kp (p : Int) (c : Bytes) (sv : Value) (bc : List Value) : List Value := .int .i64 p :: str c :: sv :: bc
def rR (p : Int) (ks sv : Value) : List Value := [.int .i64 8, .int .i64 p, str [], .int .i64 0, ks, sv, .int .i64 0, str [], .int .i64 0, .int .i64 0, .slice none 0 0]
theorem zb {g : ab} {pos : Int} {x0 : Ex} {c0 : List Value} {acc : List Ar} {ks sv : Value} {xa : List Value} (h1 : au g 11 ks 1 c0) (h2 : cJ g x0 c0) (h3 : au g 14 sv acc.length xa) (h4 : fw g acc xa) : cJ g (eS pos x0 acc) (rR pos ks sv) :=
 cJ.mk (e := eS pos x0 acc) h1 (na h2) h3 h4 (bx.mk (t := bX) (cP g 5) (cQ g))
theorem JE {g : ab} {acc : List Ar} {xa : List Value} {p : Int} {c : Bytes} {vs : List Bytes} {b : Ex} {sv : Value} {bc : List Value} (h : fw g acc xa) (h1 : au g 1 sv vs.length (vs.map str)) (h2 : cJ g b bc) : fw g (acc ++ [.mk p c vs b]) (xa ++ kp p c sv bc) := by
 refine nK.2 (aL.snoc ?_ (nK.1 h))
 unfold gG
 exact ⟨sv, bc, rfl, h1, h2⟩
theorem SC {g : ab} {acc : List Ar} {xa : List Value} (h : fw g acc xa) : xa.length = acc.length * 14 ∧ ∀ u ∈ xa, fx u = true := aL.one (fun _ _ h => h.one) (nK.1 h)
def JF (l : List Tok) (k : Nat) (x : Ex) : RS → Prop
 | .ak m => bt l .expr k = .ok (x, m) ∧ k < m ∧ m ≤ l.length
 | .bad j p => bt l .expr k = .error p ∧ j ≤ l.length
theorem JF.ok {l : List Tok} {k : Nat} {x : Ex} {s : RS} (h : JF l k x s) : s.ok l := by
 cases s with
 | ak m => exact h.2.2
 | bad j p => exact h.2
def RS.EF : RS → Bool
 | .ak _ => false
 | .bad _ _ => true
def RS.left (l : List Tok) : RS → Nat
 | .ak j => l.length - j + 1
 | .bad _ _ => 0
def SD (l : List Tok) (i : Nat) (b : Nat) (lv : Value) (r : Except Int (Da × Nat)) (v : Value) (g' : ab) (r' : aA) : Prop := match r with
 | .ok (d, j) => qD g' v d ∧ r' = ey b lv (.ak j) ∧ i < j ∧ j ≤ l.length
 | .error p => (∃ d, qD g' v d) ∧ ∃ j, j ≤ l.length ∧ r' = ey b lv (.bad j p)
def vX (l : List Tok) (R : Except Int (List Cn × Nat)) (acc : List Cn) : RS → Prop
 | .ak j => j ≤ l.length ∧ acc.length ≤ j ∧ R = oT l acc j
 | .bad j p => j ≤ l.length ∧ R = .error p
def EG (l : List Tok) (R : Except Int (List Cn × Nat)) (acc : List Cn) : RS → Prop
 | .ak m => m ≤ l.length ∧ R = if bB l m [59] then .ok (acc, m + 1) else .error (bH l m)
 | .bad j p => j ≤ l.length ∧ R = .error p
def vY (l : List Tok) (acc : List Cn) (pos : Int) (c : Bytes) (t : Ty) (k : Nat) : Except Int (List Cn × Nat) :=
 if bB l k [124] then oT l (acc ++ [⟨pos, c, t.args⟩]) (k + 1) else if bB l k [59] then .ok (acc ++ [⟨pos, c, t.args⟩], k + 1) else .error (bH l k)
def vZ (l : List Tok) (R : Except Int (List Cn × Nat)) (acc : List Cn) (pos : Int) (c : Bytes) (n0 : Nat) (fs : List Ty) : RS → Prop
 | .ak k => k ≤ l.length ∧ n0 + fs.length < k ∧ R = match a_ l (.args c fs) k with
  | .error p => .error p
  | .ok (t, k') => vY l acc pos c t k'
 | .bad j p => j ≤ l.length ∧ R = .error p
theorem JG {l : List Tok} (bI : KW l) {i : Nat} (hi : i ≤ l.length) {s1 s3 : RS} {vs : List Bytes} (aJ : s1 = RS.fi l eC (.ak i)) (hv : kO l (s1.word l 2) s3 vs) (hk : s3.iK l 1 = false) :
  match s3.fi l [61] with
  | .bad j p => j ≤ l.length ∧ iL l i = .error p
  | .ak k => k ≤ l.length ∧ i < k ∧ iL l i = match oT l [] k with
   | .error p => .error p
   | .ok (cs, m) => .ok (⟨posOf l i, s1.text l 2, vs, cs⟩, m) := by
 have hp : dZ l i eC = cA l i eC := pM bI dC i
 unfold iL
 cases hw : cA l i eC with
 | false =>
  rw [(lY (hp.trans hw)).2] at aJ
  subst aJ
  obtain ⟨rfl, rfl⟩ := hv
  exact ⟨hi, rfl⟩
 | true =>
  have hlt := cF hw
  rw [(kN (hp.trans hw)).2.1] at aJ
  subst aJ
  simp only [if_true]
  cases h2 : dq l (i + 1) 2 with
  | false =>
   obtain ⟨e1, e2, e3⟩ := pL h2
   rw [e2] at hv
   obtain ⟨rfl, rfl⟩ := hv
   rw [e1]
   exact ⟨hlt, rfl⟩
  | true =>
   obtain ⟨e1, e2, dk⟩ := mZ h2
   rw [e2] at hv
   obtain ⟨rfl, gY, v7⟩ := hv
   have c_ : dq l (i + 1 + 1 + vs.length) 1 = false := hk
   rw [Sz c_, List.append_nil] at v7
   rw [e1]
   simp only
   rw [show i + 2 = i + 1 + 1 from rfl, v7]
   have hq : dZ l (i + 1 + 1 + vs.length) [61] = bB l (i + 1 + 1 + vs.length) [61] := lZ bI dC _
   cases h3 : bB l (i + 1 + 1 + vs.length) [61] with
   | false =>
    rw [(lY (hq.trans h3)).2]
    exact ⟨gY, rfl⟩
   | true =>
    have iM := cF h3
    rw [(kN (hq.trans h3)).2.1]
    exact ⟨iM, oM, rfl⟩
theorem JH {l : List Tok} {R : Except Int (List Cn × Nat)} {acc : List Cn} {j : Nat} (h : vX l R acc (.ak j)) : vZ l R acc (posOf l j) (RS.text l 2 (.ak j)) acc.length [] (RS.word l 2 (.ak j)) := by
 obtain ⟨h1, h2, h3⟩ := h
 rw [EH] at h3
 cases hk : dq l j 2 with
 | false =>
  obtain ⟨e1, e2, e3⟩ := pL hk
  rw [e2]
  rw [e1] at h3
  exact ⟨h1, h3⟩
 | true =>
  obtain ⟨e1, e2, hlt⟩ := mZ hk
  rw [e2]
  rw [e1] at h3
  exact ⟨hlt, nM, h3⟩
theorem JI {g : ab} {l : List Cn} {xs : List Value} {p : Int} {c : Bytes} {fs : List Ty} {sf : Value} {xf : List Value} (h : aL (kq g) l xs) (h1 : au g 5 sf fs.length xf) (h2 : aV g fs xf) :
  aL (kq g) (l ++ [⟨p, c, fs⟩]) (xs ++ [.int .i64 p, str c, sf]) := aL.snoc ⟨sf, xf, rfl, h1, h2⟩ h
theorem SE {l : List Tok} (bI : KW l) (j : Nat) : (RS.iK l 1 (.ak j) || RS.iK l 2 (.ak j) || RS.fV l [40] (.ak j)) = gH l j := by
 show (dq l j 1 || dq l j 2 || dZ l j [40]) = _
 rw [lZ bI dC]
 unfold gH kQ bB df dq
 cases l[j]? <;> rfl
theorem SF {l : List Tok} (hb : TB l) (bI : KW l) (g : ab) (lv : Value) (b i : Nat) (hs : cg g lv l) (hi : i ≤ l.length) :
  cR prog 145 [ptr b 0] g (ey b lv (.ak i)) (SD l i b lv (iL l i)) := by
 have dh := hb.1
 refine aw func145 rfl ntmps145 rfl fun E hE => ?_
 refine aS ?_
 refine aj rfl (fun b2 => ?_)
 refine wz.a.c.b.z ?_
 refine eo 1 rfl rfl rfl (JJ g l lv hs b (.ak i)) ?_
 rw [show iw l (RS.ak i).idx = posOf l i from rfl]
 refine wz.K.z ?_
 refine aj rfl (fun b3 => ?_)
 refine wz.a.c.b.q.z ?_
 refine aG 2 rfl rfl rfl (uq g l hb lv hs b (.ak i) hi eC) ?_
 rintro v g0 r' ⟨rfl, rfl⟩ _
 have v8 : (RS.fi l eC (.ak i)).ok l := RS.JD (s := .ak i) hi
 obtain ⟨s1, aJ⟩ : ∃ s, s = RS.fi l eC (.ak i) := ⟨_, rfl⟩
 rw [← aJ] at v8 ⊢
 refine wz.a.c.b.z ?_
 refine aG 2 rfl rfl rfl (ur g0 l hb lv hs b s1 v8 2) ?_
 rintro v g0 r' ⟨rfl, rfl, rfl⟩ _
 have mr : (s1.word l 2).ok l := RS.y_ v8
 refine wz.b.Ac.g.z ?_
 refine cD (ι := RS × List Bytes × Value) (fun p => [(0, ptr b 0), (2, ptr b2 0), (3, ptr b3 0)]) (fun _ => g0)
  (fun p => [.row 9 1 p.2.2 p.2.1.length (p.2.1.map str), .ae b3 60 [.int .i64 (posOf l i), str (s1.text l 2), p.2.2, .slice none 0 0], .ae b2 60 [.int .i64 0, str [], .slice none 0 0, .slice none 0 0], ey b lv p.1])
  (fun p => (∃ a m c, p.2.2 = .slice a m c) ∧ kO l (s1.word l 2) p.1 p.2.1 ∧ p.1.iK l 1 = false) ?_ ?_
 ·rintro ⟨s3, vs, vv⟩ ⟨⟨va, vm, vc, q1⟩, q2, q3⟩
  simp only at q1 q2 q3
  subst q1
  have hh := JG bI hi aJ q2 q3
  have uu : s3.ok l := q2.ok mr
  have nL := q2.len mr
  try dsimp only
  refine bg (fun g1 cG lk => ?_)
  have nN := hs.mono cG
  refine wz.a.c.z ?_
  refine aG 2 rfl rfl rfl (uq g1 l hb lv nN b s3 uu [61]) ?_
  rintro v g1 r' ⟨rfl, rfl⟩ _
  generalize s3.fi l [61] = s4 at hh
  have hR : ∃ R : Except Int (List Cn × Nat), vX l R [] s4 ∧ (iL l i = match R with | .error p => .error p | .ok (cs, m) => .ok (⟨posOf l i, s1.text l 2, vs, cs⟩, m)) := by
   cases s4 with
   | bad j p => exact ⟨.error p, ⟨hh.1, rfl⟩, hh.2⟩
   | ak k => exact ⟨oT l [] k, ⟨hh.1, sM, rfl⟩, hh.2.2⟩
  obtain ⟨R, gA, jI⟩ := hR
  refine iV ?_
  refine cD (ι := RS × List Cn × Value × ab) (fun p => [(0, ptr b 0), (2, ptr b2 0), (3, ptr b3 0)]) (fun p => p.2.2.2)
   (fun p => [.ae b3 60 [.int .i64 (posOf l i), str (s1.text l 2), .slice va vm vc, p.2.2.1], .ae b2 60 [.int .i64 0, str [], .slice none 0 0, .slice none 0 0], ey b lv p.1])
   (fun p => ab.le g1 p.2.2.2 ∧ (∃ xc, au p.2.2.2 3 p.2.2.1 p.2.1.length xc ∧ aL (kq p.2.2.2) p.2.1 xc) ∧ EG l R p.2.1 p.1) ?_ ?_
  ·rintro ⟨s, acc, sc, g2⟩ ⟨k1, ⟨xc, k2, k3⟩, k4⟩
   simp only at k1 k2 k3 k4
   obtain ⟨ca, cm, cc, rfl⟩ := au.form k2
   have bj := nN.mono k1
   try dsimp only
   have bW : s.ok l := by
    cases s with
    | ak j => exact k4.1
    | bad j p => exact k4.1
   have hV : qD g2 (.agg #[.int .i64 (posOf l i), str (s1.text l 2), .slice va vm vc, .slice ca cm cc]) ⟨posOf l i, s1.text l 2, vs, acc⟩ := ⟨_, rfl, _, _, xc, rfl, lk.mono k1, k2, k3⟩
   refine wz.a.c.z ?_
   refine aG 2 rfl rfl rfl (uq g2 l hb lv bj b s bW [59]) ?_
   rintro v g3 r' ⟨rfl, rfl⟩ _
   refine wz.Bv.i.b.B.G.c.b.z ?_
   cases s with
   | bad j p =>
    obtain ⟨h1, h2⟩ := k4
    rw [h2] at jI
    rw [jI]
    exact ⟨⟨_, hV⟩, j, h1, rfl⟩
   | ak j =>
    obtain ⟨h1, h2⟩ := k4
    have hp : dZ l j [59] = bB l j [59] := lZ bI dC j
    cases hk : bB l j [59] with
    | true =>
     rw [hk] at h2
     simp only [if_true] at h2
     rw [h2] at jI
     simp only at jI
     have := v_ jI
     rw [(kN (hp.trans hk)).2.1, jI]
     exact ⟨hV, rfl, this.1, this.2⟩
    | false =>
     rw [hk] at h2
     simp only [Bool.false_eq_true, if_false] at h2
     rw [h2] at jI
     simp only at jI
     rw [(lY (hp.trans hk)).2, jI]
     exact ⟨⟨_, hV⟩, j, h1, rfl⟩
  ·intro K hK
   refine wz.p.z ?_; refine fW 62 3 ?_
   refine aX (ι := RS × List Cn × Value × List Value × ab) (fun p => [(0, ptr b 0), (2, ptr b2 0), (3, ptr b3 0)]) (fun p => p.2.2.2.2)
    (fun p => [.row 62 3 p.2.2.1 p.2.1.length p.2.2.2.1, .ae b3 60 [.int .i64 (posOf l i), str (s1.text l 2), .slice va vm vc, p.2.2.1], .ae b2 60 [.int .i64 0, str [], .slice none 0 0, .slice none 0 0], ey b lv p.1])
    (fun p => ab.le g1 p.2.2.2.2 ∧ (∃ a m c, p.2.2.1 = .slice a m c) ∧ aL (kq p.2.2.2.2) p.2.1 p.2.2.2.1 ∧ vX l R p.2.1 p.1 ∧ p.2.1.length ≤ l.length)
    (fun p => p.1.left l) (s4, [], .slice none 0 0, [], g1) ⟨ab.le_refl _, ⟨_, _, _, rfl⟩, rfl, gA, sM⟩ ⟨rfl, rfl, rfl, trivial⟩ rfl rfl ?_
   rintro ⟨s, acc, sc, xc, g2⟩ ⟨k1, ⟨ca, cm, cc, k2⟩, k3, k4, k5⟩
   simp only at k1 k2 k3 k4 k5
   subst k2
   have bj := nN.mono k1
   try dsimp only
   cases s with
   | bad j p =>
    obtain ⟨h1, h2⟩ := k4
    refine wz.d.D.m.m.C.o.b.a.AN.g.a.a.c.e.z ?_
    refine bg (fun g3 d_ EI => ?_)
    exact hK (.bad j p, acc, .slice ca cm cc, g3) _ ⟨ab.le_trans k1 d_, ⟨xc, EI, rS d_ k3⟩, h1, h2⟩ ⟨rfl, rfl, rfl, trivial⟩
   | ak j =>
    have nO := JH k4
    obtain ⟨eK, SG, _⟩ := k4
    refine wz.a.c.p.d.j.t.b.a.AN.g.a.a.c.e.z ?_
    refine eo 3 rfl rfl rfl (JJ g2 l lv bj b (.ak j)) ?_
    rw [show iw l (RS.ak j).idx = posOf l j from rfl]
    refine wz.a.z ?_
    refine aG 3 rfl rfl rfl (ur g2 l hb lv bj b (.ak j) eK 2) ?_
    rintro v fj r' ⟨rfl, rfl, rfl⟩ _
    obtain ⟨cn, pN⟩ : ∃ c, c = RS.text l 2 (.ak j) := ⟨_, rfl⟩
    rw [← pN] at nO ⊢
    refine wz.K.z ?_
    refine aj rfl (fun b4 => ?_)
    refine wz.b.Br.z ?_
    have we : (RS.word l 2 (.ak j)).ok l := RS.y_ (s := .ak j) eK
    have wg : ∀ k, RS.word l 2 (.ak j) = .ak k → k = j + 1 := by
     intro k hk
     cases h : dq l j 2 with
     | true => rw [(mZ h).2.1] at hk; cases hk; rfl
     | false => rw [(pL h).2.1] at hk; cases hk
    generalize RS.word l 2 (.ak j) = s5 at nO we wg
    refine cD (ι := RS × List Ty × Value × ab) (fun p => [(0, ptr b 0), (2, ptr b2 0), (3, ptr b3 0), (4, ptr b4 0)]) (fun p => p.2.2.2)
     (fun p => [.ae b4 62 [.int .i64 (posOf l j), str cn, p.2.2.1], .row 62 3 (.slice ca cm cc) acc.length xc, .ae b3 60 [.int .i64 (posOf l i), str (s1.text l 2), .slice va vm vc, .slice ca cm cc], .ae b2 60 [.int .i64 0, str [], .slice none 0 0, .slice none 0 0], ey b lv p.1])
     (fun p => ab.le fj p.2.2.2 ∧ (∃ xf, au p.2.2.2 5 p.2.2.1 p.2.1.length xf ∧ aV p.2.2.2 p.2.1 xf) ∧ (match p.1 with
      | .ak k => k ≤ l.length ∧ j < k ∧ R = vY l acc (posOf l j) cn (bJ cn p.2.1) k
      | .bad j' p' => j' ≤ l.length ∧ R = .error p')) ?_ ?_
    ·rintro ⟨s6, fs, sf, g3⟩ ⟨m1, ⟨xf, m2, m3⟩, m4⟩
     simp only at m1 m2 m3 m4
     obtain ⟨fa, fm, fc, rfl⟩ := au.form m2
     have bY := bj.mono m1
     try dsimp only
     have SH : s6.ok l := by
      cases s6 with
      | ak j => exact m4.1
      | bad j p => exact m4.1
     have rT := JI (p := posOf l j) (c := cn) (rS m1 k3) m2 m3
     refine wz.G.Ag.g.c.z ?_
     refine bu rfl rfl rL rL rL rL rL (fun fX => ?_)
     refine cV 2 0 rfl rfl rfl rfl rfl rL rL rfl mL oM (fun v' eD => ?_)
     refine gT 2 rfl ?_
     rintro ⟨ya, ym, yc, rfl⟩
     refine wz.a.c.b.Ah.g.BN.z ?_
     refine aG 3 rfl rfl rfl (zd g3 l hb lv bY b s6 SH [124]) ?_
     rintro v g4 r' ⟨rfl, rfl, rfl⟩ _
     cases s6 with
     | bad j' p' =>
      obtain ⟨h1, h2⟩ := m4
      refine wz.d.D.m.U.C.t.b.a.z ?_
      refine bg (fun g5 pO wh => ?_)
      exact hK (.bad j' p', acc ++ [⟨posOf l j, cn, fs⟩], .slice ya ym yc, g5) _ ⟨ab.le_trans k1 (ab.le_trans m1 pO), ⟨_, by rw [List.length_append]; exact wh, rS pO rT⟩, h1, h2⟩ ⟨rfl, rfl, rfl, trivial⟩
     | ak k =>
      obtain ⟨h1, iW, h2⟩ := m4
      have hp : dZ l k [124] = bB l k [124] := lZ bI dC k
      rw [show RS.fV l [124] (.ak k) = bB l k [124] from hp]
      unfold vY at h2
      cases hk : bB l k [124] with
      | true =>
       have hlt := cF hk
       rw [hk] at h2
       simp only [if_true] at h2
       rw [(kN (hp.trans hk)).1]
       refine wz.d.y.j.o.b.a.z ?_
       refine aM (.ak (k + 1), acc ++ [⟨posOf l j, cn, fs⟩], .slice ya ym yc, _, g4) ⟨ab.le_trans k1 m1, ⟨_, _, _, rfl⟩, rT, ⟨hlt, by simp only [List.length_append, List.length_cons, List.length_nil]; omega, h2⟩, by simp only [List.length_append, List.length_cons, List.length_nil]; omega⟩ (by simp only [RS.left]; omega) ⟨rfl, rfl, rfl, trivial⟩ rfl ?_
       simp [dO]
      | false =>
       rw [hk] at h2
       simp only [Bool.false_eq_true, if_false] at h2
       rw [(lY (hp.trans hk)).1]
       refine wz.d.D.m.U.C.t.b.a.z ?_
       refine bg (fun g5 pO wh => ?_)
       exact hK (.ak k, acc ++ [⟨posOf l j, cn, fs⟩], .slice ya ym yc, g5) _ ⟨ab.le_trans k1 (ab.le_trans m1 pO), ⟨_, by rw [List.length_append]; exact wh, rS pO rT⟩, h1, h2⟩ ⟨rfl, rfl, rfl, trivial⟩
    ·intro K2 jn
     refine wz.AD.p.z ?_
     refine aX (ι := RS × List Ty × Value × List Value × ab) (fun p => [(0, ptr b 0), (2, ptr b2 0), (3, ptr b3 0), (4, ptr b4 0)]) (fun p => p.2.2.2.2)
      (fun p => [.row 41 5 p.2.2.1 p.2.1.length p.2.2.2.1, .ae b4 62 [.int .i64 (posOf l j), str cn, p.2.2.1], .row 62 3 (.slice ca cm cc) acc.length xc, .ae b3 60 [.int .i64 (posOf l i), str (s1.text l 2), .slice va vm vc, .slice ca cm cc], .ae b2 60 [.int .i64 0, str [], .slice none 0 0, .slice none 0 0], ey b lv p.1])
      (fun p => ab.le fj p.2.2.2.2 ∧ (∃ a m c, p.2.2.1 = .slice a m c) ∧ aV p.2.2.2.2 p.2.1 p.2.2.2.1 ∧ vZ l R acc (posOf l j) cn acc.length p.2.1 p.1 ∧ p.2.1.length ≤ l.length ∧ (∀ k, p.1 = .ak k → j < k))
      (fun p => p.1.left l) (s5, [], .slice none 0 0, [], fj) ⟨ab.le_refl _, ⟨_, _, _, rfl⟩, cQ _, nO, sM, fun k hk => by have := wg k hk; omega⟩ ⟨rfl, rfl, rfl, rfl, trivial⟩ rfl rfl ?_
     rintro ⟨s6, fs, sf, xf, g3⟩ ⟨m1, ⟨fa, fm, fc, m2⟩, m3, m4, m5, m6⟩
     simp only at m1 m2 m3 m4 m5 m6
     subst m2
     have bY := bj.mono m1
     try dsimp only
     cases s6 with
     | bad j' p' =>
      obtain ⟨h1, h2⟩ := m4
      refine wz.a.c.e.z ?_
      refine eo 5 rfl rfl rfl (ze g3 l lv bY b (.bad j' p')) ?_
      refine wz.d.D.m.m.C.o.b.z ?_
      refine bg (fun g4 eW nP => ?_)
      exact jn (.bad j' p', fs, .slice fa fm fc, g4) _ ⟨ab.le_trans m1 eW, ⟨xf, nP, m3.mono eW⟩, h1, h2⟩ ⟨rfl, rfl, rfl, rfl, trivial⟩
     | ak k =>
      obtain ⟨h1, iW, h2⟩ := m4
      have fK := m6 k rfl
      rw [nQ] at h2
      refine wz.a.c.e.z ?_
      refine eo 5 rfl rfl rfl (ze g3 l lv bY b (.ak k)) ?_
      rw [SE bI k]
      cases bG : gH l k with
      | false =>
       rw [bG] at h2
       simp only [Bool.false_eq_true, if_false] at h2
       refine wz.d.D.m.m.C.o.b.z ?_
       refine bg (fun g4 eW nP => ?_)
       exact jn (.ak k, fs, .slice fa fm fc, g4) _ ⟨ab.le_trans m1 eW, ⟨xf, nP, m3.mono eW⟩, h1, fK, h2⟩ ⟨rfl, rfl, rfl, rfl, trivial⟩
      | true =>
       rw [bG] at h2
       simp only [if_true] at h2
       refine wz.p.d.j.t.b.z ?_
       refine fQ 6 [5, 0] mixed kR (fun hG => ?_)
       refine wz.Ar.z ?_; refine ⟨_, (aI rfl), ?_⟩; refine wz.Ax.z ?_; refine ⟨_, (a7 0 rfl rfl rfl), ?_⟩; refine wz.Ay.z ?_; refine ⟨_, (ag rfl), ?_⟩
       refine wz.BM.z ?_
       refine aG 5 rfl rfl rfl (SI hb bI g3 lv b k bY h1) ?_
       rintro w g4 r' hw aR
       have uv : ∃ (x : Ty) (s7 : RS), aQ g4 w x ∧ r' = ey b lv s7 ∧ vZ l R acc (posOf l j) cn acc.length (fs ++ [x]) s7 ∧ (∀ k', s7 = .ak k' → k < k') := by
        cases hq : a_ l .atom k with
        | error p =>
         rw [hq] at hw h2
         obtain ⟨⟨x, hx⟩, j', dr, rfl⟩ := hw
         exact ⟨x, .bad j' p, hx, rfl, ⟨dr, h2⟩, fun k' h => by cases h⟩
        | ok q =>
         obtain ⟨x, k'⟩ := q
         rw [hq] at hw h2
         obtain ⟨hx, rfl, h3, h4⟩ := hw
         simp only at h2
         rw [if_pos h3] at h2
         exact ⟨x, .ak k', hx, rfl, ⟨h4, by simp only [List.length_append, List.length_cons, List.length_nil]; omega, h2⟩, fun SJ h => by cases h; exact h3⟩
       obtain ⟨x, s7, hx, rfl, wj, rU⟩ := uv
       obtain ⟨a2, SK, c2, rfl, gZ⟩ := hx.bA
       refine wz.By.f.b.z ?_
       refine bu rfl rfl rL rL rL rL rL (fun fX => ?_)
       refine wz.Bn.f.b.z ?_
       refine cV 1 0 rfl rfl rfl rfl rfl rL rL rfl mL oM (fun v' eD => ?_)
       refine gT 1 rfl ?_
       rintro ⟨ya, ym, yc, rfl⟩
       refine wz.d.y.N.Ah.g.BX.Am.f.b.z ?_
       refine aM (s7, fs ++ [x], .slice ya ym yc, xf ++ aH x (.slice a2 SK c2), g4) ⟨ab.le_trans m1 aR, ⟨_, _, _, rfl⟩, aV.snoc gZ (m3.mono aR), wj, ?_, fun k' h => Nat.lt_trans fK (rU k' h)⟩ ?_ ⟨rfl, rfl, rfl, rfl, trivial⟩ rfl ?_
       ·simp only [List.length_append, List.length_cons, List.length_nil]; omega
       ·cases s7 with
        | bad j' p => simp only [RS.left]; omega
        | ak k' =>
         have := rU k' rfl
         have h9 : k' ≤ l.length := wj.1
         simp only [RS.left]; omega
       ·simp [aH, dO]
 ·intro K hK
  refine wz.BG.p.z ?_
  refine aX (ι := RS × List Bytes × Value) (fun p => [(0, ptr b 0), (2, ptr b2 0), (3, ptr b3 0)]) (fun _ => g0)
   (fun p => [.row 9 1 p.2.2 p.2.1.length (p.2.1.map str), .ae b3 60 [.int .i64 (posOf l i), str (s1.text l 2), p.2.2, .slice none 0 0], .ae b2 60 [.int .i64 0, str [], .slice none 0 0, .slice none 0 0], ey b lv p.1])
   (fun p => (∃ a m c, p.2.2 = .slice a m c) ∧ kO l (s1.word l 2) p.1 p.2.1) (fun p => p.1.left l) (s1.word l 2, [], .slice none 0 0) ⟨⟨_, _, _, rfl⟩, kO.start mr⟩ ⟨rfl, rfl, rfl, trivial⟩ rfl rfl ?_
  rintro ⟨s3, vs, vv⟩ ⟨⟨va, vm, vc, q1⟩, q2⟩
  simp only at q1 q2
  subst q1
  have uu : s3.ok l := q2.ok mr
  have nL := q2.len mr
  try dsimp only
  refine wz.a.c.e.z ?_
  refine eo 3 rfl rfl rfl (rV g0 l lv hs b s3 1) ?_
  cases hk : s3.iK l 1 with
  | false =>
   refine wz.d.D.m.m.C.o.b.z ?_
   exact hK (s3, vs, .slice va vm vc) _ ⟨⟨_, _, _, rfl⟩, q2, hk⟩ ⟨rfl, rfl, rfl, trivial⟩
  | true =>
   have EJ := q2.next hk
   have rW : (s3.word l 1).left l < s3.left l := by
    cases s3 with
    | bad j p => cases hk
    | ak j =>
     obtain ⟨_, e, hlt⟩ := mZ (show dq l j 1 = true from hk)
     rw [e]
     simp only [RS.left]; omega
   refine wz.p.d.j.t.b.z ?_
   refine fQ 6 [3, 0] mixed kR (fun hG => ?_)
   refine wz.Ar.z ?_; refine ⟨_, (aI rfl), ?_⟩; refine wz.Ax.z ?_; refine ⟨_, (a7 0 rfl rfl rfl), ?_⟩; refine wz.Ay.z ?_; refine ⟨_, (ag rfl), ?_⟩
   refine wz.BM.z ?_
   refine aG 3 rfl rfl rfl (ur g0 l hb lv hs b s3 uu 1) ?_
   rintro v g4 r' ⟨rfl, rfl, rfl⟩ _
   refine wz.By.f.b.z ?_
   refine bu rfl rfl rL rL rL rL rL (fun fX => ?_)
   refine wz.Bn.f.b.z ?_
   refine cV 1 0 rfl rfl rfl rfl rfl rL rL rfl mL oM (fun v' eD => ?_)
   refine gT 1 rfl ?_
   rintro ⟨ya, ym, yc, rfl⟩
   refine wz.Bb.d.y.N.Bj.g.Am.f.b.z ?_
   refine aM (s3.word l 1, vs ++ [s3.text l 1], .slice ya ym yc) ⟨⟨_, _, _, rfl⟩, EJ⟩ rW ⟨rfl, rfl, rfl, trivial⟩ rfl ?_
   simp [dO]
def nS (e : Ex) (s1 s2 s3 : Value) : List Value := [.int .i64 e.kind, .int .i64 e.pos, str e.name, .int .i64 e.num, s1, s2, .int .i64 e.ty.kind, str e.ty.name, .int .i64 e.ty.id, .int .i64 e.ty.home, s3]
theorem SL {l : List Tok} {j : Nat} (h : j < l.length) : mu l j = kS l[j] := by unfold mu; rw [eB h]
def EK (l : List Tok) (pos : Int) (r : Bool) (n : Bytes) (k : Nat) : Except Int (Bi × Nat) :=
 if bB l k [58] then match a_ l .whole (k + 1) with
  | .error p => .error p
  | .ok (t, k') => nb l (fun e => ⟨pos, r, n, true, t, e⟩) k'
 else nb l (fun e => ⟨pos, r, n, false, bX, e⟩) k
theorem JK (l : List Tok) (pos : Int) (r : Bool) (j : Nat) : pP l pos r j = match nameAt l j 1 with
 | none => .error (bH l j)
 | some n => EK l pos r n (j + 1) := rfl
def SM (l : List Tok) (i : Nat) (R : Except Int (Bi × Nat)) (pos : Int) (r : Bool) (n : Bytes) : RS → Prop
 | .ak k => k ≤ l.length ∧ i < k ∧ R = EK l pos r n k
 | .bad j p => j ≤ l.length ∧ R = .error p
theorem SN {l : List Tok} (bI : KW l) {i : Nat} (hi : i ≤ l.length) {s1 s2 s3 : RS} (h1 : s1 = RS.fi l dI (.ak i)) (h2 : s2 = s1.skip l fy) (h3 : s3 = s2.word l 1) :
  SM l i (jo l i) (posOf l i) (s1.fV l fy) (s2.text l 1) s3 := by
 have hp : dZ l i dI = cA l i dI := pM bI dC i
 have hr : dZ l (i + 1) fy = cA l (i + 1) fy := pM bI dC (i + 1)
 unfold jo
 cases hw : cA l i dI with
 | false =>
  rw [(lY (hp.trans hw)).2] at h1
  subst h1; subst h2; subst h3
  exact ⟨hi, rfl⟩
 | true =>
  have hlt := cF hw
  rw [(kN (hp.trans hw)).2.1] at h1
  subst h1
  have e0 : RS.fV l fy (.ak (i + 1)) = cA l (i + 1) fy := hr
  rw [e0]
  cases jq : cA l (i + 1) fy with
  | false =>
   rw [(lY (hr.trans jq)).1] at h2
   subst h2
   simp only [if_true, Bool.false_eq_true, if_false, JK]
   cases hk : dq l (i + 1) 1 with
   | false =>
    obtain ⟨e1, e2, e3⟩ := pL hk
    rw [e2] at h3
    subst h3
    rw [e1]
    exact ⟨hlt, rfl⟩
   | true =>
    obtain ⟨e1, e2, dk⟩ := mZ hk
    rw [e2] at h3
    subst h3
    rw [e1]
    exact ⟨dk, oM, rfl⟩
  | true =>
   have af := cF jq
   rw [(kN (hr.trans jq)).1] at h2
   subst h2
   simp only [if_true, JK]
   cases hk : dq l (i + 1 + 1) 1 with
   | false =>
    obtain ⟨e1, e2, e3⟩ := pL hk
    rw [e2] at h3
    subst h3
    have mv : nameAt l (i + 2) 1 = none := e1
    rw [mv]
    exact ⟨af, rfl⟩
   | true =>
    obtain ⟨e1, e2, dk⟩ := mZ hk
    rw [e2] at h3
    subst h3
    have mv : nameAt l (i + 2) 1 = _ := e1
    rw [mv]
    exact ⟨dk, oM, rfl⟩
def EL (l : List Tok) (i : Nat) (R : Except Int (Bi × Nat)) (pos : Int) (r : Bool) (n : Bytes) (hs : Bool) (t : Ty) : RS → Prop
 | .ak k => k ≤ l.length ∧ i < k ∧ R = nb l (fun e => ⟨pos, r, n, hs, t, e⟩) k
 | .bad j p => j ≤ l.length ∧ R = .error p
def EM (l : List Tok) (i : Nat) (R : Except Int (Bi × Nat)) (x : Bi) : RS → Prop
 | .ak k => k ≤ l.length ∧ i < k ∧ R = if bB l k [59] then .ok (x, k + 1) else .error (bH l k)
 | .bad j p => j ≤ l.length ∧ R = .error p
def SO (l : List Tok) (i : Nat) (R : Except Int (Bi × Nat)) (pos : Int) (r : Bool) (n : Bytes) (hs : Bool) (t : Ty) : RS → Prop
 | .ak k => k ≤ l.length ∧ i < k ∧ R = match bt l .expr k with
   | .error p => .error p
   | .ok (e, m) => if bB l m [59] then .ok (⟨pos, r, n, hs, t, e⟩, m + 1) else .error (bH l m)
 | .bad j p => j ≤ l.length ∧ R = .error p
def JL (l : List Tok) (i : Nat) (x : Bi) (s : RS) : Except Int (Bi × Nat) → Prop
 | .ok (y, j) => y = x ∧ s = .ak j ∧ i < j ∧ j ≤ l.length
 | .error p => ∃ j, j ≤ l.length ∧ s = .bad j p
theorem EL.eq {l : List Tok} (bI : KW l) {i : Nat} {R : Except Int (Bi × Nat)} {pos : Int} {r : Bool} {n : Bytes} {hs : Bool} {t : Ty} {s : RS} (h : EL l i R pos r n hs t s) :
  SO l i R pos r n hs t (s.fi l [61]) := by
 cases s with
 | bad j p => exact h
 | ak k =>
  obtain ⟨h1, h2, h3⟩ := h
  have hp : dZ l k [61] = bB l k [61] := lZ bI dC k
  unfold nb at h3
  cases hw : bB l k [61] with
  | false =>
   rw [(lY (hp.trans hw)).2]
   rw [hw] at h3
   exact ⟨h1, h3⟩
  | true =>
   rw [(kN (hp.trans hw)).2.1]
   rw [hw] at h3
   exact ⟨cF hw, oM, h3⟩
theorem EM.fin {l : List Tok} (bI : KW l) {i : Nat} {R : Except Int (Bi × Nat)} {x : Bi} {s : RS} (h : EM l i R x s) :
  JL l i x (s.fi l [59]) R := by
 cases s with
 | bad j p =>
  obtain ⟨h1, h2⟩ := h
  subst h2
  exact ⟨j, h1, rfl⟩
 | ak k =>
  obtain ⟨h1, h2, h3⟩ := h
  have hp : dZ l k [59] = bB l k [59] := lZ bI dC k
  cases hw : bB l k [59] with
  | false =>
   rw [hw] at h3
   simp only [Bool.false_eq_true, if_false] at h3
   subst h3
   exact ⟨k, h1, (lY (hp.trans hw)).2⟩
  | true =>
   rw [hw] at h3
   simp only [if_true] at h3
   subst h3
   exact ⟨rfl, (kN (hp.trans hw)).2.1, oM, cF hw⟩
def oU (pos : Int) (r : Bool) (n : Bytes) (hs : Bool) (tc ec : List Value) : List Value := [.int .i64 pos, .bool r, str n, .bool hs] ++ (tc ++ ec)
def rX : List Value := [.int .i64 0, str [], .int .i64 0, .int .i64 0, .slice none 0 0]
theorem JM (g : ab) : bx g bX rX := bx.mk (t := bX) (cP g 5) (cQ g)
theorem SP (g : ab) : cJ g pQ dK := cJ.mk (e := pQ) (cP g 11) (zf g) (cP g 14) (qE g) (bx.mk (t := bX) (cP g 5) (cQ g))
end Go.Proofs.YtlnjfkfojkgiiaaGreatDoor
namespace Go.Th
mutual
def cu : Ty → Nat
 | .mk _ _ _ _ ta => eX ta
def eX : List Ty → Nat
 | [] => 0
 | a :: r => max (1 + cu a) (eX r)
end
theorem wk : ∀ (x y : List Ty), eX (x ++ y) = max (eX x) (eX y)
 | [], y => by simp [eX]
 | a :: x, y => by simp only [List.cons_append, eX, wk x y]; omega
theorem uw (t : Ty) : cu t = eX t.args := by cases t; simp only [cu, Ty.args]
theorem zg : ∀ {l : List Ty} {a : Ty}, a ∈ l → 1 + cu a ≤ eX l
 | b :: r, a, h => by
  simp only [eX]
  rcases List.mem_cons.1 h with rfl | h
  ·omega
  ·have := zg h; omega
theorem JN {l : List Ty} {i : Nat} (h : i < l.length) : eX (l.take (i + 1)) = max (eX (l.take i)) (1 + cu l[i]) := by
 rw [List.take_succ_eq_append_getElem h, wk]
 simp [eX]
end Go.Th
namespace Go.Proofs.YtlnjfkfojkgiiaaGreatDoor
theorem JO (g : ab) : ∀ (N : Nat) (t : Ty) (v : Value), SizeOf.sizeOf t < N → cu t ≤ 1000000 → aQ g v t → Pure prog 22 [v] g (.int .i64 (cu t))
 | 0, _, _, h, _, _ => by omega
 | N + 1, t, v, h, hd, hv => by
  have ih := JO g N
  obtain ⟨sl, rfl, h1⟩ := hv
  obtain ⟨xs, aJ, eE⟩ := h1.args
  obtain ⟨a, c, rfl⟩ := aU aJ
  have hle := aJ.le
  rw [uw] at hd ⊢
  refine aw func22 rfl ntmps22 rfl fun E hE => ?_
  refine aS ?_
  refine aP rfl rfl rfl (fun b1 => ?_)
  refine wz.p.b.a.c.e.b.a.c.b.a.z ?_
  refine aX (ι := Nat) (fun i => [(1, ptr b1 0), (3, .int .i64 (eX (t.args.take i))), (4, .int .i64 i)]) (fun _ => g) (fun _ => [.ae b1 41 (aH t (.slice a t.args.length c))]) (fun i => i ≤ t.args.length) (fun i => t.args.length - i) 0 (Nat.zero_le _) ⟨rfl, rfl, rfl, trivial⟩ rfl rfl ?_
  intro i hi
  refine wz.b.a.A.v.g.a.c.e.z ?_
  refine an rfl (fun hlt => ?_) (fun hlt => ?_)
  ·have af : i < t.args.length := by omega
   obtain ⟨b, off, cap, aq, hx⟩ := aJ.held af
   cases aq
   obtain ⟨cS, h2, hr⟩ := eE.rd (own := [.ae b1 41 (aH t (.slice (some ⟨b, off, none⟩) t.args.length c))]) hx af
   have hm := zg (List.getElem_mem af)
   have bN : SizeOf.sizeOf t.args[i] < N := by
    have := List.sizeOf_lt_of_mem (List.getElem_mem af)
    cases t with
    | mk k n i hh ta => simp only [Ty.args] at this ⊢; simp at h; omega
   have fz := JN af
   have SQ : eX (t.args.take i) ≤ eX t.args := by
    have := wk (t.args.take i) (t.args.drop i)
    rw [List.take_append_drop] at this
    omega
   refine wz.M.a.v.g.a.r.p.e.d.j.z ?_; refine eY rfl rfl hr rfl ?_
   refine aO rfl rfl (ih t.args[i] _ bN oM ⟨cS, rfl, h2⟩) ?_
   refine wz.b.a.E.a.r.d.y.N.a.BY.E.z ?_
   refine aM (i + 1) oM oM ⟨rfl, ?_, rfl, trivial⟩ rfl rfl
   rw [fz]
   show _ = some (Value.int .i64 ((max (eX (t.args.take i)) (1 + cu t.args[i]) : Nat) : Int))
   refine qF rfl ?_
   omega
  ·have dw : i = t.args.length := by omega
   subst dw
   refine wz.i.b.a.a.c.d.D.m.m.C.z ?_
   exact ao [] rfl rfl sM ⟨by rw [List.take_length], rfl, rfl⟩
theorem zh (g : ab) (t : Ty) (v : Value) (hd : cu t ≤ 1000000) (hv : aQ g v t) : Pure prog 22 [v] g (.int .i64 (cu t)) := JO g _ t v (Nat.lt_succ_self _) hd hv
def SR (c : Cn) : Prop := c.fields.length ≤ 4 ∧ ∀ t ∈ c.fields, cu t ≤ 40
def zi (d : Da) : Prop := d.params.length ≤ 4 ∧ d.cons.length ≤ 6 ∧ ∀ c ∈ d.cons, SR c
theorem dt {α : Type} {R : α → List Value → Prop} {g : ab} {sz : Nat} (hR : ∀ a c, R a c → c.length = sz) {l : List α} {xs : List Value} {b off : Nat} (ht : aL R l xs) (hx : ∀ k x, xs[k]? = some x → g b (off + k) = some x) {i : Nat} (h : i < l.length) :
  ∃ c, R l[i] c ∧ ∀ own, Rd g own b (off + i * sz) c := by
 obtain ⟨c, h1, h2⟩ := aL.get hR ht i h
 exact ⟨c, h1, fun own => nc fun j x hj => by rw [Nat.add_assoc]; exact hx _ _ (h2 j x hj)⟩
theorem eZ {g : ab} {ta : List Ty} {xs : List Value} {b off : Nat} (ht : aV g ta xs) (hx : ∀ k x, xs[k]? = some x → g b (off + k) = some x) {i : Nat} (h : i < ta.length) :
  ∃ sl, bx g ta[i] (aH ta[i] sl) ∧ ∀ own, Rd g own b (off + i * 5) (aH ta[i] sl) := by
 obtain ⟨c, h1, h2⟩ := ht.get i h
 obtain ⟨sl, rfl⟩ := h1.cells
 exact ⟨sl, h1, fun own => nc fun j x hj => by rw [Nat.add_assoc]; exact hx _ _ (h2 j x hj)⟩
theorem kq.form {g : ab} {c : Cn} {cs : List Value} (h : kq g c cs) : ∃ (a : Option Addr) (k : Nat) (xf : List Value), cs = [.int .i64 c.pos, str c.name, .slice a c.fields.length k] ∧ au g 5 (.slice a c.fields.length k) c.fields.length xf ∧ aV g c.fields xf := by
 obtain ⟨sf, xf, rfl, h2, h3⟩ := h
 obtain ⟨a, k, rfl⟩ := aU h2
 exact ⟨a, k, xf, rfl, h2, h3⟩
theorem SS (g : ab) (p : Pg) (v : Value) (hv : ll g v p) (hb : p.binds = []) (hn : p.al.length ≤ 8) (bW : ∀ d ∈ p.al, zi d) : Pure prog 8 [v] g (.agg #[.int .i64 0, .int .i64 0]) := by
 obtain ⟨cs, rfl, sd, xd, sb, xb, rfl, h1, h2, h3, h4⟩ := hv
 rw [hb] at h3
 obtain ⟨da, dc, rfl⟩ := aU h1
 obtain ⟨ba, bc, rfl⟩ := aU h3
 refine aw func8 rfl ntmps8 rfl fun E hE => ?_
 refine aS ?_
 refine aP rfl rfl rfl (fun b1 => ?_)
 refine aj rfl (fun b2 => ?_)
 refine wz.p.b.a.c.e.b.z ?_
 refine aX (ι := Nat) (fun i => [(1, ptr b1 0), (2, ptr b2 0), (3, .int .i64 i)]) (fun _ => g) (fun _ => [.ae b2 33 [.int .i64 0, .int .i64 0], .ae b1 28 [.slice da p.al.length dc, .slice ba 0 bc]]) (fun i => i ≤ p.al.length) (fun i => p.al.length - i) 0 (Nat.zero_le _) ⟨rfl, rfl, rfl, trivial⟩ rfl rfl ?_
 intro i hi
 refine wz.b.a.A.I.g.a.c.e.z ?_
 refine an rfl (fun hlt => ?_) (fun hlt => ?_)
 ·have af : i < p.al.length := by omega
  obtain ⟨o1, o2, o3⟩ := bW _ (List.getElem_mem af)
  obtain ⟨b, off, cap, aq, hx⟩ := h1.held af
  cases aq
  obtain ⟨c, e1, hr⟩ := dt (fun _ _ h => h.one.1) h2 hx af
  obtain ⟨a1, c1, a2, c2, xc, rfl, e2, e3, e4⟩ := e1.form
  refine wz.An.M.a.I.g.c.p.e.d.j.z ?_
  refine aj rfl (fun b4 => ?_)
  refine wz.a.a.a.c.e.b.q.z ?_
  refine bw rfl rfl (fun h => absurd h oM) (fun _ => ?_)
  refine wz.a.a.u.A.k.v.k.g.k.z ?_
  refine bw rfl rfl (fun h => absurd h oM) (fun _ => ?_)
  refine wz.b.a.u.A.k.v.k.g.k.z ?_
  refine an rfl (fun h => absurd h oM) (fun _ => ?_)
  refine wz.p.b.a.c.d.j.z ?_
  refine aX (ι := Nat) (fun k => [(1, ptr b1 0), (2, ptr b2 0), (3, .int .i64 i), (4, ptr b4 0), (5, .int .i64 k)]) (fun _ => g) (fun _ => [.ae b4 60 [.int .i64 p.al[i].pos, str p.al[i].name, .slice a1 p.al[i].params.length c1, .slice a2 p.al[i].cons.length c2], .ae b2 33 [.int .i64 0, .int .i64 0], .ae b1 28 [.slice (some ⟨b, off, none⟩) p.al.length dc, .slice ba 0 bc]]) (fun k => k ≤ p.al[i].cons.length) (fun k => p.al[i].cons.length - k) 0 (Nat.zero_le _) ⟨rfl, rfl, rfl, rfl, rfl, trivial⟩ rfl rfl ?_
  intro k hk
  refine wz.b.a.A.v.g.a.c.e.z ?_
  refine an rfl (fun dk => ?_) (fun dk => ?_)
  ·have fk : k < p.al[i].cons.length := by omega
   obtain ⟨q1, q2⟩ := o3 _ (List.getElem_mem fk)
   obtain ⟨b', fo, jZ, fq, db⟩ := e3.held fk
   cases fq
   obtain ⟨cc, f1, dA⟩ := dt (fun _ _ h => h.one.1) e4 db fk
   obtain ⟨a3, c3, xf, rfl, f2, f3⟩ := f1.form
   refine wz.g.M.a.v.g.c.p.e.d.j.z ?_
   refine cj rfl rfl ((dA _).du 2 rfl) ?_
   refine wz.b.a.A.z ?_
   refine an rfl (fun h => absurd h oM) (fun _ => ?_)
   refine wz.b.a.E.a.r.d.y.j.z ?_
   exact aM (k + 1) oM oM ⟨rfl, rfl, rfl, rfl, rfl, trivial⟩ rfl rfl
  ·refine wz.Bi.b.a.E.a.r.d.y.D.m.m.C.z ?_
   exact aM (i + 1) oM oM ⟨rfl, rfl, rfl, trivial⟩ rfl rfl
 ·refine wz.p.b.a.c.e.d.j.o.b.a.A.I.g.c.e.d.D.m.m.C.z ?_
  refine aX (ι := Nat) (fun i => [(1, ptr b1 0), (2, ptr b2 0), (6, .int .i64 i)]) (fun _ => g) (fun _ => [.ae b2 33 [.int .i64 0, .int .i64 0], .ae b1 28 [.slice da p.al.length dc, .slice ba 0 bc]]) (fun i => i ≤ p.al.length) (fun i => p.al.length - i) 0 (Nat.zero_le _) ⟨rfl, rfl, rfl, trivial⟩ rfl rfl ?_
  intro i hi
  refine wz.b.a.A.I.g.a.c.e.z ?_
  refine an rfl (fun hlt => ?_) (fun hlt => ?_)
  ·have af : i < p.al.length := by omega
   obtain ⟨o1, o2, o3⟩ := bW _ (List.getElem_mem af)
   obtain ⟨b, off, cap, aq, hx⟩ := h1.held af
   cases aq
   obtain ⟨c, e1, hr⟩ := dt (fun _ _ h => h.one.1) h2 hx af
   obtain ⟨a1, c1, a2, c2, xc, rfl, e2, e3, e4⟩ := e1.form
   refine wz.An.M.a.I.g.c.p.e.d.j.z ?_
   refine aj rfl (fun b7 => ?_)
   refine wz.p.b.a.c.b.q.z ?_
   refine aX (ι := Nat) (fun k => [(1, ptr b1 0), (2, ptr b2 0), (6, .int .i64 i), (7, ptr b7 0), (8, .int .i64 k)]) (fun _ => g) (fun _ => [.ae b7 60 [.int .i64 p.al[i].pos, str p.al[i].name, .slice a1 p.al[i].params.length c1, .slice a2 p.al[i].cons.length c2], .ae b2 33 [.int .i64 0, .int .i64 0], .ae b1 28 [.slice (some ⟨b, off, none⟩) p.al.length dc, .slice ba 0 bc]]) (fun k => k ≤ p.al[i].cons.length) (fun k => p.al[i].cons.length - k) 0 (Nat.zero_le _) ⟨rfl, rfl, rfl, rfl, rfl, trivial⟩ rfl rfl ?_
   intro k hk
   refine wz.b.a.A.v.g.a.c.e.z ?_
   refine an rfl (fun dk => ?_) (fun dk => ?_)
   ·have fk : k < p.al[i].cons.length := by omega
    obtain ⟨q1, q2⟩ := o3 _ (List.getElem_mem fk)
    obtain ⟨b', fo, jZ, fq, db⟩ := e3.held fk
    cases fq
    obtain ⟨cc, f1, dA⟩ := dt (fun _ _ h => h.one.1) e4 db fk
    obtain ⟨a3, c3, xf, rfl, f2, f3⟩ := f1.form
    refine wz.p.b.a.c.p.e.d.j.z ?_
    refine aX (ι := Nat) (fun j => [(1, ptr b1 0), (2, ptr b2 0), (6, .int .i64 i), (7, ptr b7 0), (8, .int .i64 k), (9, .int .i64 j)]) (fun _ => g) (fun _ => [.ae b7 60 [.int .i64 p.al[i].pos, str p.al[i].name, .slice a1 p.al[i].params.length c1, .slice (some ⟨b', fo, none⟩) p.al[i].cons.length c2], .ae b2 33 [.int .i64 0, .int .i64 0], .ae b1 28 [.slice (some ⟨b, off, none⟩) p.al.length dc, .slice ba 0 bc]]) (fun j => j ≤ p.al[i].cons[k].fields.length) (fun j => p.al[i].cons[k].fields.length - j) 0 (Nat.zero_le _) ⟨rfl, rfl, rfl, rfl, rfl, rfl, trivial⟩ rfl rfl ?_
    intro j hj
    refine wz.g.M.a.v.g.a.c.e.z ?_
    refine cj rfl rfl ((dA _).du 2 rfl) ?_
    refine wz.b.a.A.z ?_
    refine an rfl (fun iM => ?_) (fun iM => ?_)
    ·have qG : j < p.al[i].cons[k].fields.length := by omega
     have JP := q2 _ (List.getElem_mem qG)
     obtain ⟨SU, SV, SW, EN, EO⟩ := f2.held qG
     cases EN
     obtain ⟨cS, t2, EP⟩ := eZ f3 EO qG
     refine wz.g.M.a.v.g.c.p.e.d.j.z ?_
     refine cj rfl rfl ((dA _).du 2 rfl) ?_
     refine wz.M.a.z ?_; refine eY rfl rfl (EP _) rfl ?_
     refine aO rfl rfl (zh g _ _ oM ⟨cS, rfl, t2⟩) ?_
     refine wz.b.a.z ?_
     refine an rfl (fun h => absurd h oM) (fun _ => ?_)
     refine wz.b.a.E.a.r.d.y.j.z ?_
     exact aM (j + 1) oM oM ⟨rfl, rfl, rfl, rfl, rfl, rfl, trivial⟩ rfl rfl
    ·refine wz.b.a.E.a.r.d.y.D.m.m.C.z ?_
     exact aM (k + 1) oM oM ⟨rfl, rfl, rfl, rfl, rfl, trivial⟩ rfl rfl
   ·refine wz.Bi.b.a.E.a.r.d.y.D.m.m.C.z ?_
    exact aM (i + 1) oM oM ⟨rfl, rfl, rfl, trivial⟩ rfl rfl
  ·refine wz.p.b.a.c.e.d.D.m.m.C.z ?_
   refine aX (ι := Unit) (fun _ => [(1, ptr b1 0), (2, ptr b2 0), (10, .int .i64 0)]) (fun _ => g) (fun _ => [.ae b2 33 [.int .i64 0, .int .i64 0], .ae b1 28 [.slice da p.al.length dc, .slice ba 0 bc]]) (fun _ => True) (fun _ => 0) () trivial ⟨rfl, rfl, rfl, trivial⟩ rfl rfl ?_
   rintro _ -
   refine wz.i.b.q.K.c.d.D.m.m.C.o.b.a.A.I.g.a.c.e.z ?_
   exact bp [] rfl (ay 0 rfl rfl rL) sM ⟨rfl, rfl, rfl⟩
end Go.Proofs.YtlnjfkfojkgiiaaGreatDoor
namespace Go.Th
theorem JQ : ∀ l : List Ex, ku l = l.map bV
 | [] => rfl
 | a :: r => by simp [ku, JQ r]
theorem JR : ∀ l : List Ar, gB l = l.map jJ
 | [] => rfl
 | a :: r => by simp [gB, JR r]
theorem SX {a b : Ex} (h : bV a = bV b) : a.kind = b.kind ∧ a.name = b.name ∧ a.num = b.num ∧ a.ty = b.ty ∧ a.kids.length = b.kids.length ∧ a.aK.length = b.aK.length ∧
  (∀ i (h : i < a.aK.length) (h' : i < b.aK.length), a.aK[i].bQ = b.aK[i].bQ ∧ a.aK[i].vars = b.aK[i].vars) ∧ (aY a).map bV = (aY b).map bV := by
 cases a with
 | mk k p n m ks ra t =>
  cases b with
  | mk k' p' n' m' ks' JS t' =>
   simp only [bV, Ex.mk.injEq, JQ, JR] at h
   obtain ⟨h1, _, h2, h3, h4, h5, h6⟩ := h
   refine ⟨h1, h2, h3, h6, by simpa [Ex.kids] using congrArg List.length h4, by simpa [Ex.aK] using congrArg List.length h5, fun i hi dR => ?_, ?_⟩
   ·simp only [Ex.aK] at hi dR ⊢
    have : (ra.map jJ)[i]? = (JS.map jJ)[i]? := by rw [h5]
    simp only [List.getElem?_map, List.getElem?_eq_getElem hi, List.getElem?_eq_getElem dR, Option.map_some, Option.some.injEq] at this
    generalize ra[i] = x at this
    generalize JS[i] = y at this
    cases x; cases y
    simp only [jJ, Ar.mk.injEq] at this
    exact ⟨this.2.1, this.2.2.1⟩
   ·simp only [aY, Ex.kids, Ex.aK, List.map_append, List.map_map, h4]
    congr 1
    have : ∀ l : List Ar, l.map (bV ∘ Ar.body) = (l.map jJ).map Ar.body := by
     intro l
     rw [List.map_map]
     refine List.map_congr_left fun a _ => ?_
     cases a; simp [jJ, Ar.body]
    rw [this, this, h5]
theorem ET {α : Type} {l : List α} {i : Nat} (h : i < l.length) : l.take (i + 1) = l.take i ++ [l[i]] := List.take_succ_eq_append_getElem h
end Go.Th
namespace Go.Proofs.YtlnjfkfojkgiiaaGreatDoor
theorem EU {g : ab} {l : List Ex} {xs cs : List Value} {a : Ex} (h : dp g l xs) (h1 : cJ g a cs) : dp g (l ++ [a]) (xs ++ cs) := mw.2 (aL.snoc h1 (mw.1 h))
theorem zj {g : ab} {l : List Ex} {xs : List Value} (h : dp g l xs) : xs.length = l.length * 11 ∧ ∀ u ∈ xs, fx u = true := aL.one (fun _ _ h => h.one) (mw.1 h)
theorem zn {g : ab} {ra : List Ar} {xa : List Value} {b off : Nat} {own : List aA} (ht : fw g ra xa) (hx : ∀ k x, xa[k]? = some x → g b (off + k) = some x) {i : Nat} (h : i < ra.length) :
  ∃ sv bc, au g 1 sv ra[i].vars.length (ra[i].vars.map str) ∧ cJ g ra[i].body bc ∧ Rd g own b (off + i * 14) (.int .i64 ra[i].pos :: str ra[i].bQ :: sv :: bc) := by
 obtain ⟨c, h1, h2⟩ := aL.get (fun _ _ h => h.one.1) (nK.1 ht) i h
 generalize ra[i] = a at h1 ⊢
 cases a with
 | mk p cn vs e =>
  unfold gG at h1
  obtain ⟨fG, bc, rfl, h3, h4⟩ := h1
  exact ⟨fG, bc, h3, h4, nc fun j x hj => by rw [Nat.add_assoc]; exact hx _ _ (h2 j x hj)⟩
theorem EV {g : ab} {ks : List Ex} {xa : List Value} {b off : Nat} {own : List aA} (ht : dp g ks xa) (hx : ∀ k x, xa[k]? = some x → g b (off + k) = some x) {i : Nat} (h : i < ks.length) :
  ∃ c, cJ g ks[i] c ∧ Rd g own b (off + i * 11) c := by
 obtain ⟨c, h1, h2⟩ := aL.get (fun _ _ h => h.one.1) (mw.1 ht) i h
 exact ⟨c, h1, nc fun j x hj => by rw [Nat.add_assoc]; exact hx _ _ (h2 j x hj)⟩
theorem cT.open {g : ab} {v : Value} {e : Ex} (h : cT g v e) : ∃ (a1 : Option Addr) (c1 : Nat) (a2 : Option Addr) (c2 : Nat) (a3 : Option Addr) (m3 c3 : Nat) (xk xa : List Value),
  v = .agg #[.int .i64 e.kind, .int .i64 e.pos, str e.name, .int .i64 e.num, .slice a1 e.kids.length c1, .slice a2 e.aK.length c2, .int .i64 e.ty.kind, str e.ty.name, .int .i64 e.ty.id, .int .i64 e.ty.home, .slice a3 m3 c3] ∧
  au g 11 (.slice a1 e.kids.length c1) e.kids.length xk ∧ dp g e.kids xk ∧ au g 14 (.slice a2 e.aK.length c2) e.aK.length xa ∧ fw g e.aK xa ∧ bx g e.ty (aH e.ty (.slice a3 m3 c3)) := by
 obtain ⟨cs, rfl, h⟩ := h
 obtain ⟨a1, m1, c1, a2, m2, c2, a3, m3, c3, xk, xa, rfl, h1, h2, h3, h4, h5⟩ := h.form
 obtain ⟨_, _, e1⟩ := aU h1
 obtain ⟨_, _, e2⟩ := aU h3
 cases e1; cases e2
 exact ⟨_, _, _, _, a3, m3, c3, xk, xa, rfl, h1, h2, h3, h4, h5⟩
theorem rY (g : ab) (v : Value) (e : Ex) (hv : cT g v e) (bN : aN e ≤ 1000000) : bK prog 51 [v] g fun w g' => ∃ xs, au g' 11 w (aY e).length xs ∧ dp g' (aY e) xs := by
 obtain ⟨a1, c1, a2, c2, a3, m3, c3, xk, xa, rfl, h1, h2, h3, h4, h5⟩ := hv.open
 have hlen := my e
 have gk : (aY e).length = e.kids.length + e.aK.length := by simp [aY]
 refine aw func51 rfl ntmps51 rfl fun E hE => ?_
 refine aS ?_
 refine aP rfl rfl rfl (fun b1 => ?_)
 refine wz.Ci.v.g.c.b.a.z ?_
 refine jr 0 rfl rfl rfl rfl h1 rL rL (zj h2).2 mL oM (fun v' _ => ?_)
 rw [Nat.zero_add]
 refine wz.p.b.a.c.e.b.a.z ?_
 refine aX (ι := Nat × Value × List Value) (fun p => [(1, ptr b1 0), (3, p.2.1), (4, .int .i64 p.1)]) (fun _ => g) (fun p => [.row 47 11 p.2.1 (e.kids.length + p.1) p.2.2, .ae b1 47 [.int .i64 e.kind, .int .i64 e.pos, str e.name, .int .i64 e.num, .slice a1 e.kids.length c1, .slice a2 e.aK.length c2, .int .i64 e.ty.kind, str e.ty.name, .int .i64 e.ty.id, .int .i64 e.ty.home, .slice a3 m3 c3]])
  (fun p => p.1 ≤ e.aK.length ∧ dp g (e.kids ++ (e.aK.take p.1).map Ar.body) p.2.2) (fun p => e.aK.length - p.1) (0, v', xk) ⟨Nat.zero_le _, by simpa using h2⟩ ⟨rfl, rfl, rfl, trivial⟩ rfl sM ?_
 rintro ⟨i, sv, xs⟩ ⟨hi, hx⟩
 simp only at hi hx
 try dsimp only
 refine wz.b.a.A.I.g.a.c.e.z ?_
 refine an rfl (fun hlt => ?_) (fun hlt => ?_)
 ·have af : i < e.aK.length := by omega
  obtain ⟨b, off, cap, aq, iX⟩ := h3.held af
  cases aq
  obtain ⟨fG, bc, _, eL, hr⟩ := zn (own := [.row 47 11 sv (e.kids.length + i) xs, .ae b1 47 [.int .i64 e.kind, .int .i64 e.pos, str e.name, .int .i64 e.num, .slice a1 e.kids.length c1, .slice (some ⟨b, off, none⟩) e.aK.length c2, .int .i64 e.ty.kind, str e.ty.name, .int .i64 e.ty.id, .int .i64 e.ty.home, .slice a3 m3 c3]]) h4 iX af
  obtain ⟨d1, n1, o1, d2, n2, o2, d3, n3, o3, yk, ya, rfl, _⟩ := eL.form
  refine wz.g.M.a.I.g.a.r.p.e.d.j.z ?_; refine eY rfl rfl hr.EW rfl ?_
  refine bu rfl rfl rL rL rL rL rL (fun zo => ?_)
  refine cV 1 0 rfl rfl rfl rfl rfl rL rL rfl mL oM (fun w' _ => ?_)
  refine wz.b.a.E.a.r.d.y.N.a.Bi.z ?_
  refine aM (i + 1, w', xs ++ [.int .i64 e.aK[i].body.kind, .int .i64 e.aK[i].body.pos, str e.aK[i].body.name, .int .i64 e.aK[i].body.num, .slice d1 n1 o1, .slice d2 n2 o2, .int .i64 e.aK[i].body.ty.kind, str e.aK[i].body.ty.name, .int .i64 e.aK[i].body.ty.id, .int .i64 e.aK[i].body.ty.home, .slice d3 n3 o3]) ⟨af, ?_⟩ uM ⟨rfl, rfl, rfl, trivial⟩ rfl ?_
  ·simp only
   rw [ET af, List.map_append, ← List.append_assoc]
   exact EU hx eL
  ·simp [dO, Nat.add_assoc]
 ·have dw : i = e.aK.length := by omega
  subst dw
  rw [List.take_length] at hx
  refine bg (fun g1 cG aJ => ?_)
  refine wz.i.b.a.a.c.d.D.m.m.C.z ?_
  exact ao [] rfl rfl sM ⟨⟨_, by rw [gk]; exact aJ, dp.mono cG _ _ hx⟩, rfl⟩
theorem JT (g : ab) (u v : Value) (ws : List Bytes) (hu : au g 1 u ws.length (ws.map str)) (hv : au g 1 v ws.length (ws.map str)) : Pure prog 34 [u, v] g (.bool true) := by
 have hle := hu.le
 refine aw func34 rfl ntmps34 rfl fun E hE => ?_
 refine wz.b.a.AU.a.AU.a.c.e.b.a.c.z ?_
 refine an rfl (fun h => absurd rfl h) (fun _ => ?_)
 refine wz.p.b.a.c.e.d.j.z ?_
 refine aX (ι := Nat) (fun k => [(0, u), (1, v), (5, .int .i64 k)]) (fun _ => g) (fun _ => []) (fun k => k ≤ ws.length) (fun k => ws.length - k) 0 oM ⟨rfl, rfl, rfl, trivial⟩ rfl rfl ?_
 intro k hk
 refine wz.b.a.AU.a.a.c.e.z ?_
 refine an rfl (fun hlt => ?_) (fun hlt => ?_)
 ·have af : k < ws.length := by omega
  obtain ⟨b, off, cap, rfl, dB⟩ := hu.held af
  obtain ⟨b', fo, jZ, rfl, oV⟩ := hv.held af
  have e1 : (ws.map str)[k * 1]? = some (str ws[k]) := by simp [af]
  refine wz.Aj.s.s.Ab.e.p.e.d.j.z ?_
  refine bR rfl (cU rfl (eT (dB (k * 1) _ e1))) ?_
  refine wz.Aj.s.s.z ?_
  refine bR rfl (cU rfl (eT (oV (k * 1) _ e1))) ?_
  refine wz.d.T.s.z ?_
  refine an rfl (fun h => absurd rfl h) (fun _ => ?_)
  refine wz.b.a.E.a.r.d.y.j.z ?_
  exact aM (k + 1) oM oM ⟨rfl, rfl, rfl, trivial⟩ rfl rfl
 ·refine wz.i.b.a.c.d.D.m.m.C.z ?_
  exact ao [] rfl rfl sM ⟨rfl, rfl, rfl⟩
theorem SY (g : ab) (la lb : List Ex) (hl : la.length = lb.length) (wo : ∀ i (h : i < la.length) (h' : i < lb.length), ∀ u v, cT g u la[i] → cT g v lb[i] → Pure prog 36 [u, v] g (.bool true)) (u v : Value) (xs ys : List Value)
  (hu : au g 11 u la.length xs) (hx : dp g la xs) (hv : au g 11 v lb.length ys) (hy : dp g lb ys) : Pure prog 76 [u, v] g (.bool true) := by
 have hle := hu.le
 rw [← hl] at hv
 refine aw func76 rfl ntmps76 rfl fun E hE => ?_
 refine wz.b.a.AU.a.AU.a.c.e.b.a.c.z ?_
 refine an rfl (fun h => absurd rfl h) (fun _ => ?_)
 refine wz.p.b.a.c.e.d.j.z ?_
 refine aX (ι := Nat) (fun k => [(0, u), (1, v), (5, .int .i64 k)]) (fun _ => g) (fun _ => []) (fun k => k ≤ la.length) (fun k => la.length - k) 0 oM ⟨rfl, rfl, rfl, trivial⟩ rfl rfl ?_
 intro k hk
 refine wz.b.a.AU.a.a.c.e.z ?_
 refine an rfl (fun hlt => ?_) (fun hlt => ?_)
 ·have af : k < la.length := by omega
  have dk : k < lb.length := by omega
  obtain ⟨b, off, cap, rfl, dB⟩ := hu.held af
  obtain ⟨b', fo, jZ, rfl, oV⟩ := hv.held af
  obtain ⟨c, h1, g_⟩ := EV (own := []) hx dB af
  obtain ⟨c', h2, eM⟩ := EV (own := []) hy oV dk
  refine wz.Aj.s.s.Ab.e.p.e.d.j.z ?_
  refine bR rfl (dL rfl g_ h1.one.1) ?_
  refine wz.Aj.s.s.z ?_
  refine bR rfl (dL rfl eM h2.one.1) ?_
  refine iy rfl rfl (wo k af dk _ _ ⟨c, rfl, h1⟩ ⟨c', rfl, h2⟩) ?_
  refine wz.b.a.E.a.r.d.y.j.o.d.T.s.z ?_
  exact aM (k + 1) oM oM ⟨rfl, rfl, rfl, trivial⟩ rfl rfl
 ·refine wz.i.b.a.c.d.D.m.m.C.z ?_
  exact ao [] rfl rfl sM ⟨rfl, rfl, rfl⟩
end Go.Proofs.YtlnjfkfojkgiiaaGreatDoor

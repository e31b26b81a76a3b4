/- The walks of the reference's reader (typedholesref5): the small methods. -/
import Derived.Test.YtlnjfkfojkgiiaaGreatDoorK8
open Go Go.aZ Go.Th Go.Proofs Tryz
set_option maxRecDepth 10000
set_option maxHeartbeats 4000000
namespace Go.Proofs.YtlnjfkfojkgiiaaGreatDoor
attribute [local irreducible] wpList Code.wp ah bodyPost Go.aZ.Ends Exit.then Exit.inBlock dJ Wq Kq
inductive RS where
 | ak (i : Nat)
 | bad (i : Nat) (p : Int)
def RS.cells (lv : Value) : RS → List Value
 | .ak i => [lv, .int .i64 i, .bool false, .int .i64 0]
 | .bad i p => [lv, .int .i64 i, .bool true, .int .i64 p]
abbrev ey (b : Nat) (lv : Value) (s : RS) : aA := .ae b 201 (s.cells lv)
def dZ (l : List Tok) (i : Nat) (w : Bytes) : Bool := df l i 5 w || df l i 4 w
def dq (l : List Tok) (i : Nat) (k : Int) : Bool := match l[i]? with
 | some t => decide (t.kind = k)
 | none => false
def RS.iK (l : List Tok) (k : Int) : RS → Bool
 | .ak i => dq l i k
 | .bad _ _ => false
def RS.fV (l : List Tok) (w : Bytes) : RS → Bool
 | .ak i => dZ l i w
 | .bad _ _ => false
def RS.skip (l : List Tok) (w : Bytes) : RS → RS
 | .ak i => if dZ l i w then .ak (i + 1) else .ak i
 | .bad i p => .bad i p
def RS.fail (l : List Tok) : RS → RS
 | .ak i => .bad i (bH l i)
 | .bad i p => .bad i p
def RS.fi (l : List Tok) (w : Bytes) : RS → RS
 | .ak i => if dZ l i w then .ak (i + 1) else .bad i (bH l i)
 | .bad i p => .bad i p
def RS.word (l : List Tok) (k : Int) : RS → RS
 | .ak i => if dq l i k then .ak (i + 1) else .bad i (bH l i)
 | .bad i p => .bad i p
def RS.text (l : List Tok) (k : Int) : RS → Bytes
 | .ak i => match l[i]? with
  | some t => if t.kind = k then t.text else []
  | none => []
 | .bad _ _ => []
def RS.ok (l : List Tok) : RS → Prop
 | .ak i => i ≤ l.length
 | .bad i _ => i ≤ l.length
theorem rV (g : ab) (l : List Tok) (lv : Value) (hs : cg g lv l) (b : Nat) (s : RS) (k : Int) : lB prog 180 [ptr b 0, .int .i64 k] g (ey b lv s) (.bool (s.iK l k)) := by
 cases s with
 | bad i p =>
  refine aw func180 rfl ntmps180 rfl fun E hE => ?_
  refine wz.i.d.T.s.s.n.n.n.n.n.n.n.n.n.n.n.n.n.s.s.n.n.n.n.n.n.n.n.n.n.s.s.Q.J.s.s.Ab.e.b.a.c.z ?_
  exact ao [_] rfl rfl sR ⟨rfl, rfl, rfl⟩
 | ak i =>
  refine aw func180 rfl ntmps180 rfl fun E hE => ?_
  refine wz.s.s.L.Bu.H.Q.H.J.H.L.L.Q.H.J.H.L.L.s.s.Q.J.s.s.Ab.e.b.a.c.z ?_
  refine lC rfl rfl (fun hlt => ?_) (fun hlt => ?_)
  ·have af : i < l.length := by omega
   have hk : RS.iK l k (.ak i) = decide (l[i].kind = k) := by show dq l i k = _; unfold dq; rw [eB af]
   obtain ⟨b0, off, cap, rfl, hx⟩ := hs.held af
   refine wz.H.J.H.Aj.H.Q.H.J.H.L.L.Q.H.J.H.L.L.z ?_
   refine bR rfl (cU rfl (au.cell eP hx af 0 rfl)) ?_
   refine wz.i.d.T.s.s.L.L.z ?_
   exact ao [_] rfl rfl sR ⟨by rw [hk], rfl, rfl⟩
  ·have hk : RS.iK l k (.ak i) = false := by show dq l i k = _; unfold dq; rw [List.getElem?_eq_none oM]
   refine wz.i.d.T.s.s.n.n.n.n.n.n.n.n.n.n.n.n.n.z ?_
   exact ao [_] rfl rfl sR ⟨by rw [hk], rfl, rfl⟩
theorem E_ (g : ab) (l : List Tok) (lv : Value) (hs : cg g lv l) (b : Nat) (s : RS) (w : Bytes) : lB prog 144 [ptr b 0, str w] g (ey b lv s) (.bool (s.fV l w)) := by
 cases s with
 | bad i p =>
  refine aw func144 rfl ntmps144 rfl fun E hE => ?_
  refine wz.i.d.T.s.s.n.n.n.n.n.n.n.n.n.n.n.n.n.s.s.n.AF.AF.AF.AF.AF.AF.AF.AF.AF.AF.AF.AF.n.n.n.n.n.n.n.n.n.n.n.n.n.s.s.n.n.n.n.n.n.n.n.n.n.s.s.Q.J.s.s.Ab.e.b.a.c.z ?_
  exact ao [_] rfl rfl sR ⟨rfl, rfl, rfl⟩
 | ak i =>
  refine aw func144 rfl ntmps144 rfl fun E hE => ?_
  refine wz.s.s.L.Bu.H.Q.H.J.H.L.L.Q.H.J.H.L.L.s.s.Q.J.s.s.Ab.e.b.a.c.z ?_
  refine lC rfl rfl (fun hlt => ?_) (fun hlt => ?_)
  ·have af : i < l.length := by omega
   have hk : RS.fV l w (.ak i) = ((decide (l[i].kind = 5) && decide (l[i].text = w)) || (decide (l[i].kind = 4) && decide (l[i].text = w))) := by show dZ l i w = _; unfold dZ df; rw [eB af]
   obtain ⟨b0, off, cap, rfl, hx⟩ := hs.held af
   refine wz.H.J.H.Aj.H.Q.H.J.H.L.L.Q.H.J.H.L.L.z ?_
   refine bR rfl (cU rfl (au.cell eP hx af 0 rfl)) ?_
   refine wz.L.L.z ?_
   refine lC rfl rfl (fun h5 => ?_) (fun h5 => ?_)
   ·refine wz.H.J.H.Aj.H.Q.H.J.H.L.L.Q.H.J.H.L.L.s.s.L.n.n.n.n.n.n.n.n.n.n.n.n.z ?_
    refine bR rfl (cU rfl (au.cell eP hx af 1 rfl)) ?_
    refine wz.i.d.T.s.s.L.L.z ?_
    exact ao [_] rfl rfl sR ⟨by rw [hk]; simp [h5], rfl, rfl⟩
   ·refine wz.H.J.H.Aj.H.Q.H.J.H.L.L.Q.H.J.H.L.L.z ?_
    refine bR rfl (cU rfl (au.cell eP hx af 0 rfl)) ?_
    refine wz.s.s.L.L.z ?_
    refine lC rfl rfl (fun h4 => ?_) (fun h4 => ?_)
    ·refine wz.H.J.H.Aj.H.Q.H.J.H.L.L.Q.H.J.H.L.L.z ?_
     refine bR rfl (cU rfl (au.cell eP hx af 1 rfl)) ?_
     refine wz.i.d.T.s.s.L.L.z ?_
     exact ao [_] rfl rfl sR ⟨by rw [hk]; simp [h4], rfl, rfl⟩
    ·refine wz.i.d.T.s.s.n.n.n.n.n.n.n.n.n.n.n.n.n.z ?_
     exact ao [_] rfl rfl sR ⟨by rw [hk]; simp [h5, h4], rfl, rfl⟩
  ·have hk : RS.fV l w (.ak i) = false := by show dZ l i w = _; unfold dZ df; rw [List.getElem?_eq_none oM]; rfl
   refine wz.i.d.T.s.s.n.n.n.n.n.n.n.n.n.n.n.n.n.s.s.n.AF.AF.AF.AF.AF.AF.AF.AF.AF.AF.AF.AF.n.n.n.n.n.n.n.n.n.n.n.n.n.z ?_
   exact ao [_] rfl rfl sR ⟨by rw [hk], rfl, rfl⟩
theorem ze (g : ab) (l : List Tok) (lv : Value) (hs : cg g lv l) (b : Nat) (s : RS) : lB prog 181 [ptr b 0] g (ey b lv s) (.bool (s.iK l 1 || s.iK l 2 || s.fV l [40])) := by
 refine aw func181 rfl ntmps181 rfl fun E hE => ?_
 refine wz.a.c.b.a.c.z ?_
 refine eo 0 rfl rfl rfl (rV g l lv hs b s 1) ?_
 cases h1 : s.iK l 1 with
 | true =>
  refine wz.i.b.a.a.h.h.a.a.h.h.a.z ?_
  exact ao [_] rfl rfl sR ⟨rfl, rfl, rfl⟩
 | false =>
  refine wz.k.u.a.z ?_
  refine eo 0 rfl rfl rfl (rV g l lv hs b s 2) ?_
  cases h2 : s.iK l 2 with
  | true =>
   refine wz.i.b.a.a.h.h.a.a.z ?_
   exact ao [_] rfl rfl sR ⟨rfl, rfl, rfl⟩
  | false =>
   refine wz.k.u.a.a.z ?_
   refine eo 0 rfl rfl rfl (E_ g l lv hs b s [40]) ?_
   refine wz.i.b.a.a.z ?_
   exact ao [_] rfl rfl sR ⟨rfl, rfl, rfl⟩
def iw (l : List Tok) (i : Nat) : Int := match l[i]? with
 | some t => t.pos
 | none => 0
def RS.idx : RS → Nat
 | .ak i => i
 | .bad i _ => i
theorem JJ (g : ab) (l : List Tok) (lv : Value) (hs : cg g lv l) (b : Nat) (s : RS) : lB prog 177 [ptr b 0] g (ey b lv s) (.int .i64 (iw l s.idx)) := by
 cases s with
 | bad i p =>
  refine aw func177 rfl ntmps177 rfl fun E hE => ?_
  refine wz.d.T.s.Bu.Q.J.s.s.Q.J.s.s.Ab.e.e.b.a.c.z ?_
  refine an rfl (fun hlt => ?_) (fun hlt => ?_)
  ·have af : i < l.length := by omega
   have hk : iw l (RS.bad i p).idx = l[i].pos := by show iw l i = _; unfold iw; rw [eB af]
   obtain ⟨b0, off, cap, rfl, hx⟩ := hs.held af
   refine wz.J.Aj.Q.J.s.s.Q.J.s.s.Ab.e.z ?_
   refine bR rfl (cU rfl (au.cell eP hx af 2 rfl)) ?_
   refine wz.l.i.d.T.s.z ?_
   exact ao [_] rfl rfl sR ⟨by rw [hk], rfl, rfl⟩
  ·have hk : iw l (RS.bad i p).idx = 0 := by show iw l i = _; unfold iw; rw [List.getElem?_eq_none oM]
   refine wz.i.b.a.c.d.j.z ?_
   exact ao [_] rfl rfl sR ⟨by rw [hk], rfl, rfl⟩
 | ak i =>
  refine aw func177 rfl ntmps177 rfl fun E hE => ?_
  refine wz.d.T.s.Bu.Q.J.s.s.Q.J.s.s.Ab.e.e.b.a.c.z ?_
  refine an rfl (fun hlt => ?_) (fun hlt => ?_)
  ·have af : i < l.length := by omega
   have hk : iw l (RS.ak i).idx = l[i].pos := by show iw l i = _; unfold iw; rw [eB af]
   obtain ⟨b0, off, cap, rfl, hx⟩ := hs.held af
   refine wz.J.Aj.Q.J.s.s.Q.J.s.s.Ab.e.z ?_
   refine bR rfl (cU rfl (au.cell eP hx af 2 rfl)) ?_
   refine wz.l.i.d.T.s.z ?_
   exact ao [_] rfl rfl sR ⟨by rw [hk], rfl, rfl⟩
  ·have hk : iw l (RS.ak i).idx = 0 := by show iw l i = _; unfold iw; rw [List.getElem?_eq_none oM]
   refine wz.i.b.a.c.d.j.z ?_
   exact ao [_] rfl rfl sR ⟨by rw [hk], rfl, rfl⟩
end Go.Proofs.YtlnjfkfojkgiiaaGreatDoor
namespace Go.Proofs.YtlnjfkfojkgiiaaGreatDoor
attribute [local irreducible] wpList Code.wp ah bodyPost Go.aZ.Ends Exit.then Exit.inBlock dJ Wq Kq
theorem aU {g : ab} {size : Nat} {v : Value} {n : Nat} {xs : List Value} (h : au g size v n xs) : ∃ a c, v = .slice a n c := by
 rcases h.2 with ⟨⟨a, c, rfl⟩, h0⟩ | ⟨b, off, cap, rfl, _⟩
 ·exact ⟨_, _, by rw [h0]⟩
 ·exact ⟨_, _, rfl⟩
theorem Tm (g : ab) (l : List Tok) (lv : Value) (hs : cg g lv l) (i : Int) : aZ.Spec prog 143 [lv, .int .i64 i] g [] fun v g' own' => g' = g ∧ ∃ b, v = ptr b 0 ∧ own' = [ey b lv (.ak (idxOf l.length i))] := by
 obtain ⟨a, c, rfl⟩ := aU hs
 refine aw func143 rfl ntmps143 rfl fun E hE => ?_
 refine wz.a.a.a.c.e.b.a.c.z ?_
 refine bw rfl rfl (fun h1 => ?_) (fun h1 => ?_)
 ·have hx : idxOf l.length i = l.length := by simp [idxOf, h1]
  refine wz.K.a.a.c.b.a.A.a.r.t.b.a.h.h.h.h.z ?_
  refine aP rfl rfl rfl (fun b => ?_)
  refine wz.i.b.a.z ?_
  exact ao [_] rfl rfl sR ⟨rfl, b, rfl, by rw [hx]; rfl⟩
 refine wz.b.a.u.A.k.u.u.z ?_
 refine an rfl (fun h2 => ?_) (fun h2 => ?_)
 ·have hx : idxOf l.length i = l.length := by simp only [idxOf, h1, if_false]; omega
  refine wz.K.a.a.c.b.a.A.a.r.z ?_
  refine aP rfl rfl rfl (fun b => ?_)
  refine wz.i.b.a.z ?_
  exact ao [_] rfl rfl sR ⟨rfl, b, rfl, by rw [hx]; rfl⟩
 ·obtain ⟨k, rfl⟩ : ∃ k : Nat, i = k := ⟨i.toNat, oM⟩
  have hx : idxOf l.length k = k := by simp only [idxOf, h1, if_false]; omega
  refine wz.K.a.a.c.d.j.z ?_
  refine aP rfl rfl rfl (fun b => ?_)
  refine wz.i.b.a.z ?_
  exact ao [_] rfl rfl sR ⟨rfl, b, rfl, by rw [hx]; rfl⟩
theorem Em (g : ab) (l : List Tok) (hb : TB l) (lv : Value) (hs : cg g lv l) (b : Nat) (s : RS) (_hk : s.ok l) : cR prog 207 [ptr b 0] g (ey b lv s) fun _ g' r' => g' = g ∧ r' = ey b lv (s.fail l) := by
 cases s with
 | bad i p =>
  refine aw func207 rfl ntmps207 rfl fun E hE => ?_
  refine wz.l.i.t.b.v.g.a.a.c.e.z ?_
  exact iR [_] rfl sR ⟨_, rfl, rfl, rfl⟩
 | ak i =>
  refine aw func207 rfl ntmps207 rfl fun E hE => ?_
  refine wz.d.T.s.s.Bu.Q.J.s.s.Q.J.s.s.Ab.e.p.b.Ac.g.a.a.c.d.j.o.b.v.g.a.a.c.e.z ?_
  refine an rfl (fun hlt => ?_) (fun hlt => ?_)
  ·have af : i < l.length := by omega
   have hf : bH l i = l[i].pos := by unfold bH; rw [eB af]
   obtain ⟨b0, off, cap, rfl, hx⟩ := hs.held af
   skip
   refine wI 14 mixed kR ?_; refine wz.AK.CP.Bq.AK.Ap.Ap.Bq.AK.Ap.Ap.Ap.z ?_
   refine jw rfl ⟨_, cU rfl (au.cell eP hx af 2 rfl), ?_⟩
   refine wz.AK.Ap.z ?_; refine wJ ?_; refine wz.AX.y.N.Ac.z ?_
   exact iR [_] rfl sR ⟨_, rfl, rfl, by show _ = ey b _ (.bad i (bH l i)); rw [hf]; rfl⟩
  ·have hn : l[i]? = none := List.getElem?_eq_none oM
   refine wz.b.a.a.AU.v.g.a.a.c.z ?_
   refine an rfl (fun h0 => ?_) (fun h0 => ?_)
   ·have f_ : l.length - 1 < l.length := by omega
    have dh := hb.1
    have eL := hb.2 _ (List.getElem_mem f_)
    obtain ⟨b0, off, cap, rfl, hx⟩ := hs.held f_
    have hf : bH l i = l[l.length - 1].pos + l[l.length - 1].text.length := by
     unfold bH; rw [hn, List.getLast?_eq_getElem?, eB f_]
    refine kM ?_
    refine bO [] mixed (fun hG => ?_)
    refine wz.P.z ?_; refine ⟨_, (ag rfl), ?_⟩; refine wz.R.z ?_; refine ⟨_, (ag rfl), ?_⟩; refine wz.S.z ?_; refine ⟨_, (aI rfl), ?_⟩; refine wz.X.z ?_; refine ⟨_, (a7 0 rfl rfl rfl), ?_⟩; refine wz.Z.z ?_; refine ⟨_, (ag rfl), ?_⟩; refine wz.Ad.z ?_; refine ⟨_, (ag rfl), ?_⟩; refine wz.Ak.z ?_; refine ⟨_, (aI rfl), ?_⟩; refine wz.Aa.z ?_; refine ⟨_, (a7 0 rfl rfl rfl), ?_⟩; refine wz.AV.z ?_; refine ⟨_, (jQ rfl), ?_⟩; refine wz.Av.z ?_; refine ⟨_, (mA rfl rfl oM), ?_⟩
    refine bn 10 rfl kR rfl hG ⟨_, (bU (j := l.length - 1) rfl rfl oM f_), ?_⟩
    refine bn 11 rfl kR rfl hG ⟨_, (dL rfl (qX hx f_) rfl), ?_⟩
    refine wz.Bd.z ?_
    refine aj rfl (fun b2 => ?_)
    refine wz.AX.y.N.Ah.g.a.E.AI.v.g.v.g.a.r.d.F.f.b.q.AJ.f.b.z ?_
    exact iR [_] rfl sA ⟨_, rfl, rfl, by show _ = ey b _ (.bad i (bH l i)); rw [hf]; rfl⟩
   ·have hf : bH l i = 0 := by
     unfold bH; rw [hn, List.getLast?_eq_getElem?, List.getElem?_eq_none oM]
    refine wz.AX.y.j.z ?_
    exact iR [_] rfl sR ⟨_, rfl, rfl, by show _ = ey b _ (.bad i (bH l i)); rw [hf]; rfl⟩
theorem zd (g : ab) (l : List Tok) (hb : TB l) (lv : Value) (hs : cg g lv l) (b : Nat) (s : RS) (hk : s.ok l) (w : Bytes) : cR prog 183 [ptr b 0, str w] g (ey b lv s) fun v g' r' => v = .bool (s.fV l w) ∧ g' = g ∧ r' = ey b lv (s.skip l w) := by
 have dh := hb.1
 obtain ⟨a, m, c, rfl⟩ := au.form hs
 refine aw func183 rfl ntmps183 rfl fun E hE => ?_
 refine wz.a.a.c.e.b.a.c.z ?_
 refine eo 0 rfl rfl rfl (E_ g l _ hs b s w) ?_
 cases s with
 | bad i p =>
  refine wz.i.b.a.c.d.j.o.b.z ?_
  exact ao [_] rfl rfl sR ⟨_, rfl, rfl, rfl, rfl⟩
 | ak i =>
  have hi : i ≤ l.length := hk
  cases hq : dZ l i w with
  | false =>
   have e1 : RS.fV l w (.ak i) = false := hq
   have e2 : RS.skip l w (.ak i) = .ak i := by simp [RS.skip, hq]
   rw [e1, e2]
   refine wz.i.b.a.c.d.j.o.b.z ?_
   exact ao [_] rfl rfl sR ⟨_, rfl, rfl, rfl, rfl⟩
  | true =>
   have e1 : RS.fV l w (.ak i) = true := hq
   have e2 : RS.skip l w (.ak i) = .ak (i + 1) := by simp [RS.skip, hq]
   rw [e1, e2]
   refine wz.l.i.b.a.c.b.Ac.g.a.E.v.g.a.a.c.t.b.z ?_
   exact ao [_] rfl rfl sR ⟨_, rfl, rfl, rfl, rfl⟩
theorem uq (g : ab) (l : List Tok) (hb : TB l) (lv : Value) (hs : cg g lv l) (b : Nat) (s : RS) (hk : s.ok l) (w : Bytes) : cR prog 178 [ptr b 0, str w] g (ey b lv s) fun _ g' r' => g' = g ∧ r' = ey b lv (s.fi l w) := by
 refine aw func178 rfl ntmps178 rfl fun E hE => ?_
 refine wz.a.a.c.z ?_
 refine aG 0 rfl rfl rfl (zd g l hb lv hs b s hk w) ?_
 rintro v g' r' ⟨rfl, rfl, rfl⟩ _
 cases s with
 | bad i p =>
  refine wz.a.r.t.b.a.z ?_
  refine aG 0 rfl rfl rfl (Em g' l hb lv hs b (.bad i p) hk) ?_
  rintro v g' r' ⟨rfl, rfl⟩ _
  refine wz.AX.N.z ?_
  exact iR [_] rfl sR ⟨_, rfl, rfl, rfl⟩
 | ak i =>
  cases hq : dZ l i w with
  | false =>
   have e1 : RS.fV l w (.ak i) = false := hq
   have e2 : RS.skip l w (.ak i) = .ak i := by simp [RS.skip, hq]
   have e3 : RS.fi l w (.ak i) = .bad i (bH l i) := by simp [RS.fi, hq]
   rw [e1, e2, e3]
   refine wz.a.r.t.b.a.z ?_
   refine aG 0 rfl rfl rfl (Em g' l hb lv hs b (.ak i) hk) ?_
   rintro v g' r' ⟨rfl, rfl⟩ _
   refine wz.AX.N.z ?_
   exact iR [_] rfl sR ⟨_, rfl, rfl, rfl⟩
  | true =>
   have e1 : RS.fV l w (.ak i) = true := hq
   have e2 : RS.skip l w (.ak i) = .ak (i + 1) := by simp [RS.skip, hq]
   have e3 : RS.fi l w (.ak i) = .ak (i + 1) := by simp [RS.fi, hq]
   rw [e1, e2, e3]
   refine wz.AX.j.o.b.a.z ?_
   exact iR [_] rfl sR ⟨_, rfl, rfl, rfl⟩
theorem ur (g : ab) (l : List Tok) (hb : TB l) (lv : Value) (hs : cg g lv l) (b : Nat) (s : RS) (hk : s.ok l) (k : Int) : cR prog 179 [ptr b 0, .int .i64 k] g (ey b lv s) fun v g' r' => v = str (s.text l k) ∧ g' = g ∧ r' = ey b lv (s.word l k) := by
 have dh := hb.1
 refine aw func179 rfl ntmps179 rfl fun E hE => ?_
 refine wz.a.a.c.e.b.a.c.z ?_
 refine eo 0 rfl rfl rfl (rV g l lv hs b s k) ?_
 cases s with
 | bad i p =>
  refine wz.a.c.t.b.a.z ?_
  refine aG 0 rfl rfl rfl (Em g l hb lv hs b (.bad i p) hk) ?_
  rintro v g' r' ⟨rfl, rfl⟩ _
  refine wz.l.i.b.a.c.b.z ?_
  exact ao [_] rfl rfl sR ⟨_, rfl, rfl, rfl, rfl⟩
 | ak i =>
  have hi : i ≤ l.length := hk
  cases hq : dq l i k with
  | false =>
   have e1 : RS.iK l k (.ak i) = false := hq
   have e2 : RS.word l k (.ak i) = .bad i (bH l i) := by simp [RS.word, hq]
   have e3 : RS.text l k (.ak i) = [] := by
    unfold dq at hq
    unfold RS.text
    simp only
    cases hl : l[i]? with
    | none => rfl
    | some t => rw [hl] at hq; simp only [decide_eq_false_iff_not] at hq; simp only; rw [if_neg hq]
   rw [e1, e2, e3]
   refine wz.a.c.t.b.a.z ?_
   refine aG 0 rfl rfl rfl (Em g l hb lv hs b (.ak i) hk) ?_
   rintro v g' r' ⟨rfl, rfl⟩ _
   refine wz.l.i.b.a.c.b.z ?_
   exact ao [_] rfl rfl sR ⟨_, rfl, rfl, rfl, rfl⟩
  | true =>
   have hlt : i < l.length := by
    unfold dq at hq
    cases hl : l[i]? with
    | none => rw [hl] at hq; cases hq
    | some t => exact (List.getElem?_eq_some_iff.1 hl).1
   have e1 : RS.iK l k (.ak i) = true := hq
   have e2 : RS.word l k (.ak i) = .ak (i + 1) := by simp [RS.word, hq]
   have e3 : RS.text l k (.ak i) = l[i].text := by
    unfold dq at hq
    show (match l[i]? with | some t => if t.kind = k then t.text else [] | none => []) = _
    rw [eB hlt] at hq ⊢
    simp only [decide_eq_true_eq] at hq
    simp only
    rw [if_pos hq]
   obtain ⟨b0, off, cap, rfl, hx⟩ := hs.held hlt
   rw [e1, e2, e3]
   refine wz.Ch.Q.J.s.s.Q.J.s.s.Ab.e.b.Ac.g.a.E.v.g.a.a.c.d.j.o.b.a.z ?_
   refine bR rfl (bU (j := i) rfl rfl oM hlt) ?_
   refine wz.J.z ?_
   refine bR rfl (cU rfl (au.cell eP hx hlt 1 rfl)) ?_
   refine wz.i.d.T.s.z ?_
   exact ao [_] rfl rfl sR ⟨_, rfl, rfl, rfl, rfl⟩
end Go.Proofs.YtlnjfkfojkgiiaaGreatDoor
namespace Go.Proofs.YtlnjfkfojkgiiaaGreatDoor
attribute [local irreducible] wpList Code.wp ah bodyPost Go.aZ.Ends Exit.then Exit.inBlock dJ Wq Kq
def KW (l : List Tok) : Prop := ∀ t ∈ l, t.kind = kindOf t.text
theorem lZ {l : List Tok} (h : KW l) {w : Bytes} (hw : kindOf w = 5) (i : Nat) : dZ l i w = bB l i w := by
 unfold dZ bB
 have : df l i 4 w = false := by
  unfold df
  cases hl : l[i]? with
  | none => rfl
  | some t =>
   simp only [Bool.and_eq_false_iff, decide_eq_false_iff_not]
   by_cases hk : t.kind = 4
   ·refine .inr fun ht => ?_
    have := h t (List.mem_of_getElem? hl)
    rw [ht, hw] at this
    omega
   ·exact .inl hk
 rw [this, Bool.or_false]
theorem nJ {l : List Tok} {i : Nat} (h : i < l.length) (k : Int) : dq l i k = decide (l[i].kind = k) := by unfold dq; rw [eB h]
theorem Jj {l : List Tok} {i : Nat} (h : ¬ i < l.length) (k : Int) : dq l i k = false := by unfold dq; rw [List.getElem?_eq_none oM]
def rQ (l : List Tok) (i : Nat) (b : Nat) (lv : Value) (r : TR) (v : Value) (g' : ab) (r' : aA) : Prop := match r with
 | .ok (t, j) => aQ g' v t ∧ r' = ey b lv (.ak j) ∧ i < j ∧ j ≤ l.length
 | .error p => (∃ t, aQ g' v t) ∧ ∃ j, j ≤ l.length ∧ r' = ey b lv (.bad j p)
theorem Sh (g : ab) (name : Bytes) : Pure prog 39 [str name, .slice none 0 0] g (.agg #[.int .i64 4, str name, .int .i64 0, .int .i64 0, .slice none 0 0]) := by
 refine aw func39 rfl ntmps39 rfl fun E hE => ?_
 refine aS ?_
 refine aj rfl (fun b4 => ?_)
 refine wz.AD.a.a.c.b.z ?_; refine Rb 0 rfl rfl rfl rfl <| fF (own' := [_]) (List.sublist_cons_self _ _) ?_; refine wz.i.b.q.K.z ?_
 exact bp [] rfl (ay 0 rfl rfl rL) sM ⟨rfl, rfl, rfl⟩
theorem aEI (g : ab) (name : Bytes) : aQ g (.agg #[.int .i64 4, str name, .int .i64 0, .int .i64 0, .slice none 0 0]) (bJ name []) := aQ.of (t := bJ name []) (cP g 5) (cQ g)
theorem aEJ {l : List Tok} (hb : TB l) (bI : KW l) (m : Nat) (lv : Value) (b : Nat)
  (hW : ∀ g i, cg g lv l → i ≤ l.length → l.length - i < m → cR prog 184 [ptr b 0] g (ey b lv (.ak i)) (rQ l i b lv (a_ l .whole i)))
  (g : ab) (i : Nat) (hs : cg g lv l) (hi : i ≤ l.length) (hm : l.length - i < m + 1) : cR prog 182 [ptr b 0] g (ey b lv (.ak i)) (rQ l i b lv (a_ l .atom i)) := by
 have dh := hb.1
 have hr := nV l i
 have hp : dZ l i [40] = bB l i [40] := lZ bI dC i
 refine aw func182 rfl ntmps182 rfl fun E hE => ?_
 refine aS ?_
 refine aj rfl (fun b2 => ?_)
 refine wz.a.c.p.e.b.z ?_
 refine eo 1 rfl rfl rfl (rV g l lv hs b (.ak i) 1) ?_
 rw [show RS.iK l 1 (.ak i) = dq l i 1 from rfl]
 cases h1 : dq l i 1 with
 | true =>
  have hlt : i < l.length := by
   by_cases h : i < l.length
   ·exact h
   ·rw [Jj h] at h1; cases h1
  rw [nJ hlt] at h1
  have iW : l[i].kind = 1 := of_decide_eq_true h1
  rw [eB hlt] at hr
  simp only [iW, if_true] at hr
  have e1 : RS.word l 1 (.ak i) = .ak (i + 1) := by simp [RS.word, nJ hlt, iW]
  have e2 : RS.text l 1 (.ak i) = l[i].text := by
   show (match l[i]? with | some t => if t.kind = 1 then t.text else [] | none => []) = _
   rw [eB hlt]; simp [iW]
  refine wz.a.c.t.b.a.z ?_
  refine aG 1 rfl rfl rfl (ur g l hb lv hs b (.ak i) hi 1) ?_
  rintro v g' r' ⟨rfl, rfl, rfl⟩ _
  rw [e1, e2]
  refine aO rfl rfl (xC g' l[i].text) ?_
  refine wz.CQ.l.x.i.b.q.z ?_
  rw [hr]
  exact ⟨R7 g' _, rfl, oM, oM⟩
 | false =>
  refine wz.a.c.o.b.a.z ?_
  refine eo 1 rfl rfl rfl (rV g l lv hs b (.ak i) 2) ?_
  rw [show RS.iK l 2 (.ak i) = dq l i 2 from rfl]
  cases h2 : dq l i 2 with
  | true =>
   have hlt : i < l.length := by
    by_cases h : i < l.length
    ·exact h
    ·rw [Jj h] at h2; cases h2
   rw [nJ hlt] at h2
   have ff : l[i].kind = 2 := of_decide_eq_true h2
   rw [eB hlt] at hr
   simp only [ff] at hr
   have e1 : RS.word l 2 (.ak i) = .ak (i + 1) := by simp [RS.word, nJ hlt, ff]
   have e2 : RS.text l 2 (.ak i) = l[i].text := by
    show (match l[i]? with | some t => if t.kind = 2 then t.text else [] | none => []) = _
    rw [eB hlt]; simp [ff]
   refine wz.a.c.t.b.a.z ?_
   refine aG 1 rfl rfl rfl (ur g l hb lv hs b (.ak i) hi 2) ?_
   rintro v g' r' ⟨rfl, rfl, rfl⟩ _
   rw [e1, e2]
   refine aO rfl rfl (Sh g' l[i].text) ?_
   refine wz.CQ.l.x.i.b.q.z ?_
   rw [hr]
   exact ⟨aEI g' _, rfl, oM, oM⟩
  | false =>
   refine wz.a.c.d.y.j.o.b.a.z ?_
   refine aG 1 rfl rfl rfl (uq g l hb lv hs b (.ak i) hi [40]) ?_
   rintro v g' r' ⟨rfl, rfl⟩ _
   cases hmk : bB l i [40] with
   | false =>
    have e1 : RS.fi l [40] (.ak i) = .bad i (bH l i) := by simp [RS.fi, hp, hmk]
    have dA : a_ l .atom i = .error (bH l i) := by
     rw [hr]
     by_cases hlt : i < l.length
     ·rw [eB hlt]
      rw [nJ hlt] at h1 h2
      have iW : ¬ l[i].kind = 1 := of_decide_eq_false h1
      have ff : ¬ l[i].kind = 2 := of_decide_eq_false h2
      have Jk : ¬ (l[i].kind = 5 ∧ l[i].text = [40]) := by
       unfold bB df at hmk
       rw [eB hlt] at hmk
       intro h
       simp [h.1, h.2] at hmk
      simp only
      rw [if_neg iW, if_neg ff, if_neg Jk]
     ·rw [List.getElem?_eq_none oM]
    rw [e1]
    refine wz.CQ.l.i.b.q.K.c.t.b.I.g.a.a.c.e.b.z ?_
    rw [dA]
    exact ⟨⟨bX, pZ g'⟩, i, hi, rfl⟩
   | true =>
    have hlt := cF hmk
    have e1 : RS.fi l [40] (.ak i) = .ak (i + 1) := by simp [RS.fi, hp, hmk]
    rw [eB hlt] at hr
    rw [nJ hlt] at h1 h2
    have iW : ¬ l[i].kind = 1 := of_decide_eq_false h1
    have ff : ¬ l[i].kind = 2 := of_decide_eq_false h2
    have Jk : l[i].kind = 5 ∧ l[i].text = [40] := by
     unfold bB df at hmk
     rw [eB hlt] at hmk
     simpa using hmk
    simp only at hr
    rw [if_neg iW, if_neg ff, if_pos Jk] at hr
    rw [e1]
    refine wz.a.c.d.j.o.b.I.g.a.a.c.e.b.z ?_
    refine aG 1 rfl rfl rfl (hW g' (i + 1) hs oM oM) ?_
    rintro v g1 r' hw hle
    have aJ := hs.mono hle
    cases hq : a_ l .whole (i + 1) with
    | error p =>
     rw [hq] at hw hr
     simp only at hr
     obtain ⟨⟨t, cO⟩, j, hj, rfl⟩ := hw
     obtain ⟨a, m', c, rfl, ht⟩ := cO.bA
     skip
     refine aj rfl (fun b3 => ?_)
     refine wz.a.c.b.q.z ?_
     refine aG 2 rfl rfl rfl (uq g1 l hb lv aJ b (.bad j p) hj [41]) ?_
     rintro v g2 r' ⟨rfl, rfl⟩ _
     refine wz.Bv.i.b.B.G.c.b.z ?_
     rw [hr]
     exact ⟨⟨t, _, rfl, ht⟩, j, hj, rfl⟩
    | ok q =>
     obtain ⟨t, j⟩ := q
     rw [hq] at hw hr
     simp only at hr
     obtain ⟨cO, rfl, ik, cE⟩ := hw
     obtain ⟨a, m', c, rfl, ht⟩ := cO.bA
     have lQ : dZ l j [41] = bB l j [41] := lZ bI dC j
     skip
     refine aj rfl (fun b3 => ?_)
     refine wz.a.c.b.q.z ?_
     refine aG 2 rfl rfl rfl (uq g1 l hb lv aJ b (.ak j) cE [41]) ?_
     rintro v g2 r' ⟨rfl, rfl⟩ _
     cases hk : bB l j [41] with
     | true =>
      rw [hk] at hr
      have := cF hk
      have e2 : RS.fi l [41] (.ak j) = .ak (j + 1) := by simp [RS.fi, lQ, hk]
      rw [e2]
      refine wz.Bv.i.b.B.G.c.b.z ?_
      rw [hr]
      exact ⟨⟨_, rfl, ht⟩, rfl, oM, oM⟩
     | false =>
      rw [hk] at hr
      have e2 : RS.fi l [41] (.ak j) = .bad j (bH l j) := by simp [RS.fi, lQ, hk]
      rw [e2]
      refine wz.Bv.i.b.B.G.c.b.z ?_
      rw [hr]
      exact ⟨⟨t, _, rfl, ht⟩, j, cE, rfl⟩
end Go.Proofs.YtlnjfkfojkgiiaaGreatDoor
namespace Go.aZ
open Go
section
variable {P : Program} {E : Env} {n : Nat} {L : dz} {g : ab} {own : List aA} {Q : Exit → Act → World → Prop}
theorem cD {ι : Type} (Lf : ι → dz) (gf : ι → ab) (of : ι → List aA) (φ : ι → Prop) {x y : Code} (h2 : ∀ p, φ p → ah E n (Lf p) (gf p) (of p) (y.wp P Q))
  (h1 : ∀ K : Act → World → Prop, (∀ p yG, φ p → Sub (Lf p) yG → ah E n yG (gf p) (of p) K) → ah E n L g own (x.wp P (Exit.then K Q))) : ah E n L g own ((Code.seq x y).wp P Q) :=
 kM (h1 _ fun p _ hφ hs => Js (Lf p) hs (h2 p hφ))
theorem gT {X : Act → World → Prop} {T : TypeId} {size m : Nat} {v : Value} {xs : List Value} (i : Nat) (h : own[i]? = some (.row T size v m xs)) (k : (∃ a m c, v = .slice a m c) → ah E n L g own X) : ah E n L g own X := fun a w hF hI => by
 have hs : w.ownsRow 0 T size v m xs := mq hI h
 refine k ?_ a w hF hI
 rcases hs.2 with ⟨rfl, _⟩ | ⟨b, cap, cur, rfl, _⟩
 ·exact ⟨_, _, _, rfl⟩
 ·exact ⟨_, _, _, rfl⟩
end
end Go.aZ
namespace Go.Proofs.YtlnjfkfojkgiiaaGreatDoor
attribute [local irreducible] wpList Code.wp ah bodyPost Go.aZ.Ends Exit.then Exit.inBlock dJ Wq Kq
def aEK (l : List Tok) (i : Nat) (t : Ty) : TR → RS → Prop
 | .ok (t', j), s => t' = t ∧ s = .ak j ∧ i < j ∧ j ≤ l.length
 | .error p, s => ∃ j, j ≤ l.length ∧ s = .bad j p
theorem aEL {l : List Tok} (hb : TB l) (bI : KW l) (m : Nat) (lv : Value) (b : Nat)
  (hW : ∀ g i, cg g lv l → i ≤ l.length → l.length - i < m → cR prog 184 [ptr b 0] g (ey b lv (.ak i)) (rQ l i b lv (a_ l .whole i)))
  (hA : ∀ g i, cg g lv l → i ≤ l.length → l.length - i < m + 1 → cR prog 182 [ptr b 0] g (ey b lv (.ak i)) (rQ l i b lv (a_ l .atom i)))
  (g : ab) (i : Nat) (hs : cg g lv l) (hi : i ≤ l.length) (hm : l.length - i < m + 1) : cR prog 184 [ptr b 0] g (ey b lv (.ak i)) (rQ l i b lv (a_ l .whole i)) := by
 have dh := hb.1
 refine aw func184 rfl ntmps184 rfl fun E hE => ?_
 refine aS ?_
 refine aj rfl (fun b2 => ?_)
 refine wz.c.b.z ?_
 refine aj rfl (fun b3 => ?_)
 refine iV ?_
 refine cD (ι := Ty × Value × RS × ab) (fun p => [(0, ptr b 0), (2, ptr b2 0), (3, ptr b3 0)]) (fun p => p.2.2.2)
  (fun p => [.ae b3 41 (aH p.1 p.2.1), .ae b2 41 [.int .i64 0, str [], .int .i64 0, .int .i64 0, .slice none 0 0], ey b lv p.2.2.1])
  (fun p => ab.le g p.2.2.2 ∧ bx p.2.2.2 p.1 (aH p.1 p.2.1) ∧ aEK l i p.1 (a_ l .fA i) p.2.2.1) ?_ ?_
 ·rintro ⟨t, sl, s, g1⟩ ⟨k1, k2, k3⟩
  simp only at k1 k2 k3
  have hr := qJ l i
  have aJ := hs.mono k1
  obtain ⟨_, aq, _⟩ := k2.args
  obtain ⟨a, m', c, rfl⟩ := au.form aq
  try dsimp only
  cases hq : a_ l .fA i with
  | error p =>
   rw [hq] at k3 hr
   simp only at hr
   obtain ⟨j, hj, rfl⟩ := k3
   refine wz.a.c.e.z ?_
   refine aG 2 rfl rfl rfl (zd g1 l hb lv aJ b (.bad j p) hj eg) ?_
   rintro v g2 r' ⟨rfl, rfl, rfl⟩ _
   refine wz.Bv.i.b.B.G.c.d.j.o.b.z ?_
   rw [hr]
   exact ⟨⟨t, _, rfl, k2⟩, j, hj, rfl⟩
  | ok q =>
   obtain ⟨t', j⟩ := q
   rw [hq] at k3 hr
   obtain ⟨rfl, rfl, ik, cE⟩ := k3
   simp only at hr
   have hp : dZ l j eg = bB l j eg := lZ bI dC j
   refine wz.a.c.e.z ?_
   refine aG 2 rfl rfl rfl (zd g1 l hb lv aJ b (.ak j) cE eg) ?_
   rintro v g2 r' ⟨rfl, rfl, rfl⟩ _
   rw [show RS.fV l eg (.ak j) = bB l j eg from hp]
   cases hk : bB l j eg with
   | false =>
    rw [hk] at hr
    have e1 : RS.skip l eg (.ak j) = .ak j := by simp [RS.skip, hp, hk]
    rw [e1]
    refine wz.Bv.i.b.B.G.c.d.j.o.b.z ?_
    rw [hr]
    exact ⟨⟨_, rfl, k2⟩, rfl, ik, cE⟩
   | true =>
    rw [hk] at hr
    have eK := cF hk
    simp only [if_true] at hr
    rw [if_pos oM] at hr
    have e1 : RS.skip l eg (.ak j) = .ak (j + 1) := by simp [RS.skip, hp, hk]
    rw [e1]
    refine wz.e.t.b.z ?_
    refine bO [2, 1] mixed (fun hG => ?_)
    refine wz.P.z ?_; refine ⟨_, (bP 0 rfl rfl rL), ?_⟩; refine wz.R.z ?_; refine ⟨_, (ag rfl), ?_⟩
    refine wz.AL.z ?_
    refine aG 2 rfl rfl rfl (hW g2 (j + 1) aJ oM oM) ?_
    rintro w g3 r' hw aF
    cases ep : a_ l .whole (j + 1) with
    | error p =>
     rw [ep] at hw hr
     simp only at hr
     obtain ⟨⟨t2, uk⟩, j2, ph, rfl⟩ := hw
     have ht := k2.mono aF
     refine wz.Aw.f.b.z ?_
     refine aB rfl rfl (sj g3 t' t2 _ _ ⟨_, rfl, ht⟩ uk) ?_
     rintro w g4 hw aR
     have ju := ab.le_trans aF aR
     obtain ⟨a3, m3, c3, rfl, um⟩ := hw.bA
     refine wz.Bv.l.i.d.F.f.b.B.AH.f.b.z ?_
     rw [hr]
     exact ⟨⟨_, _, rfl, um⟩, j2, ph, rfl⟩
    | ok q2 =>
     obtain ⟨t2, j2⟩ := q2
     rw [ep] at hw hr
     simp only at hr
     obtain ⟨uk, rfl, gW, fb⟩ := hw
     have ht := k2.mono aF
     refine wz.Aw.f.b.z ?_
     refine aB rfl rfl (sj g3 t' t2 _ _ ⟨_, rfl, ht⟩ uk) ?_
     rintro w g4 hw aR
     have ju := ab.le_trans aF aR
     obtain ⟨a3, m3, c3, rfl, um⟩ := hw.bA
     refine wz.Bv.l.i.d.F.f.b.B.AH.f.b.z ?_
     rw [hr]
     exact ⟨⟨_, rfl, um⟩, rfl, oM, fb⟩
 ·intro K hK
  have hr := oX l i
  refine wz.a.c.z ?_
  refine eo 2 rfl rfl rfl (rV g l lv hs b (.ak i) 2) ?_
  rw [show RS.iK l 2 (.ak i) = dq l i 2 from rfl]
  cases h2 : dq l i 2 with
  | false =>
   have dA : a_ l .fA i = a_ l .atom i := by
    rw [hr]
    by_cases hlt : i < l.length
    ·rw [nJ hlt] at h2
     rw [eB hlt]
     simp only
     rw [if_neg (of_decide_eq_false h2)]
    ·rw [List.getElem?_eq_none oM]
   refine wz.a.r.o.b.z ?_
   refine aG 2 rfl rfl rfl (hA g i hs hi hm) ?_
   rintro v g1 r' hw hle
   cases hq : a_ l .atom i with
   | error p =>
    rw [hq] at hw
    obtain ⟨⟨t, cO⟩, j, hj, rfl⟩ := hw
    obtain ⟨a, m', c, rfl, ht⟩ := cO.bA
    refine wz.b.q.z ?_
    exact hK (t, .slice a m' c, .bad j p, g1) _ ⟨hle, ht, by simp only; rw [dA, hq]; exact ⟨j, hj, rfl⟩⟩ ⟨rfl, rfl, rfl, trivial⟩
   | ok q =>
    obtain ⟨t, j⟩ := q
    rw [hq] at hw
    obtain ⟨cO, rfl, ik, cE⟩ := hw
    obtain ⟨a, m', c, rfl, ht⟩ := cO.bA
    refine wz.b.q.z ?_
    exact hK (t, .slice a m' c, .ak j, g1) _ ⟨hle, ht, by simp only; rw [dA, hq]; exact ⟨rfl, rfl, ik, cE⟩⟩ ⟨rfl, rfl, rfl, trivial⟩
  | true =>
   have hlt : i < l.length := by
    by_cases h : i < l.length
    ·exact h
    ·rw [Jj h] at h2; cases h2
   rw [nJ hlt] at h2
   have ff : l[i].kind = 2 := of_decide_eq_true h2
   rw [eB hlt] at hr
   simp only [ff, if_true] at hr
   have e1 : RS.word l 2 (.ak i) = .ak (i + 1) := by simp [RS.word, nJ hlt, ff]
   have e2 : RS.text l 2 (.ak i) = l[i].text := by
    show (match l[i]? with | some t => if t.kind = 2 then t.text else [] | none => []) = _
    rw [eB hlt]; simp [ff]
   refine wz.a.c.t.b.z ?_
   refine aG 2 rfl rfl rfl (ur g l hb lv hs b (.ak i) hi 2) ?_
   rintro v g' r' ⟨rfl, rfl, rfl⟩ _
   rw [e1, e2]
   refine aO rfl rfl (Sh g' l[i].text) ?_
   refine wz.AD.p.b.q.z ?_
   refine aX (ι := RS × List Ty × Value × List Value × ab) (fun p => [(0, ptr b 0), (2, ptr b2 0), (3, ptr b3 0)]) (fun p => p.2.2.2.2)
    (fun p => [.row 41 5 p.2.2.1 p.2.1.length p.2.2.2.1, .ae b3 41 (aH (bJ l[i].text []) p.2.2.1), .ae b2 41 [.int .i64 0, str [], .int .i64 0, .int .i64 0, .slice none 0 0], ey b lv p.1])
    (fun p => fx p.2.2.1 = true ∧ p.2.1.length ≤ l.length ∧ aV p.2.2.2.2 p.2.1 p.2.2.2.1 ∧ ab.le g' p.2.2.2.2 ∧ (∃ a m c, p.2.2.1 = .slice a m c) ∧ match p.1 with
     | .ak j => i + 1 ≤ j ∧ j ≤ l.length ∧ p.2.1.length ≤ j ∧ a_ l .fA i = a_ l (.args l[i].text p.2.1) j
     | .bad j q => j ≤ l.length ∧ a_ l .fA i = .error q)
    (fun p => match p.1 with
     | .ak j => l.length - j + 1
     | .bad _ _ => 0) (.ak (i + 1), [], .slice none 0 0, [], g')
    ⟨rfl, sM, cQ g', ab.le_refl _, ⟨_, _, _, rfl⟩, Nat.le_refl _, hlt, sM, hr⟩ ⟨rfl, rfl, rfl, trivial⟩ rfl rfl ?_
   rintro ⟨s, ta, fG, xs, g2⟩ ⟨k1, k2, k3, k4, ⟨sa, sm, sc, k5⟩, k6⟩
   simp only at k1 k2 k3 k4 k5 k6
   subst k5
   try dsimp only
   have bj := hs.mono k4
   cases s with
   | bad j q =>
    simp only at k6
    refine wz.a.c.e.z ?_
    refine eo 3 rfl rfl rfl (ze g2 l lv bj b (.bad j q)) ?_
    refine wz.d.D.m.m.C.o.b.z ?_
    refine bg (fun g3 d_ bY => ?_)
    skip
    exact hK (bJ l[i].text ta, .slice sa sm sc, .bad j q, g3) _ ⟨ab.le_trans k4 d_, bx.mk (t := bJ l[i].text ta) bY (k3.mono d_), by simp only; rw [k6.2]; exact ⟨j, k6.1, rfl⟩⟩ ⟨rfl, rfl, rfl, trivial⟩
   | ak j =>
    obtain ⟨k6, k7, k8, k9⟩ := k6
    have dF := nQ l l[i].text ta j
    have bG : (RS.iK l 1 (.ak j) || RS.iK l 2 (.ak j) || RS.fV l [40] (.ak j)) = gH l j := by
     show (dq l j 1 || dq l j 2 || dZ l j [40]) = _
     rw [lZ bI dC]
     unfold gH kQ bB df dq
     cases l[j]? <;> rfl
    refine wz.a.c.e.z ?_
    refine eo 3 rfl rfl rfl (ze g2 l lv bj b (.ak j)) ?_
    rw [bG]
    cases bG : gH l j with
    | false =>
     rw [bG] at dF
     refine wz.d.D.m.m.C.o.b.z ?_
     refine bg (fun g3 d_ bY => ?_)
     skip
     exact hK (bJ l[i].text ta, .slice sa sm sc, .ak j, g3) _ ⟨ab.le_trans k4 d_, bx.mk (t := bJ l[i].text ta) bY (k3.mono d_), by simp only; rw [k9, dF]; exact ⟨rfl, rfl, oM, k7⟩⟩ ⟨rfl, rfl, rfl, trivial⟩
    | true =>
     have eK := r8 bG
     rw [bG] at dF
     simp only [if_true] at dF
     refine wz.p.d.j.t.b.z ?_
     refine fQ 6 [3, 0] mixed kR (fun hG => ?_)
     refine wz.Ar.z ?_; refine ⟨_, (aI rfl), ?_⟩; refine wz.Ax.z ?_; refine ⟨_, (a7 0 rfl rfl rfl), ?_⟩; refine wz.Ay.z ?_; refine ⟨_, (ag rfl), ?_⟩
     refine wz.BM.z ?_
     refine aG 3 rfl rfl rfl (hA g2 j bj k7 oM) ?_
     rintro w g3 r' hw aF
     cases hq : a_ l .atom j with
     | error p =>
      rw [hq] at hw dF
      simp only at dF
      obtain ⟨⟨t', qb⟩, j', dr, rfl⟩ := hw
      obtain ⟨a2, m2, c2, rfl, gZ⟩ := qb.bA
      refine wz.By.f.b.z ?_
      refine bu rfl rfl rL rL rL rL rL (fun b5 => ?_)
      refine wz.Bn.f.b.z ?_
      refine cV 1 0 rfl rfl rfl rfl rfl rL rL rfl mL oM (fun v' eD => ?_)
      refine gT 1 rfl ?_
      rintro ⟨va, vm, vc, rfl⟩
      refine wz.d.y.N.Dg.g.Am.f.b.z ?_
      refine wz.Bb.z ?_
      refine aM (RS.bad j' p, ta ++ [t'], .slice va vm vc, xs ++ aH t' (.slice a2 m2 c2), g3) ⟨rfl, nM, aV.snoc gZ (k3.mono aF), ab.le_trans k4 aF, ⟨_, _, _, rfl⟩, dr, by rw [k9, dF]⟩ uM ⟨rfl, rfl, rfl, trivial⟩ rfl ?_
      simp [aH, dO]
     | ok q =>
      obtain ⟨x, j'⟩ := q
      rw [hq] at hw dF
      simp only at dF
      obtain ⟨qb, rfl, Jh, ph⟩ := hw
      rw [if_pos Jh] at dF
      obtain ⟨a2, m2, c2, rfl, gZ⟩ := qb.bA
      refine wz.By.f.b.z ?_
      refine bu rfl rfl rL rL rL rL rL (fun b5 => ?_)
      refine wz.Bn.f.b.z ?_
      refine cV 1 0 rfl rfl rfl rfl rfl rL rL rfl mL oM (fun v' eD => ?_)
      refine gT 1 rfl ?_
      rintro ⟨va, vm, vc, rfl⟩
      refine wz.Bb.d.y.N.Dg.g.Am.f.b.z ?_
      refine aM (RS.ak j', ta ++ [x], .slice va vm vc, xs ++ aH x (.slice a2 m2 c2), g3) ⟨rfl, nM, aV.snoc gZ (k3.mono aF), ab.le_trans k4 aF, ⟨_, _, _, rfl⟩, oM, ph, nM, by rw [k9, dF]⟩ uM ⟨rfl, rfl, rfl, trivial⟩ rfl ?_
      simp [aH, dO]
theorem Si {l : List Tok} (hb : TB l) (bI : KW l) (lv : Value) (b : Nat) : ∀ m : Nat,
  (∀ g i, cg g lv l → i ≤ l.length → l.length - i < m → cR prog 184 [ptr b 0] g (ey b lv (.ak i)) (rQ l i b lv (a_ l .whole i))) ∧
  (∀ g i, cg g lv l → i ≤ l.length → l.length - i < m → cR prog 182 [ptr b 0] g (ey b lv (.ak i)) (rQ l i b lv (a_ l .atom i)))
 | 0 => ⟨fun _ _ _ _ h => by omega, fun _ _ _ _ h => by omega⟩
 | m + 1 => by
  have ih := Si hb bI lv b m
  have hA := fun g i => aEJ hb bI m lv b ih.1 g i
  exact ⟨fun g i => aEL hb bI m lv b ih.1 hA g i, hA⟩
theorem SI {l : List Tok} (hb : TB l) (bI : KW l) (g : ab) (lv : Value) (b i : Nat) (hs : cg g lv l) (hi : i ≤ l.length) : cR prog 182 [ptr b 0] g (ey b lv (.ak i)) (rQ l i b lv (a_ l .atom i)) := (Si hb bI lv b _).2 g i hs hi (Nat.lt_succ_self _)
end Go.Proofs.YtlnjfkfojkgiiaaGreatDoor
namespace Go.Th
theorem Eo : ∀ (f i : Nat) (s : Bytes) (l : List Tok), jE f i s = .ok l → l.length ≤ s.length ∧ ∀ t ∈ l, t.kind = kindOf t.text ∧ kindOf t.text ≠ 0 ∧ (i : Int) ≤ t.pos ∧ t.pos + t.text.length ≤ (i + s.length : Nat)
 | 0, _, _, l, h => by
  simp only [jE, Except.ok.injEq] at h; subst h; simp
 | _ + 1, _, [], l, h => by
  simp only [jE, Except.ok.injEq] at h; subst h; simp
 | f + 1, i, c :: r, l, h => by
  simp only [jE] at h
  split at h
  ·have ih := Eo f (i + 1) r l h
   refine ⟨nM, fun t ht => ?_⟩
   obtain ⟨h1, h2, h3, h4⟩ := ih.2 t ht
   exact ⟨h1, h2, oM, by simp only [List.length_cons]; omega⟩
  ·split at h
   ·have ih := Eo f _ _ l h
    have hle := Fx (c :: r)
    rw [List.length_drop] at ih
    refine ⟨oM, fun t ht => ?_⟩
    obtain ⟨h1, h2, h3, h4⟩ := ih.2 t ht
    exact ⟨h1, h2, oM, oM⟩
   ·split at h
    ·cases h
    ·rename_i hk
     split at h
     ·cases h
     ·rename_i l' hl
      simp only [Except.ok.injEq] at h
      subst h
      have ih := Eo f _ _ l' hl
      have hle := E2 (c :: r)
      have nB := wv c r
      rw [List.length_drop] at ih
      refine ⟨by simp only [List.length_cons] at *; omega, fun t ht => ?_⟩
      rcases List.mem_cons.1 ht with rfl | ht
      ·refine ⟨rfl, hk, sM, ?_⟩
       simp only [List.length_take]
       omega
      ·obtain ⟨h1, h2, h3, h4⟩ := ih.2 t ht
       exact ⟨h1, h2, oM, oM⟩
def kV (s : Bytes) : List Tok := match scan s with | .ok l => l | .bad _ _ => []
theorem ux (s : Bytes) : (kV s).length ≤ 4000 ∧ ∀ t ∈ kV s, t.kind = kindOf t.text ∧ kindOf t.text ≠ 0 ∧ 0 ≤ t.pos ∧ t.pos + t.text.length ≤ 4000 := by
 unfold kV scan
 by_cases h : 4000 < s.length
 ·rw [if_pos h]; simp
 ·rw [if_neg h]
  cases hq : jE s.length 0 s with
  | error p => simp
  | ok l =>
   obtain ⟨h1, h2⟩ := Eo _ _ _ _ hq
   simp only
   refine ⟨oM, fun t ht => ?_⟩
   obtain ⟨a1, a2, a3, a4⟩ := h2 t ht
   exact ⟨a1, a2, oM, oM⟩
end Go.Th
namespace Go.aZ
open Go Go.RowKit
section
variable {P : Program} {E : Env} {n : Nat} {L : dz} {g : ab} {own : List aA} {Q : Exit → Act → World → Prop} {ops : Array Oper} {rest : List Oper}
variable {d : Nat} {ty : TypeId} {pos : String} {after : Array Edge}
end
end Go.aZ
namespace Go.Proofs.YtlnjfkfojkgiiaaGreatDoor
attribute [local irreducible] wpList Code.wp ah bodyPost Go.aZ.Ends Exit.then Exit.inBlock dJ Wq Kq
end Go.Proofs.YtlnjfkfojkgiiaaGreatDoor
namespace Go.Proofs.YtlnjfkfojkgiiaaGreatDoor
attribute [local irreducible] wpList Code.wp ah bodyPost Go.aZ.Ends Exit.then Exit.inBlock dJ Wq Kq
abbrev Mj : Value := .agg #[.int .i64 0, .int .i64 0, str [], .int .i64 0, .slice none 0 0, .slice none 0 0, .int .i64 0, str [], .int .i64 0, .int .i64 0, .slice none 0 0]
theorem FX (g : ab) : cT g Mj pQ := ⟨_, rfl, cJ.mk (e := pQ) (cP g 11) (by unfold dp; rfl) (cP g 14) (by unfold fw; rfl) (bx.mk (t := bX) (cP g 5) (cQ g))⟩
end Go.Proofs.YtlnjfkfojkgiiaaGreatDoor
namespace Go.Th
theorem Vq {s : Bytes} (h : kindOf s = 3) : s.length ≤ 9 ∧ ∀ c ∈ s, digit c = true := by
 unfold kindOf at h
 split at h
 ·cases h
 split at h
 ·cases h
 split at h
 ·cases h
 split at h
 ·rename_i h3
  simp only [nr, Bool.and_eq_true, decide_eq_true_eq] at h3
  exact ⟨h3.1.1.2, fun c hc => List.all_eq_true.1 h3.2 c hc⟩
 split at h
 ·cases h
 ·cases h
end Go.Th
namespace Go.Proofs.YtlnjfkfojkgiiaaGreatDoor
attribute [local irreducible] wpList Code.wp ah bodyPost Go.aZ.Ends Exit.then Exit.inBlock dJ Wq Kq
theorem pM {l : List Tok} (h : KW l) {w : Bytes} (hw : kindOf w = 4) (i : Nat) : dZ l i w = cA l i w := by
 unfold dZ cA
 have : df l i 5 w = false := by
  unfold df
  cases hl : l[i]? with
  | none => rfl
  | some t =>
   simp only [Bool.and_eq_false_iff, decide_eq_false_iff_not]
   by_cases hk : t.kind = 5
   ·refine .inr fun ht => ?_
    have := h t (List.mem_of_getElem? hl)
    rw [ht, hw] at this
    omega
   ·exact .inl hk
 rw [this, Bool.false_or]
theorem EE (l : List Tok) (k : Int) (i : Nat) : RS.text l k (.ak i) = match l[i]? with | some t => if t.kind = k then t.text else [] | none => [] := rfl
theorem mZ {l : List Tok} {i : Nat} {k : Int} (h : dq l i k = true) : nameAt l i k = some (RS.text l k (.ak i)) ∧ RS.word l k (.ak i) = .ak (i + 1) ∧ i < l.length := by
 have e : RS.word l k (.ak i) = .ak (i + 1) := by simp [RS.word, h]
 unfold dq at h
 rw [EE]
 unfold nameAt
 cases hl : l[i]? with
 | none => rw [hl] at h; cases h
 | some t =>
  rw [hl] at h
  simp only [decide_eq_true_eq] at h
  simp only [h, if_true]
  exact ⟨trivial, e, (List.getElem?_eq_some_iff.1 hl).1⟩
theorem pL {l : List Tok} {i : Nat} {k : Int} (h : dq l i k = false) : nameAt l i k = none ∧ RS.word l k (.ak i) = .bad i (bH l i) ∧ RS.text l k (.ak i) = [] := by
 have e : RS.word l k (.ak i) = .bad i (bH l i) := by simp [RS.word, h]
 unfold dq at h
 rw [EE]
 unfold nameAt
 cases hl : l[i]? with
 | none => exact ⟨rfl, e, rfl⟩
 | some t =>
  rw [hl] at h
  simp only [decide_eq_false_iff_not] at h
  simp only [h, if_false]
  exact ⟨trivial, e, trivial⟩
theorem kN {l : List Tok} {i : Nat} {w : Bytes} (h : dZ l i w = true) : RS.skip l w (.ak i) = .ak (i + 1) ∧ RS.fi l w (.ak i) = .ak (i + 1) ∧ i < l.length := by
 refine ⟨by simp [RS.skip, h], by simp [RS.fi, h], ?_⟩
 unfold dZ at h
 rcases Bool.or_eq_true_iff.1 h with h | h
 ·exact cF h
 ·exact cF h
theorem lY {l : List Tok} {i : Nat} {w : Bytes} (h : dZ l i w = false) : RS.skip l w (.ak i) = .ak i ∧ RS.fi l w (.ak i) = .bad i (bH l i) := ⟨by simp [RS.skip, h], by simp [RS.fi, h]⟩
theorem zf (g : ab) : dp g [] [] := by unfold dp; rfl
theorem qE (g : ab) : fw g [] [] := by unfold fw; rfl
theorem na {g : ab} {a : Ex} {c : List Value} (h : cJ g a c) : dp g [a] c := by
 unfold dp
 exact ⟨c, [], sM, h, zf g⟩
theorem o8 {g : ab} {a b : Ex} {c d : List Value} (h : cJ g a c) (h' : cJ g b d) : dp g [a, b] (c ++ d) := by
 unfold dp
 exact ⟨c, d, rfl, h, na h'⟩
theorem cT.form {g : ab} {v : Value} {e : Ex} (h : cT g v e) : ∃ (a1 : Option Addr) (m1 c1 : Nat) (a2 : Option Addr) (m2 c2 : Nat) (a3 : Option Addr) (m3 c3 : Nat),
  v = .agg #[.int .i64 e.kind, .int .i64 e.pos, str e.name, .int .i64 e.num, .slice a1 m1 c1, .slice a2 m2 c2, .int .i64 e.ty.kind, str e.ty.name, .int .i64 e.ty.id, .int .i64 e.ty.home, .slice a3 m3 c3] ∧
  cJ g e [.int .i64 e.kind, .int .i64 e.pos, str e.name, .int .i64 e.num, .slice a1 m1 c1, .slice a2 m2 c2, .int .i64 e.ty.kind, str e.ty.name, .int .i64 e.ty.id, .int .i64 e.ty.home, .slice a3 m3 c3] := by
 obtain ⟨cs, rfl, h⟩ := h
 obtain ⟨a1, m1, c1, a2, m2, c2, a3, m3, c3, xk, xa, rfl, _⟩ := h.form
 exact ⟨a1, m1, c1, a2, m2, c2, a3, m3, c3, rfl, h⟩
theorem je (g : ab) (k p : Int) (n : Bytes) (m : Int) : cT g (.agg #[.int .i64 k, .int .i64 p, str n, .int .i64 m, .slice none 0 0, .slice none 0 0, .int .i64 0, str [], .int .i64 0, .int .i64 0, .slice none 0 0]) (cN k p n m) :=
 ⟨_, rfl, cJ.mk (e := cN k p n m) (cP g 11) (zf g) (cP g 14) (qE g) (bx.mk (t := bX) (cP g 5) (cQ g))⟩
theorem jR (g : ab) (k p : Int) (n : Bytes) {v : Value} {ks : List Ex} {xs : List Value} (h1 : au g 11 v ks.length xs) (h2 : dp g ks xs) : cT g (.agg #[.int .i64 k, .int .i64 p, str n, .int .i64 0, v, .slice none 0 0, .int .i64 0, str [], .int .i64 0, .int .i64 0, .slice none 0 0]) (bC k p n ks) :=
 ⟨_, rfl, cJ.mk (e := bC k p n ks) h1 h2 (cP g 14) (qE g) (bx.mk (t := bX) (cP g 5) (cQ g))⟩
theorem FE (g : ab) (p : Int) (t : Ty) {v sl : Value} {x : Ex} {xs : List Value} (h1 : au g 11 v 1 xs) (h2 : cJ g x xs) (h3 : bx g t (aH t sl)) : cT g (.agg #[.int .i64 9, .int .i64 p, str [], .int .i64 0, v, .slice none 0 0, .int .i64 t.kind, str t.name, .int .i64 t.id, .int .i64 t.home, sl]) (h_ p x t) :=
 ⟨_, rfl, cJ.mk (e := h_ p x t) h1 (na h2) (cP g 14) (qE g) h3⟩
end Go.Proofs.YtlnjfkfojkgiiaaGreatDoor
namespace Go.Proofs.YtlnjfkfojkgiiaaGreatDoor
def kq (g : ab) (c : Cn) (cs : List Value) : Prop := ∃ sf xf, cs = [.int .i64 c.pos, str c.name, sf] ∧ au g 5 sf c.fields.length xf ∧ aV g c.fields xf
def gC (g : ab) (d : Da) (cs : List Value) : Prop := ∃ sp sc xc, cs = [.int .i64 d.pos, str d.name, sp, sc] ∧ au g 1 sp d.params.length (d.params.map str) ∧ au g 3 sc d.cons.length xc ∧ aL (kq g) d.cons xc
def iQ (g : ab) (x : Bi) (cs : List Value) : Prop := ∃ tc ec, cs = [.int .i64 x.pos, .bool x.isRec, str x.name, .bool x.fD] ++ (tc ++ ec) ∧ bx g x.sig tc ∧ cJ g x.body ec
def ug (g : ab) (p : Pg) (cs : List Value) : Prop := ∃ sd xd sb xb, cs = [sd, sb] ∧ au g 4 sd p.al.length xd ∧ aL (gC g) p.al xd ∧ au g 20 sb p.binds.length xb ∧ aL (iQ g) p.binds xb
theorem kq.mono {g g' : ab} (hle : ab.le g g') {c : Cn} {cs : List Value} (h : kq g c cs) : kq g' c cs := by
 obtain ⟨sf, xf, h1, h2, h3⟩ := h
 exact ⟨sf, xf, h1, h2.mono hle, h3.mono hle⟩
theorem rS {g g' : ab} (hle : ab.le g g') {l : List Cn} {xs : List Value} (h : aL (kq g) l xs) : aL (kq g') l xs := aL.mono (fun _ _ h => h.mono hle) h
theorem gC.mono {g g' : ab} (hle : ab.le g g') {d : Da} {cs : List Value} (h : gC g d cs) : gC g' d cs := by
 obtain ⟨sp, sc, xc, h1, h2, h3, h4⟩ := h
 exact ⟨sp, sc, xc, h1, h2.mono hle, h3.mono hle, rS hle h4⟩
theorem ng {g g' : ab} (hle : ab.le g g') {l : List Da} {xs : List Value} (h : aL (gC g) l xs) : aL (gC g') l xs := aL.mono (fun _ _ h => h.mono hle) h
theorem iQ.mono {g g' : ab} (hle : ab.le g g') {d : Bi} {cs : List Value} (h : iQ g d cs) : iQ g' d cs := by
 obtain ⟨tc, ec, h1, h2, h3⟩ := h
 exact ⟨tc, ec, h1, h2.mono hle, h3.mono hle⟩
theorem ql {g g' : ab} (hle : ab.le g g') {l : List Bi} {xs : List Value} (h : aL (iQ g) l xs) : aL (iQ g') l xs := aL.mono (fun _ _ h => h.mono hle) h
theorem ug.mono {g g' : ab} (hle : ab.le g g') {p : Pg} {cs : List Value} (h : ug g p cs) : ug g' p cs := by
 obtain ⟨sd, xd, sb, xb, h1, h2, h3, h4, h5⟩ := h
 exact ⟨sd, xd, sb, xb, h1, h2.mono hle, ng hle h3, h4.mono hle, ql hle h5⟩
theorem kq.one {g : ab} {c : Cn} {cs : List Value} (h : kq g c cs) : cs.length = 3 ∧ ∀ u ∈ cs, fx u = true := by
 obtain ⟨sf, xf, rfl, h2, h3⟩ := h
 obtain ⟨a, m, k, rfl⟩ := au.form h2
 exact ⟨rfl, by simp [fx]⟩
theorem gC.one {g : ab} {c : Da} {cs : List Value} (h : gC g c cs) : cs.length = 4 ∧ ∀ u ∈ cs, fx u = true := by
 obtain ⟨sp, sc, xc, rfl, h2, h3, h4⟩ := h
 obtain ⟨a, m, k, rfl⟩ := au.form h2
 obtain ⟨a', m', k', rfl⟩ := au.form h3
 exact ⟨rfl, by simp [fx]⟩
theorem iQ.one {g : ab} {c : Bi} {cs : List Value} (h : iQ g c cs) : cs.length = 20 ∧ ∀ u ∈ cs, fx u = true := by
 obtain ⟨tc, ec, rfl, h2, h3⟩ := h
 have h4 := h2.one
 have h5 := h3.one
 refine ⟨by simp [h4.1, h5.1], fun u hu => ?_⟩
 rcases List.mem_append.1 hu with hu | hu
 ·simp only [List.mem_cons, List.not_mem_nil, or_false] at hu
  rcases hu with rfl | rfl | rfl | rfl <;> rfl
 ·rcases List.mem_append.1 hu with hu | hu
  ·exact h4.2 u hu
  ·exact h5.2 u hu
def qD (g : ab) (v : Value) (d : Da) : Prop := ∃ cs, v = .agg cs.toArray ∧ gC g d cs
def xg (g : ab) (v : Value) (x : Bi) : Prop := ∃ cs, v = .agg cs.toArray ∧ iQ g x cs
def ll (g : ab) (v : Value) (x : Pg) : Prop := ∃ cs, v = .agg cs.toArray ∧ ug g x cs
theorem gC.form {g : ab} {d : Da} {cs : List Value} (h : gC g d cs) : ∃ (a1 : Option Addr) (c1 : Nat) (a2 : Option Addr) (c2 : Nat) (xc : List Value), cs = [.int .i64 d.pos, str d.name, .slice a1 d.params.length c1, .slice a2 d.cons.length c2] ∧
  au g 1 (.slice a1 d.params.length c1) d.params.length (d.params.map str) ∧ au g 3 (.slice a2 d.cons.length c2) d.cons.length xc ∧ aL (kq g) d.cons xc := by
 obtain ⟨sp, sc, xc, rfl, h2, h3, h4⟩ := h
 have f : ∀ {size n : Nat} {v : Value} {xs : List Value}, au g size v n xs → ∃ a c, v = .slice a n c := by
  intro size n v xs h
  rcases h.2 with ⟨⟨a, c, rfl⟩, h0⟩ | ⟨b, off, cap, rfl, _⟩
  ·exact ⟨_, _, by rw [h0]⟩
  ·exact ⟨_, _, rfl⟩
 obtain ⟨a1, c1, rfl⟩ := f h2
 obtain ⟨a2, c2, rfl⟩ := f h3
 exact ⟨a1, c1, a2, c2, xc, rfl, h2, h3, h4⟩
end Go.Proofs.YtlnjfkfojkgiiaaGreatDoor

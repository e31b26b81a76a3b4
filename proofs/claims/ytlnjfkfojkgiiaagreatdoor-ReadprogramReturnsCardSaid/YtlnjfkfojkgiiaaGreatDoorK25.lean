/- Resolution: the walks of typedholesref16.resolve and Resolve. -/
import Derived.Test.YtlnjfkfojkgiiaaGreatDoorK24
open Go Go.aZ Go.Th Go.Proofs Tryz
set_option maxRecDepth 10000
set_option maxHeartbeats 4000000
attribute [local irreducible] wpList Code.wp ah bodyPost Go.aZ.Ends Exit.then Exit.inBlock dJ Wq Kq
namespace Go.Proofs.YtlnjfkfojkgiiaaGreatDoor
theorem O2 (S : List aW) (hN : S.length ≤ 100000) (m : Nat) : ∀ (N : Nat) (g : ab) (v u : Value) (t y : Ty), aE y < N → aE y ≤ 4000 → gr S t y → eJ g v S m → aQ g u t → bK prog 228 [v, u] g fun w g' => aQ g' w y
 | 0, _, _, _, _, _, h, _, _, _, _ => by omega
 | N + 1, g, v, u, t, y, h, hn, hy, hv, hu => by
  have ih := O2 S hN m N
  have lD := jA y
  have nt := pt y.args
  have bN : ∀ t' ∈ y.args, aE t' < N ∧ aE t' ≤ 4000 := fun t' eF => by have := mN eF; omega
  obtain ⟨a, c, a', c', xs, ys, rfl, _⟩ := id hv
  obtain ⟨ya, ym, yc, rfl, h5⟩ := hu.bA
  obtain ⟨⟨e1, e2, e3, e4⟩, dF⟩ := pA.1 hy
  obtain ⟨hlen, YT⟩ := mj.1 dF
  refine aw func228 rfl ntmps228 rfl fun E hE => ?_
  refine aS ?_
  refine aP rfl rfl rfl (fun b2 => ?_)
  skip
  refine aP rfl rfl rfl (fun b3 => ?_)
  skip
  refine aj rfl (fun b4 => ?_)
  refine wz.O.Af.c.b.z ?_
  refine aB rfl rfl (jm g S oM m _ _ t hv ⟨_, rfl, h5⟩) ?_
  rintro w g1 ⟨rfl, hw⟩ _
  obtain ⟨sl, rfl, ir⟩ := hw
  obtain ⟨zs, aJ, eE⟩ := ir.args
  obtain ⟨wa, wc, rfl⟩ := ir.slice
  have hle := aJ.le
  refine wz.O.c.b.B.z ?_
  refine aj rfl (fun b5 => ?_)
  refine wz.AD.p.b.a.c.e.b.Ac.g.c.b.q.z ?_
  skip
  refine aX (ι := Nat × ab × Option Addr × Nat × List Value) (fun o => [(2, ptr b2 0), (3, ptr b3 0), (4, ptr b4 0), (5, ptr b5 0), (6, .int .i64 o.1)]) (fun o => o.2.1) (fun o => [.row 41 5 (.slice o.2.2.1 o.1 o.2.2.2.1) o.1 o.2.2.2.2, .ae b5 41 [.int .i64 (walk S t).kind, str (walk S t).name, .int .i64 (walk S t).id, .int .i64 (walk S t).home, .slice o.2.2.1 o.1 o.2.2.2.1], .ae b4 41 k_, .ae b3 41 (aH (walk S t) (.slice wa (walk S t).args.length wc)), .ae b2 215 [.slice a S.length c, .slice a' m c']]) (fun o => o.1 ≤ (walk S t).args.length ∧ ab.le g1 o.2.1 ∧ aV o.2.1 (y.args.take o.1) o.2.2.2.2) (fun o => (walk S t).args.length - o.1) (0, g1, none, 0, []) ⟨oM, ab.le_refl _, cQ g1⟩ ⟨rfl, rfl, rfl, rfl, rfl, trivial⟩ rfl rfl ?_
  rintro ⟨k, g2, z1, z3, us⟩ ⟨hk, a8, oF⟩
  simp only at hk a8 oF
  try dsimp only
  refine wz.b.a.A.AN.g.a.c.e.z ?_
  refine an rfl (fun hlt => ?_) (fun hlt => ?_)
  ·have af : k < (walk S t).args.length := by omega
   have Hw : k < y.args.length := by omega
   have hm := bN _ (List.getElem_mem Hw)
   obtain ⟨b, off, cap, aq, dB⟩ := (aJ.mono a8).held af
   cases aq
   obtain ⟨cS, h2, hr⟩ := eZ (eE.mono a8) dB af
   refine wz.p.e.d.j.z ?_
   refine fQ 11 [0] mixed kR (fun hG => ?_)
   refine wz.Ar.z ?_; refine ⟨_, (aI rfl), ?_⟩; refine wz.Ax.z ?_; refine ⟨_, (a7 0 rfl rfl rfl), ?_⟩; refine wz.Ay.z ?_; refine ⟨_, (bP 3 rfl rfl rL), ?_⟩; refine wz.AS.z ?_; refine ⟨_, (aI rfl), ?_⟩; refine wz.AT.z ?_; refine ⟨_, (a7 2 rfl rfl rfl), ?_⟩; refine wz.Be.z ?_; refine ⟨_, (ag rfl), ?_⟩
   refine di 6 rfl kR rfl hG ⟨_, (bU (j := k) rfl rfl rfl af), ?_⟩
   refine di 7 rfl kR rfl hG ⟨_, (dL rfl (hr _) rfl), ?_⟩; refine wz.Bx.z ?_
   refine aB rfl rfl (ih g2 _ _ _ _ hm.1 hm.2 (YT k af Hw) (hv.mono a8) ⟨cS, rfl, h2⟩) ?_
   rintro w g3 hw aD
   obtain ⟨va, vm, vc, rfl, jT⟩ := hw.bA
   refine wz.BD.f.b.z ?_
   skip
   refine bu rfl rfl rL rL rL rL rL (fun y0 => ?_)
   refine wz.BE.f.b.z ?_
   skip
   refine cV 1 0 rfl rfl rfl rfl rfl rL rL rfl mL oM (fun v' _ => ?_)
   refine wz.AC.z ?_
   rintro ⟨q1, q3, rfl⟩
   refine wz.b.a.E.a.r.d.y.N.Ah.g.BB.Am.f.b.z ?_
   exact aM (k + 1, g3, q1, q3, _) ⟨oM, ab.le_trans a8 aD, by rw [List.take_succ_eq_append_getElem Hw]; exact aV.snoc jT (oF.mono aD)⟩ uM ⟨rfl, rfl, rfl, rfl, rfl, trivial⟩ rfl rfl
  ·obtain rfl : k = (walk S t).args.length := by omega
   rw [hlen, List.take_length] at oF
   refine bg (fun g3 aD bj => ?_)
   refine wz.i.b.B.G.c.d.D.m.m.C.z ?_
   refine bp [] rfl (ay 1 rfl rfl rL) sZ ⟨?_, rfl⟩
   rw [e1, e2, e3, e4]
   exact ⟨_, rfl, bx.mk (t := y) (by rw [← hlen]; exact bj) (oF.mono aD)⟩
theorem Hy (g : ab) (S : List aW) (hN : S.length ≤ 100000) (m : Nat) (v u : Value) (t : Ty) (hv : eJ g v S m) (hu : aQ g u t) : bK prog 216 [v, u] g fun w g' => ∃ tv y ok, w = .tuple #[tv, .bool ok] ∧ aQ g' tv y ∧ aE y ≤ 4000 ∧ (gr S t y ∨ y = bX ∧ ∀ z, gr S t z → 4000 < aE z) := by
 obtain ⟨a, c, a', c', xs, ys, rfl, _⟩ := id hv
 obtain ⟨ya, ym, yc, rfl, h5⟩ := hu.bA
 refine aw func216 rfl ntmps216 rfl fun E hE => ?_
 refine aS ?_
 refine aP rfl rfl rfl (fun b2 => ?_)
 skip
 refine aP rfl rfl rfl (fun b3 => ?_)
 skip
 refine aj rfl (fun b4 => ?_)
 refine wz.O.Af.c.e.b.a.z ?_
 refine aB rfl rfl (Dx g S hN m _ _ t 4000 oM hv ⟨_, rfl, h5⟩) ?_
 rintro w g1 ⟨rfl, r, rfl, hr⟩ _
 obtain ⟨r1, r2, r3⟩ := hr
 refine wz.b.a.z ?_
 refine an rfl (fun gE => ?_) (fun gE => ?_)
 ·refine wz.l.i.b.a.q.K.c.z ?_
  exact cB [] rfl (ay 0 rfl rfl rL) (.tmp rfl) sZ ⟨⟨_, bX, _, rfl, ⟨_, rfl, bx.mk (t := bX) (cP g1 5) (cQ g1)⟩, by simp [bX, aE, bM], .inr ⟨rfl, fun z hz => by
   by_cases hk : aE z ≤ 4000
   ·have := r3 z hz hk; omega
   ·omega⟩⟩, rfl⟩
 ·obtain ⟨y, hy, e⟩ := r2 oM
  refine wz.O.Af.c.d.j.z ?_
  refine aB rfl rfl (O2 S hN m (aE y + 1) g1 _ _ t y oM oM hy hv ⟨_, rfl, h5⟩) ?_
  rintro w g2 hw _
  obtain ⟨va, vm, vc, rfl, jT⟩ := hw.bA
  refine wz.i.b.a.q.z ?_
  exact cB [] rfl (ay 0 rfl rfl rL) (.tmp rfl) sZ ⟨⟨_, y, _, rfl, ⟨_, rfl, jT⟩, oM, .inl hy⟩, rfl⟩
end Go.Proofs.YtlnjfkfojkgiiaaGreatDoor
namespace Go.Th
theorem Dy : ∀ (N : Nat) (l : List Int), l.Nodup → (∀ x ∈ l, 0 ≤ x ∧ x < (N : Int)) → l.length ≤ N
 | 0, [], _, _ => Nat.le_refl _
 | 0, a :: l, _, h => by have := h a (List.mem_cons_self ..); omega
 | N + 1, l, hd, h => by
  by_cases hm : (N : Int) ∈ l
  ·have h1 := Dy N (l.erase (N : Int)) (hd.erase _) fun x hx => by
    have h2 := (List.Nodup.mem_erase_iff hd).1 hx
    have := h x h2.2
    have := h2.1
    omega
   rw [List.length_erase_of_mem hm] at h1
   omega
  ·have h1 := Dy N l hd fun x hx => by
    have := h x hx
    have : x ≠ N := fun e => hm (e ▸ hx)
    omega
   omega
def oH (seen : List Bool) : Nat := seen.countP fun b => !b
theorem YU {seen : List Bool} {i : Nat} (h : seen[i]? = some false) : oH (seen.set i true) + 1 = oH seen := by
 obtain ⟨hl, e⟩ := List.getElem?_eq_some_iff.1 h
 induction seen generalizing i with
 | nil => cases hl
 | cons a r ih =>
  cases i with
  | zero =>
   simp only [List.getElem_cons_zero] at e
   subst e
   simp [oH]
  | succ i =>
   simp only [List.getElem_cons_succ] at e
   have := ih (i := i) (by simpa using h) (by simpa using hl) e
   unfold oH at this ⊢
   simp only [List.set_cons_succ, List.countP_cons]
   omega
end Go.Th
namespace Go.Proofs.YtlnjfkfojkgiiaaGreatDoor
abbrev mS (bF bs : Nat) (sv tv : Value) (ids : List Int) (fa : Option Addr) (fc : Nat) (seen : List Bool) : List aA := [.row 3 1 (.slice fa ids.length fc) ids.length (ints ids), .ae bF 318 [sv, tv, .slice fa ids.length fc, .slice (some ⟨bs, 0, none⟩) seen.length seen.length], .ae bs 4 (seen.map .bool)]
def Dz (N : Nat) (ids : List Int) (seen : List Bool) : Prop := seen.length = N ∧ ids.Nodup ∧ ∀ x ∈ ids, 0 ≤ x ∧ x < (N : Int)
def DA (g : ab) (S : List aW) (sv tv : Value) (bF bs U N : Nat) : Prop := ∀ (u : Value) (t : Ty) (ids : List Int) (fa : Option Addr) (fc : Nat) (seen : List Bool), oH seen ≤ U → aE t < N → aQ g u t → OK S.length 0 false t → Dz S.length ids seen →
  aZ.Spec prog 245 [ptr bF 0, u] g (mS bF bs sv tv ids fa fc seen) fun _ g' own' => g' = g ∧ ∃ rn tF tG qt, own' = mS bF bs sv tv rn tF tG qt ∧ Dz S.length rn qt ∧ oH qt ≤ oH seen
theorem YV (g : ab) (S : List aW) (hS : fu S) (hN : S.length ≤ 100000) (m : Nat) (sv tv : Value) (hv : eJ g (.agg #[sv, tv]) S m) (bF bs U N : Nat) (Hz : ∀ U' < U, ∀ N, DA g S sv tv bF bs U' N) (ih : DA g S sv tv bF bs U N) : DA g S sv tv bF bs U (N + 1) := by
  intro u t ids fa fc seen hU hn hu bW hF
  obtain ⟨a, c, a', c', xs, ys, YW, h1, h2, h3, h4⟩ := id hv
  cases YW
  obtain ⟨ya, ym, yc, rfl, h5⟩ := hu.bA
  obtain ⟨f1, f2, f3⟩ := id hF
  have hlen := Dy _ _ f2 f3
  have lD := jA t
  have YX := iT (lU bW)
  refine aw func245 rfl ntmps245 rfl fun E hE => ?_
  refine aS ?_
  refine aP rfl rfl rfl (fun b3 => ?_)
  refine wz.b.a.v.g.c.e.b.z ?_
  refine an rfl (fun hk => ?_) (fun hk => ?_)
  ·have uI : t.kind = 1 := by first | exact of_decide_eq_true hk | (simpa using hk)
   have hid : 0 ≤ t.id ∧ t.id < S.length := by omega
   refine wz.e.p.e.z ?_
   refine bO [] mixed (fun hG => ?_)
   refine wz.P.z ?_; refine ⟨_, (ag rfl), ?_⟩; refine wz.R.z ?_; refine ⟨_, (ag rfl), ?_⟩; refine wz.S.z ?_; refine ⟨_, (aI rfl), ?_⟩; refine wz.X.z ?_; refine ⟨_, (bP 2 rfl rfl rL), ?_⟩; refine wz.Z.z ?_; refine ⟨_, (bP 0 rfl rfl rL), ?_⟩
   refine wz.Aq.z ?_
   refine aO rfl rfl (OV g S m _ _ t hv ⟨_, rfl, h5⟩) ?_
   refine wz.Ak.f.b.z ?_; refine ⟨_, (ag rfl), ?_⟩
   refine wz.F.f.b.a.AM.z ?_
   cases hb : dG S t with
   | true =>
    have hlt : t.id.toNat < S.length := by omega
    have DB : t.id.toNat < seen.length := by omega
    refine wz.e.o.d.z ?_
    refine bO [] mixed (fun hG => ?_)
    refine wz.P.z ?_; refine ⟨_, (ag rfl), ?_⟩; refine wz.R.z ?_; refine ⟨_, (ag rfl), ?_⟩; refine wz.S.z ?_; refine ⟨_, (aI rfl), ?_⟩; refine wz.X.z ?_; refine ⟨_, (a7 2 rfl rfl rfl), ?_⟩; refine wz.Z.z ?_; refine ⟨_, (aI rfl), ?_⟩; refine wz.Ad.z ?_; refine ⟨_, (a7 0 rfl rfl rfl), ?_⟩
    refine bn 6 rfl kR rfl hG ⟨_, (bU (j := t.id.toNat) rfl rfl oM DB), ?_⟩
    refine bn 7 rfl kR rfl hG ⟨_, (cU rfl (HA (v := .bool seen[t.id.toNat]) 3 rfl (by simp [DB]))), ?_⟩
    refine wz.AV.z ?_; refine ⟨_, (ag rfl), ?_⟩
    refine wz.F.f.b.a.Ai.z ?_
    cases hs : seen[t.id.toNat] with
    | true =>
     refine wz.l.i.d.y.j.o.d.z ?_
     exact iR _ rfl sA ⟨rfl, ids, fa, fc, seen, rfl, hF, Nat.le_refl _⟩
    | false =>
     have DC := YU (seen := seen) (i := t.id.toNat) (by rw [List.getElem?_eq_getElem DB, hs])
     obtain ⟨b, off, cap, aq, hx⟩ := h1.held hlt
     cases aq
     obtain ⟨cs, e1, hr⟩ := dt (fun _ _ h => h.one.1) h2 hx hlt
     obtain ⟨sa, sc, rfl, e2⟩ := e1.form
     obtain ⟨-, -, -, s1, aJ, bj, bY⟩ := xT hb
     refine wz.e.t.d.z ?_
     refine fQ 6 [] mixed kR (fun hG => ?_)
     refine wz.Ar.z ?_; refine ⟨_, (ag rfl), ?_⟩; refine wz.Ax.z ?_; refine ⟨_, (ag rfl), ?_⟩; refine wz.Ay.z ?_; refine ⟨_, (aI rfl), ?_⟩; refine wz.AS.z ?_; refine ⟨_, (a7 2 rfl rfl rfl), ?_⟩; refine wz.AT.z ?_; refine ⟨_, (aI rfl), ?_⟩; refine wz.Be.z ?_; refine ⟨_, (a7 0 rfl rfl rfl), ?_⟩
     refine wz.Am.z ?_
     skip
     refine gV (j := t.id.toNat) rfl rfl rfl oM DB ?_
     refine mJ 3 rfl rfl rfl rfl rfl (HB _ _ _ nM) ?_; refine iV ?_
     refine fQ 11 [] mixed kR (fun hG => ?_)
     refine wz.Ar.z ?_; refine ⟨_, (ag rfl), ?_⟩; refine wz.Ax.z ?_; refine ⟨_, (ag rfl), ?_⟩; refine wz.Ay.z ?_; refine ⟨_, (ag rfl), ?_⟩; refine wz.AS.z ?_; refine ⟨_, (aI rfl), ?_⟩; refine wz.AT.z ?_; refine ⟨_, (aI rfl), ?_⟩; refine wz.Be.z ?_; refine ⟨_, (a7 2 rfl rfl rfl), ?_⟩; refine wz.Bs.z ?_; refine ⟨_, (aI rfl), ?_⟩; refine wz.Bo.z ?_; refine ⟨_, (a7 0 rfl rfl rfl), ?_⟩
     refine di 8 rfl kR rfl hG ⟨_, (bU (j := t.id.toNat) rfl rfl oM hlt), ?_⟩
     refine wz.BI.z ?_; refine ⟨_, (aI rfl), ?_⟩
     refine di 10 rfl kR rfl hG ⟨_, (dL rfl ((hr _).part 1 (vs := [.int .i64 S[t.id.toNat].ty.kind, str S[t.id.toNat].ty.name, .int .i64 S[t.id.toNat].ty.id, .int .i64 S[t.id.toNat].ty.home, .slice sa S[t.id.toNat].ty.args.length sc]) (fun j x h => by rw [Nat.add_comm]; exact OU h)) rfl), ?_⟩
     refine wz.Am.z ?_
     skip
     have mr : OK S.length 0 false S[t.id.toNat].ty := by
      rw [List.getElem?_eq_getElem hlt] at aJ
      cases aJ
      exact ((hS _ _ (List.getElem?_eq_getElem hlt)).2 bj).1
     refine jN (lent := mS bF bs (.slice (some ⟨b, off, none⟩) S.length c) (.slice a' m c') ids fa fc (seen.set t.id.toNat true)) (kept := [_]) rfl rfl (by simp only [mS, List.length_set, List.map_set, Nat.zero_add, Nat.mul_one]; exact List.perm_append_comm (l₁ := [_])) (Hz (oH (seen.set t.id.toNat true)) oM (aE S[t.id.toNat].ty + 1) _ _ ids fa fc _ (Nat.le_refl _) (Nat.lt_succ_self _) ⟨_, rfl, e2⟩ mr ⟨by rw [List.length_set]; exact f1, f2, f3⟩) ?_
     rintro w g1 own' ⟨rfl, rn, tF, tG, qt, rfl, x_, gq⟩ _
     refine wz.l.i.d.y.N.z ?_
     exact iR _ rfl (List.sublist_append_left _ _) ⟨rfl, rn, tF, tG, qt, rfl, x_, oM⟩
   | false =>
    refine wz.e.t.d.z ?_
    refine bO [] mixed (fun hG => ?_)
    refine wz.P.z ?_; refine ⟨_, (ag rfl), ?_⟩; refine wz.R.z ?_; refine ⟨_, (ag rfl), ?_⟩; refine wz.S.z ?_; refine ⟨_, (aI rfl), ?_⟩; refine wz.X.z ?_; refine ⟨_, (a7 2 rfl rfl rfl), ?_⟩; refine wz.Z.z ?_; refine ⟨_, (aI rfl), ?_⟩; refine wz.Ad.z ?_; refine ⟨_, (a7 0 rfl rfl rfl), ?_⟩
    refine wz.Ao.z ?_
    refine eo 1 rfl rfl rfl (GQ fun g' _ oA => B8 g' _ ids oA t.id) ?_
    refine wz.Aa.f.b.z ?_; refine ⟨_, (ag rfl), ?_⟩
    refine wz.F.z ?_
    by_cases hm : t.id ∈ ids
    ·rw [decide_eq_true hm]
     refine wz.l.i.d.y.j.o.d.z ?_
     exact iR _ rfl sA ⟨rfl, ids, fa, fc, seen, rfl, hF, Nat.le_refl _⟩
    ·rw [decide_eq_false hm]
     refine wz.t.d.z ?_
     refine fQ 9 [1] mixed kR (fun hG => ?_)
     refine wz.Ar.z ?_; refine ⟨_, (ag rfl), ?_⟩; refine wz.Ax.z ?_; refine ⟨_, (ag rfl), ?_⟩; refine wz.Ay.z ?_; refine ⟨_, (ag rfl), ?_⟩; refine wz.AS.z ?_; refine ⟨_, (aI rfl), ?_⟩; refine wz.AT.z ?_; refine ⟨_, (a7 1 rfl rfl rfl), ?_⟩; refine wz.Be.z ?_; refine ⟨_, (aI rfl), ?_⟩; refine wz.Bs.z ?_; refine ⟨_, (a7 0 rfl rfl rfl), ?_⟩
     refine wz.BK.z ?_
     refine bu rfl rfl rL rL rL rL rL (fun y0 => ?_)
     refine wz.Bx.f.b.z ?_
     skip
     refine cV 2 0 rfl rfl rfl rfl rfl rL rL rfl mL oM (fun v' _ => ?_)
     refine wz.BU.z ?_
     rintro ⟨q1, q3, rfl⟩
     refine wz.l.i.d.y.N.Bl.g.a.Am.f.b.z ?_
     exact iR (mS bF bs (.slice a S.length c) (.slice a' m c') (ids ++ [t.id]) q1 q3 seen) rfl (by rw [mS, List.length_append, GO]; exact .cons _ (.cons _ (List.Sublist.refl _))) ⟨rfl, _, q1, q3, seen, rfl, ⟨f1, List.nodup_append.2 ⟨f2, sM, fun x hx y hy => by rw [List.mem_singleton.1 hy]; exact fun e => hm (e ▸ hx)⟩, fun x hx => by
      rcases List.mem_append.1 hx with hx | hx
      ·exact f3 x hx
      ·rw [List.mem_singleton.1 hx]; exact hid⟩, Nat.le_refl _⟩
  ·obtain ⟨wa, wc, F5⟩ := h5.slice
   cases F5
   obtain ⟨zs, hz, qp⟩ := h5.args
   have hle := hz.le
   refine wz.p.b.a.c.d.j.z ?_
   refine ko (own' := mS bF bs (.slice a S.length c) (.slice a' m c') ids fa fc seen ++ [_]) (List.perm_append_comm (l₁ := [_])) ?_
   refine aX (ι := Nat × List Int × Option Addr × Nat × List Bool) (fun o => [(0, ptr bF 0), (3, ptr b3 0), (4, .int .i64 o.1)]) (fun _ => g) (fun o => mS bF bs (.slice a S.length c) (.slice a' m c') o.2.1 o.2.2.1 o.2.2.2.1 o.2.2.2.2 ++ [.ae b3 41 (aH t (.slice ya t.args.length yc))]) (fun o => o.1 ≤ t.args.length ∧ Dz S.length o.2.1 o.2.2.2.2 ∧ oH o.2.2.2.2 ≤ oH seen) (fun o => t.args.length - o.1) (0, ids, fa, fc, seen) ⟨Nat.zero_le _, hF, Nat.le_refl _⟩ ⟨rfl, rfl, rfl, trivial⟩ rfl rfl ?_
   rintro ⟨k, tH, vB, vC, tI⟩ ⟨gW, qu, DC⟩
   simp only at gW qu DC
   try dsimp only
   refine wz.b.a.A.AN.g.a.c.e.z ?_
   refine an rfl (fun hlt => ?_) (fun hlt => ?_)
   ·have af : k < t.args.length := by omega
    have YY := mN (List.getElem_mem af)
    obtain ⟨b, off, cap, aq, hx⟩ := hz.held af
    cases aq
    obtain ⟨cS, h6, hr⟩ := eZ qp hx af
    refine wz.An.M.a.AN.g.a.r.p.e.d.j.z ?_
    skip
    refine jN (lent := mS bF bs (.slice a S.length c) (.slice a' m c') tH vB vC tI) (kept := [_]) rfl rfl (List.Perm.refl _) (ih _ _ tH vB vC tI oM oM ⟨cS, rfl, h6⟩ (oB bW _ (List.getElem_mem af)) qu) ?_
    rintro w g1 own' ⟨rfl, rn, tF, tG, qt, rfl, x_, gq⟩ _
    refine wz.b.a.E.a.r.d.y.N.z ?_
    exact aM (k + 1, rn, tF, tG, qt) ⟨oM, x_, Nat.le_trans gq DC⟩ uM ⟨rfl, rfl, rfl, trivial⟩ rfl rfl
   ·refine wz.AX.D.m.m.C.z ?_
    exact iR _ rfl (List.sublist_append_left _ _) ⟨rfl, tH, vB, vC, tI, rfl, qu, DC⟩
theorem YZ (g : ab) (S : List aW) (hS : fu S) (hN : S.length ≤ 100000) (m : Nat) (sv tv : Value) (hv : eJ g (.agg #[sv, tv]) S m) (bF bs : Nat) : ∀ U N, DA g S sv tv bF bs U N := by
 intro U
 induction U using Nat.strongRecOn with
 | ind U Hz =>
  intro N
  induction N with
  | zero => intro u t ids fa fc seen _ h; omega
  | succ N ih => exact YV g S hS hN m sv tv hv bF bs U N (fun U' h N' => Hz U' h N') ih
theorem O3 : ∀ n, dO n [Value.bool false] = (List.replicate n false).map .bool
 | 0 => rfl
 | n + 1 => by
  show Value.bool false :: dO n [Value.bool false] = _
  rw [O3 n]; rfl
theorem Y0 (g : ab) (S : List aW) (hS : fu S) (hN : S.length ≤ 100000) (m : Nat) (v va : Value) (hv : eJ g v S m) (l : List Ty) (xl : List Value) (hl : au g 5 va l.length xl) (hx : aV g l xl) (bW : kG S.length 0 false l) :
  bK prog 241 [v, va] g fun w g' => ∃ ids : List Int, au g' 1 w ids.length (ints ids) ∧ ids.length ≤ S.length ∧ ∀ x ∈ ids, 0 ≤ x ∧ x < (S.length : Int) := by
 obtain ⟨a, c, a', c', xs, ys, rfl, h1, h2, h3, h4⟩ := id hv
 obtain ⟨la, lc, rfl⟩ := aU hl
 have hle := hl.le
 refine aw func241 rfl ntmps241 rfl fun E hE => ?_
 refine aS ?_
 refine aP rfl rfl rfl (fun b2 => ?_)
 refine wz.e.b.a.z ?_
 refine bO [] mixed (fun hG => ?_)
 refine wz.P.z ?_; refine ⟨_, (bP 0 rfl rfl rL), ?_⟩; refine wz.R.z ?_; refine ⟨_, (aI rfl), ?_⟩; refine wz.S.z ?_; refine ⟨_, (a7 0 rfl rfl rfl), ?_⟩; refine wz.X.z ?_; refine ⟨_, (jQ rfl), ?_⟩
 refine wz.AH.z ?_
 refine HC rfl rfl rfl rL rL oM oM (fun bs => ?_)
 refine wz.Ad.f.b.z ?_; refine ⟨_, (et rfl rL), ?_⟩
 refine wz.Ao.z ?_
 refine aP rfl rfl rfl (fun b5 => ?_)
 refine wz.p.b.a.c.e.d.F.f.b.a.AM.f.b.z ?_
 rw [O3]
 refine fW 3 1 ?_
 refine ko (own' := mS b5 bs (.slice a S.length c) (.slice a' m c') [] none 0 (List.replicate S.length false) ++ [.ae b2 215 [.slice a S.length c, .slice a' m c']]) (by simp only [mS, List.length_replicate]; exact List.Perm.refl _) ?_
 refine aX (ι := Nat × List Int × Option Addr × Nat × List Bool) (fun o => [(1, .slice la l.length lc), (5, ptr b5 0), (6, .int .i64 o.1)]) (fun _ => g) (fun o => mS b5 bs (.slice a S.length c) (.slice a' m c') o.2.1 o.2.2.1 o.2.2.2.1 o.2.2.2.2 ++ [.ae b2 215 [.slice a S.length c, .slice a' m c']]) (fun o => o.1 ≤ l.length ∧ Dz S.length o.2.1 o.2.2.2.2) (fun o => l.length - o.1) (0, [], none, 0, List.replicate S.length false) ⟨Nat.zero_le _, List.length_replicate, List.nodup_nil, fun _ h => by cases h⟩ ⟨rfl, rfl, rfl, trivial⟩ rfl rfl ?_
 rintro ⟨k, tH, vB, vC, tI⟩ ⟨gW, qu⟩
 simp only at gW qu
 try dsimp only
 refine wz.b.a.A.a.a.c.e.z ?_
 refine an rfl (fun hlt => ?_) (fun hlt => ?_)
 ·have af : k < l.length := by omega
  obtain ⟨b, off, cap, aq, kF⟩ := hl.held af
  cases aq
  obtain ⟨cS, h6, hr⟩ := eZ hx kF af
  refine wz.An.M.a.a.a.r.p.e.d.j.z ?_
  skip
  refine jN (lent := mS b5 bs (.slice a S.length c) (.slice a' m c') tH vB vC tI) (kept := [_]) rfl rfl (List.Perm.refl _) (YZ g S hS hN m _ _ hv b5 bs (oH tI) (aE l[k] + 1) _ _ tH vB vC tI (Nat.le_refl _) (Nat.lt_succ_self _) ⟨cS, rfl, h6⟩ (bW _ (List.getElem_mem af)) qu) ?_
  rintro w g1 own' ⟨rfl, rn, tF, tG, qt, rfl, x_, gq⟩ _
  refine wz.b.a.E.a.r.d.y.N.z ?_
  exact aM (k + 1, rn, tF, tG, qt) ⟨oM, x_⟩ uM ⟨rfl, rfl, rfl, trivial⟩ rfl rfl
 ·refine bg (fun g1 a8 aJ => ?_)
  refine wz.i.b.a.v.g.a.a.c.d.D.m.m.C.z ?_
  exact ao [] rfl rfl sZ ⟨⟨tH, aJ, Dy _ _ qu.2.1 qu.2.2, qu.2.2⟩, rfl⟩
end Go.Proofs.YtlnjfkfojkgiiaaGreatDoor
namespace Go.Th
structure gP (S : List aW) (m : Nat) (S' : List aW) (m' : Nat) : Prop where
 ok : fu S'
 len : S'.length = S.length
 mono : km S S'
 DD : SB S S' ∨ gO S' < gO S
 gj : m' + 2 * gO S' ≤ m + 2 * gO S
theorem gP.refl {S : List aW} {m : Nat} (h : fu S) : gP S m S m := ⟨h, rfl, km.refl S, .inl rfl, Nat.le_refl _⟩
theorem gP.HD {S S' : List aW} {m m' : Nat} (h : gP S m S' m') : gO S' ≤ gO S := by
 rcases h.DD with h | h
 ·rw [h.gO]; exact Nat.le_refl _
 ·omega
theorem gP.trans {A B C : List aW} {m n k : Nat} (h : gP A m B n) (h' : gP B n C k) : gP A m C k := by
 refine ⟨h'.ok, h'.len.trans h.len, h.mono.trans h'.mono, ?_, Nat.le_trans h'.gj h.gj⟩
 rcases h.DD with h1 | h1
 ·rcases h'.DD with h2 | h2
  ·exact .inl (h1.trans h2)
  ·exact .inr (by rw [← h1.gO]; exact h2)
 ·exact .inr (Nat.lt_of_le_of_lt h'.HD h1)
theorem Y1 {S : List aW} {m i j : Nat} {s1 s2 : aW} (hS : fu S) (ky : i < j) (h1 : S[i]? = some s1) (h2 : S[j]? = some s2) (b1 : s1.b = false) (b2 : s2.b = false) {h : Int} (hh : h = 1000000) {z : Bool} :
  gP S m ((S.set i ⟨s1.b, s1.ty, h, z⟩).set j ⟨true, .mk 1 [] i 0 [], s2.h, s2.z⟩) (m + 2) := by
 obtain ⟨k1, k2⟩ := hS _ _ h1
 obtain ⟨l1, l2⟩ := hS _ _ h2
 have hl := (List.getElem?_eq_some_iff.1 h2).1
 have e2 : (S.set i ⟨s1.b, s1.ty, h, z⟩)[j]? = some s2 := by rw [List.getElem?_set_ne oM]; exact h2
 have O4 : SB S (S.set i ⟨s1.b, s1.ty, h, z⟩) := OS h1 rfl rfl
 have hu := OR (x := ⟨true, .mk 1 [] i 0 [], s2.h, s2.z⟩) e2 b2 rfl
 rw [O4.gO] at hu
 refine ⟨xU (xU hS hh (fun hb => by rw [b1] at hb; cases hb)) l1 (fun _ => ⟨?_, fun _ => ?_⟩), sM, O4.mono.trans (Hr e2 (.inl b2)), .inr oM, oM⟩
 ·rw [List.length_set]; exact vu oM
 ·show (i : Int) < j; omega
end Go.Th
namespace Go.Proofs.YtlnjfkfojkgiiaaGreatDoor
def O5 (g : ab) (w : Value) (S : List aW) (m : Nat) : Prop := ∃ S' m', eJ g w S' m' ∧ gP S m S' m'
theorem Y2 (g : ab) (S : List aW) (hS : fu S) (hN : S.length ≤ 100000) (m : Nat) (hm : m ≤ 900000) (v u w : Value) (l r : Ty) (hv : eJ g v S m) (hu : aQ g u l) (hw : aQ g w r)
  (hl : l.kind = 1 ∧ 0 ≤ l.id ∧ l.id < S.length) (hr : r.kind = 1 ∧ 0 ≤ r.id ∧ r.id < S.length) (bl : dG S l = false) (br : dG S r = false) :
  bK prog 235 [v, u, w] g fun x g' => O5 g' x S m := by
 obtain ⟨a, c, a', c', xs, ys, rfl, h1, h2, h3, h4⟩ := id hv
 obtain ⟨la, lm, lc, rfl, h5⟩ := hu.bA
 obtain ⟨ra, rm, rc, rfl, h6⟩ := hw.bA
 refine aw func235 rfl ntmps235 rfl fun E hE => ?_
 refine aS ?_
 refine aP rfl rfl rfl (fun b3 => ?_)
 skip
 refine aP rfl rfl rfl (fun b4 => ?_)
 skip
 refine aP rfl rfl rfl (fun b5 => ?_)
 skip
 refine aj rfl (fun b6 => ?_)
 refine wz.b.a.I.g.Ag.g.c.e.b.z ?_
 refine an rfl (fun he => ?_) (fun he => ?_)
 ·refine wz.l.i.b.q.Y.c.z ?_
  exact bp [] rfl (ay 0 rfl rfl rL) sZ ⟨⟨S, m, hv, gP.refl hS⟩, rfl⟩
 ·have b_ : l.id ≠ r.id := by first | exact of_decide_eq_false he | (simpa using he)
  obtain ⟨i, hi⟩ : ∃ i : Nat, min l.id r.id = i := ⟨(min l.id r.id).toNat, oM⟩
  obtain ⟨j, hj⟩ : ∃ j : Nat, max l.id r.id = j := ⟨(max l.id r.id).toNat, oM⟩
  have ky : i < j := by omega
  have DE : j < S.length := by omega
  have yd : i < S.length := by omega
  rw [xV hl.1 hl.2.1 oM] at bl
  rw [xV hr.1 hr.2.1 oM] at br
  have b1 : S[i].b = false := by
   by_cases hc : l.id < r.id
   ·have : i = l.id.toNat := by omega
    subst this; exact bl
   ·have : i = r.id.toNat := by omega
    subst this; exact br
  have b2 : S[j].b = false := by
   by_cases hc : l.id < r.id
   ·have : j = r.id.toNat := by omega
    subst this; exact br
   ·have : j = l.id.toNat := by omega
    subst this; exact bl
  obtain ⟨b, off, cap, aq, hx⟩ := h1.held yd
  cases aq
  obtain ⟨c1, d1, g_⟩ := dt (fun _ _ h => h.one.1) h2 hx yd
  obtain ⟨c2, d2, eM⟩ := dt (fun _ _ h => h.one.1) h2 hx DE
  obtain ⟨p1, p2, rfl, f1⟩ := d1.form
  obtain ⟨q1, q2, rfl, f2⟩ := d2.form
  have g1 := List.getElem?_eq_getElem yd
  have g2 := List.getElem?_eq_getElem DE
  generalize S[i] = s1 at *
  generalize S[j] = s2 at *
  refine wz.e.d.j.z ?_
  refine bO [] mixed (fun hG => ?_)
  refine wz.P.z ?_; refine ⟨_, (aI rfl), ?_⟩; refine wz.R.z ?_; refine ⟨_, (a7 2 rfl rfl rfl), ?_⟩; refine wz.S.z ?_; refine ⟨_, (aI rfl), ?_⟩; refine wz.X.z ?_; refine ⟨_, (a7 1 rfl rfl rfl), ?_⟩
  refine wz.Ad.CL.z ?_; refine ⟨_, (aI rfl), ?_⟩; refine wz.Ak.z ?_; refine ⟨_, (a7 2 rfl rfl rfl), ?_⟩; refine wz.Aa.z ?_; refine ⟨_, (aI rfl), ?_⟩; refine wz.AV.z ?_; refine ⟨_, (a7 1 rfl rfl rfl), ?_⟩
  refine bn 9 rfl kR rfl hG ⟨_, (Nc rfl rfl), ?_⟩
  rw [hi, hj]
  refine wz.d.F.f.b.a.Bf.f.b.a.AW.z ?_
  refine cD (ι := Nat × Nat) (fun o => [(3, ptr b3 0), (6, ptr b6 0), (7, .int .i64 i), (8, .int .i64 j), (9, ptr o.1 0), (10, ptr o.2 0)]) (fun _ => g) (fun o => [.ae o.2 273 (ml s2 (.slice q1 s2.ty.args.length q2)), .ae o.1 273 (ml s1 (.slice p1 s1.ty.args.length p2)), .ae b6 215 [.slice none 0 0, .slice none 0 0], .ae b3 215 [.slice (some ⟨b, off, none⟩) S.length c, .slice a' m c']]) (fun _ => True) ?_ ?_
  case refine_2 =>
   intro K hK
   skip
   refine bO [] mixed (fun hG => ?_)
   refine wz.P.z ?_; refine ⟨_, (aI rfl), ?_⟩; refine wz.R.z ?_; refine ⟨_, (a7 3 rfl rfl rfl), ?_⟩; refine wz.S.z ?_; refine ⟨_, (ag rfl), ?_⟩
   refine bn 3 rfl kR rfl hG ⟨_, (bU (j := i) rfl rfl rfl yd), ?_⟩
   refine bn 4 rfl kR rfl hG ⟨_, (dL rfl (g_ _) rfl), ?_⟩
   refine wz.Ad.z ?_; refine ⟨_, (aI rfl), ?_⟩; refine wz.Ak.z ?_; refine ⟨_, (a7 3 rfl rfl rfl), ?_⟩; refine wz.Aa.z ?_; refine ⟨_, (ag rfl), ?_⟩
   refine bn 8 rfl kR rfl hG ⟨_, (bU (j := j) rfl rfl rfl DE), ?_⟩
   refine bn 9 rfl kR rfl hG ⟨_, (dL rfl (eM _) rfl), ?_⟩
   refine eH 10 11 kR rfl rfl ?_ ?_
   ·refine aj rfl (fun b9 => ?_)
    refine wz.Bf.f.b.z ?_
    refine aj rfl (fun bh => ?_)
    refine wz.Bg.d.F.f.b.q.AJ.f.b.B.Bd.f.b.z ?_
    exact hK (b9, bh) _ trivial ⟨rfl, rfl, rfl, rfl, rfl, rfl, trivial⟩
   ·refine aj rfl (fun bh => ?_)
    refine wz.AW.f.b.z ?_
    refine aj rfl (fun b9 => ?_)
    refine wz.Bg.d.F.f.b.B.AJ.f.b.q.Bd.f.b.z ?_; refine ko (own' := [_, _, _, _]) (.swap _ _ _) ?_
    exact hK (b9, bh) _ trivial ⟨rfl, rfl, rfl, rfl, rfl, rfl, trivial⟩
  rintro ⟨b9, bh⟩ -
  try dsimp only
  skip
  refine cD (ι := Unit) (fun _ => [(3, ptr b3 0), (6, ptr b6 0), (7, .int .i64 i), (8, .int .i64 j), (9, ptr b9 0), (10, ptr bh 0)]) (fun _ => g) (fun _ => [.ae bh 273 (ml s2 (.slice q1 s2.ty.args.length q2)), .ae b9 273 (ml ⟨s1.b, s1.ty, min s1.h s2.h, s1.z || s2.z⟩ (.slice p1 s1.ty.args.length p2)), .ae b6 215 [.slice none 0 0, .slice none 0 0], .ae b3 215 [.slice (some ⟨b, off, none⟩) S.length c, .slice a' m c']]) (fun _ => True) ?_ ?_
  case refine_2 =>
   intro K hK
   skip
   refine bO [1] mixed (fun hG => ?_)
   refine wz.P.z ?_; refine ⟨_, (aI rfl), ?_⟩
   refine wz.S.z ?_; refine ⟨_, (aI rfl), ?_⟩; refine wz.X.z ?_; refine ⟨_, (a7 0 rfl rfl rfl), ?_⟩
   refine wz.Ad.z ?_; refine ⟨_, (aI rfl), ?_⟩
   refine eH 1 6 kR rfl rfl ?_ ?_
   ·refine wz.f.b.I.Ao.CL.f.b.I.z ?_
    cases hz : s1.z with
    | true =>
     rw [hz] at hK
     refine wz.Aa.z ?_; refine ⟨_, (ag rfl), ?_⟩; refine wz.Al.CB.CW.z ?_; refine ⟨_, (ag rfl), ?_⟩; refine wz.As.z ?_; refine ⟨_, (aI rfl), ?_⟩
     refine wz.BJ.f.b.Ah.Bd.z ?_; refine ⟨_, (aI rfl), ?_⟩
     refine wz.d.F.f.b.Ah.AO.z ?_
     exact hK () _ trivial ⟨rfl, rfl, rfl, rfl, rfl, rfl, trivial⟩
    | false =>
     rw [hz] at hK
     refine wz.Aa.z ?_; refine ⟨_, (ag rfl), ?_⟩; refine wz.Da.z ?_; refine ⟨_, (aI rfl), ?_⟩; refine wz.CD.z ?_; refine ⟨_, (a7 0 rfl rfl rfl), ?_⟩; refine wz.Al.z ?_; refine ⟨_, (ag rfl), ?_⟩; refine wz.As.z ?_; refine ⟨_, (aI rfl), ?_⟩
     refine wz.BJ.f.b.Ah.Bd.z ?_; refine ⟨_, (aI rfl), ?_⟩
     refine wz.d.F.f.b.Ah.AO.z ?_
     exact hK () _ trivial ⟨rfl, rfl, rfl, rfl, rfl, rfl, trivial⟩
   ·refine wz.f.b.I.z ?_
    cases hz : s1.z with
    | true =>
     rw [hz] at hK
     refine wz.Aa.z ?_; refine ⟨_, (ag rfl), ?_⟩; refine wz.Al.CB.CW.z ?_; refine ⟨_, (ag rfl), ?_⟩
     refine wz.As.CL.f.b.I.BP.z ?_; refine ⟨_, (aI rfl), ?_⟩
     refine wz.BJ.f.b.Ah.Bd.z ?_; refine ⟨_, (aI rfl), ?_⟩
     refine wz.d.F.f.b.Ah.AO.z ?_
     exact hK () _ trivial ⟨rfl, rfl, rfl, rfl, rfl, rfl, trivial⟩
    | false =>
     rw [hz] at hK
     refine wz.Aa.z ?_; refine ⟨_, (ag rfl), ?_⟩; refine wz.Da.z ?_; refine ⟨_, (aI rfl), ?_⟩; refine wz.CD.z ?_; refine ⟨_, (a7 0 rfl rfl rfl), ?_⟩; refine wz.Al.z ?_; refine ⟨_, (ag rfl), ?_⟩
     refine wz.As.CL.f.b.I.BP.z ?_; refine ⟨_, (aI rfl), ?_⟩
     refine wz.BJ.f.b.Ah.Bd.z ?_; refine ⟨_, (aI rfl), ?_⟩
     refine wz.d.F.f.b.Ah.AO.z ?_
     exact hK () _ trivial ⟨rfl, rfl, rfl, rfl, rfl, rfl, trivial⟩
  rintro _ -
  try dsimp only
  refine wz.a.c.z ?_
  refine aO rfl rfl (B_ g i) ?_
  refine wz.O.a.Y.c.b.q.g.Ac.g.z ?_
  refine aB rfl rfl (Du g S m _ _ i ⟨s1.b, s1.ty, min s1.h s2.h, s1.z || s2.z⟩ hv ⟨_, rfl, f1⟩ yd hN oM) ?_
  rintro w1 g3 ⟨Y3, rfl, lk⟩ a8
  obtain ⟨a1, c1, a2, c2, tJ, tK, rfl, _⟩ := id lk
  refine wz.G.a.Y.c.b.Au.a.a.a.z ?_
  refine aB rfl rfl (Du g3 _ (m + 1) _ _ j ⟨true, .mk 1 [] i 0 [], s2.h, s2.z⟩ lk ⟨_, rfl, bx.mk (t := .mk 1 [] i 0 []) (cP g3 5) (cQ g3)⟩ (by rw [List.length_set]; exact DE) (by rw [List.length_set]; exact hN) oM) ?_
  rintro w2 g4 ⟨sv2, rfl, gY⟩ aD
  obtain ⟨a3, c3, a4, c4, xs2, ys2, rfl, _⟩ := id gY
  refine wz.i.b.V.Y.c.b.Au.a.a.a.z ?_
  exact bp [] rfl (ay 2 rfl rfl rL) sZ ⟨⟨_, _, gY, Y1 hS ky g1 g2 b1 b2 (by rw [(hS _ _ g1).1, (hS _ _ g2).1]; rfl)⟩, rfl⟩
end Go.Proofs.YtlnjfkfojkgiiaaGreatDoor
namespace Go.Th
theorem Y4 {S : List aW} {m i : Nat} {s : aW} {t : Ty} (hS : fu S) (h1 : S[i]? = some s) (b1 : s.b = false) (bW : OK S.length 0 false t) (hk : t.kind ≠ 1) : gP S m (S.set i ⟨true, t, s.h, s.z⟩) (m + 1) := by
 have hu := OR (x := ⟨true, t, s.h, s.z⟩) h1 b1 rfl
 exact ⟨xU hS (hS _ _ h1).1 (fun _ => ⟨bW, fun h => absurd h hk⟩), sM, Hr h1 (.inl b1), .inr oM, oM⟩
end Go.Th
namespace Go.Proofs.YtlnjfkfojkgiiaaGreatDoor
theorem ye (g : ab) {t : Ty} {v : Value} {V B : Nat} {nm : Bool} (bW : OK V B nm t) (hv : aQ g v t) : ∃ va vb x y z, aQ g va x ∧ aQ g vb y ∧ Pure prog 55 [v] g (.tuple #[va, vb, .bool z]) ∧ (z = true → t = cZ x y) ∧ (z = false → jc t = false) := by
 cases h : jc t with
 | false => exact ⟨sr, sr, bX, bX, false, aQ.of (t := bX) (cP g 5) (cQ g), aQ.of (t := bX) (cP g 5) (cQ g), Fm g h hv, (by intro h; cases h), fun _ => rfl⟩
 | true =>
  simp only [jc, Bool.and_eq_true, decide_eq_true_eq] at h
  obtain ⟨⟨h1, h2⟩, h3⟩ := h
  have : ∃ x y, t = cZ x y := by
   rcases iT (lU bW) with k | k | k | k | k
   ·omega
   ·omega
   ·omega
   ·obtain ⟨_, k2, _⟩ := k
    rw [h2] at k2
    match ha : t.args, h3 with
    | [x, y], _ => exact ⟨x, y, by rw [k2, ha]; rfl⟩
   ·omega
  obtain ⟨x, y, rfl⟩ := this
  obtain ⟨va, vb, q1, q2, q3⟩ := Fo g hv
  exact ⟨va, vb, x, y, true, q1, q2, q3, fun _ => rfl, (by intro h; cases h)⟩
def yf (g : ab) (w : Value) (S : List aW) (m : Nat) : Prop := ∃ sv e, w = .tuple #[sv, .int .i64 e] ∧ O5 g sv S m
theorem Y5 (g : ab) (S : List aW) (hS : fu S) (hN : S.length ≤ 100000) (m : Nat) (hm : m ≤ 900000) (v u : Value) (i : Nat) (t : Ty) (hv : eJ g v S m) (hu : aQ g u t) (hi : i < S.length) (hb : S[i].b = false) (bW : OK S.length 0 false t) (hk : t.kind ≠ 1) :
  bK prog 236 [v, .int .i64 i, u] g fun x g' => yf g' x S m := by
 obtain ⟨a, c, a', c', xs, ys, rfl, h1, h2, h3, h4⟩ := id hv
 obtain ⟨la, lm, lc, rfl, h5⟩ := hu.bA
 obtain ⟨b, off, cap, aq, hx⟩ := h1.held hi
 cases aq
 obtain ⟨c1, d1, g_⟩ := dt (fun _ _ h => h.one.1) h2 hx hi
 obtain ⟨p1, p2, rfl, f1⟩ := d1.form
 have e1 := List.getElem?_eq_getElem hi
 generalize S[i] = s1 at *
 refine aw func236 rfl ntmps236 rfl fun E hE => ?_
 refine aS ?_
 refine aP rfl rfl rfl (fun b3 => ?_)
 skip
 refine aP rfl rfl rfl (fun b5 => ?_)
 skip
 refine aj rfl (fun b6 => ?_)
 refine wz.M.a.Ag.g.c.b.a.z ?_
 refine eY rfl rfl (g_ _) rfl ?_
 skip
 refine aj rfl (fun b8 => ?_)
 refine wz.Af.Y.c.b.q.z ?_
 refine bu rfl rfl rL rL rL rL rL (fun y0 => ?_)
 refine bg (fun g1 a8 aJ => ?_)
 have lk := hv.mono a8
 have t1 := h5.mono a8
 refine aB rfl rfl (Y0 g1 S hS hN m _ _ lk [t] _ aJ (vy t1) (fun x hx => by rw [List.mem_singleton.1 hx]; exact bW)) ?_
 rintro w g2 ⟨ids, de, cL, dE⟩ aD
 obtain ⟨ia, ic, rfl⟩ := aU de
 have gY := lk.mono aD
 have t2 := t1.mono aD
 refine wz.a.a.c.e.b.a.z ?_
 refine aO rfl rfl (B8 g2 _ ids de i) ?_
 by_cases zW : (i : Int) ∈ ids
 ·rw [decide_eq_true zW]
  refine wz.l.i.b.a.B.Y.c.t.b.z ?_
  exact cB [] rfl (ay 1 rfl rfl rL) (.tmp rfl) sZ ⟨⟨_, _, rfl, S, m, gY, gP.refl hS⟩, rfl⟩
 ·rw [decide_eq_false zW]
  refine wz.d.j.o.b.z ?_
  refine cD (ι := Unit) (fun _ => [(1, .int .i64 i), (3, ptr b3 0), (5, ptr b5 0), (6, ptr b6 0), (8, ptr b8 0), (9, .slice ia ids.length ic)]) (fun _ => g2) (fun _ => [.ae b8 273 (ml s1 (.slice p1 s1.ty.args.length p2)), .ae b6 215 [.slice none 0 0, .slice none 0 0], .ae b5 41 (aH t (.slice la lm lc)), .ae b3 215 [.slice (some ⟨b, off, none⟩) S.length c, .slice a' m c']]) (fun _ => True) ?_ ?_
  case refine_2 =>
   intro K hK
   refine wz.Af.c.z ?_
   obtain ⟨va, vb, x, y, z, q1, q2, q3, -, -⟩ := ye g2 bW ⟨_, rfl, t2⟩
   obtain ⟨v1, v2, v3, rfl, -⟩ := q1.bA
   obtain ⟨v4, v5, v6, rfl, -⟩ := q2.bA
   refine aO rfl rfl q3 ?_
   cases z with
   | true =>
    refine wz.a.a.a.a.z ?_
    refine aj rfl (fun bh => ?_)
    skip
    refine aj rfl (fun dY => ?_)
    refine wz.b.a.Ag.k.g.k.a.a.c.b.a.q.B.z ?_
    refine fS rfl (fun hz => ?_) (fun hz => ?_)
    ·refine aS <| oI 5 rfl rfl rfl rL ?_; refine wz.l.i.b.a.Au.z ?_
     exact cB [] rfl (ay 3 rfl rfl rL) (.tmp rfl) sZ ⟨⟨_, _, rfl, S, m, gY, gP.refl hS⟩, rfl⟩
    ·refine wz.BN.d.j.z ?_
     exact hK () _ trivial ⟨rfl, rfl, rfl, rfl, rfl, rfl, trivial⟩
   | false =>
    refine wz.a.a.a.a.z ?_
    refine aj rfl (fun bh => ?_)
    skip
    refine aj rfl (fun dY => ?_)
    refine wz.BN.d.j.o.b.a.h.h.a.a.c.b.a.q.B.z ?_
    exact hK () _ trivial ⟨rfl, rfl, rfl, rfl, rfl, rfl, trivial⟩
  rintro _ -
  try dsimp only
  refine wz.Af.Y.c.z ?_
  refine aB rfl rfl (Hy g2 S hN m _ _ t gY ⟨_, rfl, t2⟩) ?_
  rintro w3 g3 ⟨tv, y, ok, rfl, hy, YE, -⟩ aF
  obtain ⟨v1, v2, v3, rfl, Y6⟩ := hy.bA
  refine wz.a.a.a.z ?_
  refine aj rfl (fun nk => ?_)
  refine wz.G.c.b.a.q.z ?_
  refine bu rfl rfl rL rL rL rL rL (fun y1 => ?_)
  refine bg (fun g4 aR eG => ?_)
  refine aB rfl rfl (N6 g4 [y] _ _ (by simp [bM]; omega) eG (vy (Y6.mono aR))) ?_
  rintro w4 g5 ⟨zs, hz, qp⟩ cC
  generalize dU 3 [] [y] = rs at hz qp
  obtain ⟨wa, wc, rfl⟩ := aU hz
  have hle := hz.le
  have O6 := ((gY.mono aF).mono aR).mono cC
  have o9 := ((de.mono aF).mono aR).mono cC
  have t5 := ((t2.mono aF).mono aR).mono cC
  have f5 := (((((f1.mono a8).mono aD).mono aF).mono aR).mono cC)
  have hw1 := ((((h1.mono a8).mono aD).mono aF).mono aR).mono cC
  have jq := aL.mono (fun _ _ h => kI.mono cC (kI.mono aR (kI.mono aF (kI.mono aD (kI.mono a8 h))))) h2
  refine wz.Bb.p.b.a.c.e.b.a.z ?_
  refine aX (ι := Nat) (fun k => [(1, .int .i64 i), (3, ptr b3 0), (5, ptr b5 0), (6, ptr b6 0), (8, ptr b8 0), (9, .slice ia ids.length ic), (15, .slice wa rs.length wc), (16, .int .i64 k)]) (fun _ => g5) (fun _ => [.ae b8 273 (ml s1 (.slice p1 s1.ty.args.length p2)), .ae b6 215 [.slice none 0 0, .slice none 0 0], .ae b5 41 (aH t (.slice la lm lc)), .ae b3 215 [.slice (some ⟨b, off, none⟩) S.length c, .slice a' m c']]) (fun k => k ≤ rs.length) (fun k => rs.length - k) 0 (Nat.zero_le _) ⟨rfl, rfl, rfl, rfl, rfl, rfl, rfl, rfl, trivial⟩ rfl rfl ?_
  intro k gW
  refine wz.b.a.A.a.a.c.e.z ?_
  refine an rfl (fun hlt => ?_) (fun hlt => ?_)
  ·have af : k < rs.length := by omega
   obtain ⟨bz, oz, cz, aq, yg⟩ := hz.held af
   cases aq
   obtain ⟨cS, h6, hr⟩ := eZ qp yg af
   refine wz.e.p.e.d.j.z ?_
   refine bO [] mixed (fun hG => ?_)
   refine wz.P.z ?_; refine ⟨_, (ag rfl), ?_⟩; refine wz.R.z ?_; refine ⟨_, (ag rfl), ?_⟩
   refine bn 2 rfl kR rfl hG ⟨_, (bU (j := k) rfl rfl rfl af), ?_⟩
   refine wz.X.z ?_; refine ⟨_, (aI rfl), ?_⟩
   refine bn 4 rfl kR rfl hG ⟨_, (cU rfl ((hr _).du 3 rfl)), ?_⟩
   refine wz.Ad.z ?_; refine ⟨_, (aI rfl), ?_⟩; refine wz.Ak.z ?_; refine ⟨_, (a7 0 rfl rfl rfl), ?_⟩; refine wz.Aa.z ?_; refine ⟨_, (ag rfl), ?_⟩
   refine wz.d.F.z ?_
   refine an rfl (fun gE => ?_) (fun gE => ?_)
   ·refine wz.l.x.l.l.x.i.b.a.B.Y.c.z ?_
    exact cB [] rfl (ay 1 rfl rfl rL) (.tmp rfl) sZ ⟨⟨_, _, rfl, S, m, O6, gP.refl hS⟩, rfl⟩
   ·refine wz.b.a.E.a.r.d.y.j.z ?_
    exact aM (k + 1) oM oM ⟨rfl, rfl, rfl, rfl, rfl, rfl, rfl, rfl, trivial⟩ rfl rfl
  ·refine wz.p.b.a.c.e.d.D.m.m.C.z ?_
   refine aX (ι := Nat) (fun k => [(1, .int .i64 i), (3, ptr b3 0), (5, ptr b5 0), (6, ptr b6 0), (8, ptr b8 0), (9, .slice ia ids.length ic), (17, .int .i64 k)]) (fun _ => g5) (fun _ => [.ae b8 273 (ml s1 (.slice p1 s1.ty.args.length p2)), .ae b6 215 [.slice none 0 0, .slice none 0 0], .ae b5 41 (aH t (.slice la lm lc)), .ae b3 215 [.slice (some ⟨b, off, none⟩) S.length c, .slice a' m c']]) (fun k => k ≤ ids.length) (fun k => ids.length - k) 0 (Nat.zero_le _) ⟨rfl, rfl, rfl, rfl, rfl, rfl, rfl, trivial⟩ rfl rfl ?_
   intro k2 fb
   refine wz.b.a.A.a.a.c.e.z ?_
   refine an rfl (fun dk => ?_) (fun dk => ?_)
   ·have af : k2 < ids.length := by omega
    obtain ⟨bz, oz, cz, aq, yg⟩ := o9.held af
    cases aq
    have jb : ∀ own, Rd g5 own bz (oz + k2 * 1) [.int .i64 ids[k2]] := fun own => eT (yg (k2 * 1) _ (by simp [ints, af]))
    have dW := dE _ (List.getElem_mem af)
    refine wz.e.p.e.d.j.z ?_
    refine bO [] mixed (fun hG => ?_)
    refine wz.P.z ?_; refine ⟨_, (ag rfl), ?_⟩; refine wz.R.z ?_; refine ⟨_, (ag rfl), ?_⟩
    refine bn 2 rfl kR rfl hG ⟨_, (bU (j := k2) rfl rfl rfl af), ?_⟩
    refine bn 3 rfl kR rfl hG ⟨_, (cU rfl (jb _)), ?_⟩
    refine wz.Z.z ?_; refine ⟨_, (aI rfl), ?_⟩; refine wz.Ad.z ?_; refine ⟨_, (a7 3 rfl rfl rfl), ?_⟩; refine wz.Ak.z ?_; refine ⟨_, (jQ rfl), ?_⟩; refine wz.Aa.z ?_; refine ⟨_, (ag rfl), ?_⟩
    rw [decide_eq_false (show ¬ (S.length : Int) ≤ ids[k2] by omega)]
    refine wz.AV.z ?_; refine ⟨_, (ag rfl), ?_⟩; refine wz.CB.z ?_; refine fI 10 rfl rfl rfl kR rfl hG ?_; refine wz.Az.Cr.z ?_; refine ⟨_, (ag rfl), ?_⟩
    refine wz.b.a.E.a.r.d.y.j.o.d.F.z ?_
    exact aM (k2 + 1) oM oM ⟨rfl, rfl, rfl, rfl, rfl, rfl, rfl, trivial⟩ rfl rfl
   ·refine wz.p.b.a.c.e.d.D.m.m.C.z ?_
    refine aX (ι := Nat) (fun k => [(1, .int .i64 i), (3, ptr b3 0), (5, ptr b5 0), (6, ptr b6 0), (8, ptr b8 0), (9, .slice ia ids.length ic), (18, .int .i64 k)]) (fun _ => g5) (fun _ => [.ae b8 273 (ml s1 (.slice p1 s1.ty.args.length p2)), .ae b6 215 [.slice none 0 0, .slice none 0 0], .ae b5 41 (aH t (.slice la lm lc)), .ae b3 215 [.slice (some ⟨b, off, none⟩) S.length c, .slice a' m c']]) (fun k => k ≤ ids.length) (fun k => ids.length - k) 0 (Nat.zero_le _) ⟨rfl, rfl, rfl, rfl, rfl, rfl, rfl, trivial⟩ rfl rfl ?_
    intro k3 ob
    refine wz.b.a.A.a.a.c.e.z ?_
    refine an rfl (fun iM => ?_) (fun iM => ?_)
    ·have af : k3 < ids.length := by omega
     obtain ⟨bz, oz, cz, aq, yg⟩ := o9.held af
     cases aq
     have jb : ∀ own, Rd g5 own bz (oz + k3 * 1) [.int .i64 ids[k3]] := fun own => eT (yg (k3 * 1) _ (by simp [ints, af]))
     have dW := dE _ (List.getElem_mem af)
     generalize ids[k3] = id at jb dW
     have yh : id.toNat < S.length := by omega
     obtain ⟨b', fo, jZ, fq, db⟩ := hw1.held yh
     cases fq
     obtain ⟨cs, d9, Y7⟩ := dt (fun _ _ h => h.one.1) jq db yh
     obtain ⟨p9, q9, rfl, -⟩ := d9.form
     have hh := (hS _ _ (List.getElem?_eq_getElem yh)).1
     have qv := (hS _ _ e1).1
     refine wz.e.p.e.d.j.z ?_
     refine bO [] mixed (fun hG => ?_)
     refine wz.P.z ?_; refine ⟨_, (ag rfl), ?_⟩; refine wz.R.z ?_; refine ⟨_, (ag rfl), ?_⟩
     refine bn 2 rfl kR rfl hG ⟨_, (bU (j := k3) rfl rfl rfl af), ?_⟩
     refine bn 3 rfl kR rfl hG ⟨_, (cU rfl (jb _)), ?_⟩
     refine wz.Z.z ?_; refine ⟨_, (aI rfl), ?_⟩; refine wz.Ad.z ?_; refine ⟨_, (a7 3 rfl rfl rfl), ?_⟩; refine wz.Ak.z ?_; refine ⟨_, (jQ rfl), ?_⟩; refine wz.Aa.z ?_; refine ⟨_, (ag rfl), ?_⟩
     rw [decide_eq_true (show id < (S.length : Int) by omega)]
     refine wz.AV.z ?_; refine ⟨_, (ag rfl), ?_⟩; refine wz.CD.z ?_; refine ⟨_, (aI rfl), ?_⟩; refine wz.Db.z ?_; refine ⟨_, (a7 3 rfl rfl rfl), ?_⟩; refine wz.BZ.z ?_; refine ⟨_, (ag rfl), ?_⟩; refine wz.Cl.z ?_; refine ⟨_, (ag rfl), ?_⟩
     refine dX 13 rfl rfl kR rfl hG ⟨_, (bU (j := k3) rfl rfl rfl af), ?_⟩
     refine dX 14 rfl rfl kR rfl hG ⟨_, (cU rfl (jb _)), ?_⟩
     refine dX 15 rfl rfl kR rfl hG ⟨_, (bU (j := id.toNat) rfl rfl oM yh), ?_⟩; refine wz.Cn.z ?_; refine ⟨_, (aI rfl), ?_⟩
     refine dX 17 rfl rfl kR rfl hG ⟨_, (cU rfl ((Y7 _).du 6 rfl)), ?_⟩
     refine wz.Ca.z ?_; refine ⟨_, (aI rfl), ?_⟩; refine wz.Dc.z ?_; refine ⟨_, (a7 0 rfl rfl rfl), ?_⟩; refine wz.Co.z ?_; refine ⟨_, (ag rfl), ?_⟩
     rw [decide_eq_false (show ¬ (s1.h < (S[id.toNat]'yh).h) by omega)]
     refine bn 21 rfl kR rfl hG ?_; refine ⟨_, (ag rfl), ?_⟩
     refine wz.b.a.E.a.r.d.y.j.o.d.F.z ?_
     exact aM (k3 + 1) oM oM ⟨rfl, rfl, rfl, rfl, rfl, rfl, rfl, trivial⟩ rfl rfl
    ·refine wz.e.d.D.m.m.C.z ?_
     refine bO [0] mixed (fun hG => ?_)
     refine wz.P.z ?_; refine ⟨_, (bP 1 rfl rfl rL), ?_⟩; refine wz.R.z ?_; refine ⟨_, (aI rfl), ?_⟩
     refine wz.X.f.b.Ac.AL.z ?_; refine ⟨_, (aI rfl), ?_⟩
     refine wz.G.a.Y.c.d.F.f.b.q.AH.z ?_
     refine aB rfl rfl (Du g5 S m _ _ i ⟨true, t, s1.h, s1.z⟩ O6 ⟨_, rfl, t5⟩ hi hN oM) ?_
     rintro w6 g6 ⟨Y3, rfl, O7⟩ dT
     obtain ⟨a1, c1, a2, c2, tJ, tK, rfl, _⟩ := id O7
     refine wz.i.b.a.B.Y.c.b.Au.a.a.a.z ?_
     exact cB [] rfl (ay 1 rfl rfl rL) (.tmp rfl) sZ ⟨⟨_, _, rfl, _, _, O7, Y4 hS e1 hb bW hk⟩, rfl⟩
end Go.Proofs.YtlnjfkfojkgiiaaGreatDoor

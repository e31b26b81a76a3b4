/- The walks of typedholesmake.closed and rigid, and of typedholesref20.Signature. -/
import Derived.Test.YtlnjfkfojkgiiaaGreatDoorK23
open Go Go.aZ Go.Th Go.Proofs Tryz
set_option maxRecDepth 10000
set_option maxHeartbeats 4000000
attribute [local irreducible] wpList Code.wp ah bodyPost Go.aZ.Ends Exit.then Exit.inBlock dJ Wq Kq
namespace Go.Th
theorem Yx {p : Ty → Prop} (k : Int) : ∀ (t : Ty) (acc : List Ty), dx p t → (∀ w ∈ acc, p w) → ∀ w ∈ ki k acc t, p w := by
 have hl : ∀ (l : List Ty), (∀ a ∈ l, ∀ acc, dx p a → (∀ w ∈ acc, p w) → ∀ w ∈ ki k acc a, p w) → ∀ acc, (∀ a ∈ l, dx p a) → (∀ w ∈ acc, p w) → ∀ w ∈ dU k acc l, p w := by
  intro l
  induction l with
  | nil => intro _ acc _ h w hw; exact h w hw
  | cons b r ih =>
   intro h acc ha hq w hw
   exact ih (fun y hy => h y (List.mem_cons_of_mem _ hy)) _ (fun a h => ha a (List.mem_cons_of_mem _ h)) (h b (List.mem_cons_self ..) acc (ha b (List.mem_cons_self ..)) hq) w hw
 refine kH fun t ih => fun acc ht hq => ?_
 rw [xH]
 split
 ·split
  ·exact hq
  ·intro w hw
   rcases List.mem_append.1 hw with h | h
   ·exact hq w h
   ·rw [List.mem_singleton.1 h]; exact ht.node
 ·exact hl t.args ih acc ht.arg hq
theorem OD {v b : Nat} {t : Ty} (hv : v ≤ 1000001) (hb : b ≤ 1000001) (h : OK v b false t) : fE vt t = true :=
 G9 ((oD h).imp fun u hu => by
  unfold vt
  rw [decide_eq_true_eq]
  rcases iT hu with h | h | h | h | h
  ·exact ⟨h.2.1, oM⟩
  ·exact ⟨h.2.1, oM⟩
  ·exact ⟨h.2.1, h.2.2.1⟩
  ·have e : u.id = 0 := by rw [h.2.1]; rfl
   omega
  ·exact absurd h.1 dC)
theorem Yy {v b : Nat} {t : Ty} (hv : v ≤ 1000001) (hb : b ≤ 1000001) (h : OK v b false t) : dx (fun u => 0 ≤ u.id ∧ u.id ≤ 1000000) t := (oD (OD hv hb h)).imp fun u hu => by simpa [vt] using hu
theorem Hk {t u : Ty} (h : mQ t = some u) : t.kind = 3 ∧ t.home = 99 ∧ u = .mk 1 [] (900 + t.id) 0 [] := by
 unfold mQ at h
 split at h
 ·rename_i hk; cases h; exact ⟨hk.1, hk.2, rfl⟩
 ·cases h
theorem Yz {t : Ty} (h : OK 0 0 false t) : OK 1000901 0 false (c7 mQ t) := by
 refine dx.map (fun t u ht hf => ?_) (fun t a ht hf hl => ?_) (oD h)
 ·obtain ⟨hk, hh, rfl⟩ := Hk hf
  rcases iT ht with h | h | h | h | h
  ·omega
  ·omega
  ·have e : (900 + t.id : Int) = ((900 + t.id).toNat : Int) := by omega
   rw [e]
   exact vu oM
  ·omega
  ·omega
 ·have := Oa (v := 0) (b := 0) (nm := false) (a := a) ht hl
  rcases iT this with h | h | h | h | h
  ·exact absurd h.2.2.1 oM
  ·exact absurd h.2.2.1 oM
  ·rw [h.2.2.2.2]; exact xJ h.2.1 h.2.2.1
  ·have h1 : t.kind = 4 := h.1
   have h2 := h.2.1
   rw [h2]
   rcases h.2.2 with h3 | h3
   ·exact xK _ h3
   ·have e : (Ty.mk t.kind t.name t.id t.home a).name = eg := h3.1
    unfold bJ
    rw [e]
    exact C7 h3.2
  ·exact absurd h.1 dC
theorem YA (t : Ty) : aE (c7 mQ t) ≤ aE t := by
 have := N9 (B := 1) (f := mQ) (Nat.le_refl _) (fun t u h => by obtain ⟨_, _, rfl⟩ := Hk h; simp [aE, bM]) t
 omega
theorem dx.YB {p q : Ty → Prop} {f : Ty → Option Ty} (h1 : ∀ t u, p t → f t = some u → dx q u)
  (h2 : ∀ t a, p t → f t = none → a.length = t.args.length → q (.mk t.kind t.name t.id t.home a)) {t : Ty} (ht : dx p t) : dx q (c7 f t) := by
 induction ht with
 | mk t h0 _ ih =>
  cases hf : f t with
  | some u => rw [mO hf]; exact h1 t u h0 hf
  | none =>
   rw [ow hf]
   refine .mk _ (h2 t _ h0 hf (List.length_map _)) fun a ha => ?_
   obtain ⟨b, hb, rfl⟩ := List.mem_map.1 ha
   exact ih b hb
theorem YC {t : Ty} {ids : List Int} (h : OK 0 0 false t) (hi : dx (fun u => u.kind = 3 → u.args = [] → u.home = 99 → 900 + u.id ∈ ids) t) : dx (fun u => u.kind = 1 → u.id ∈ ids) (c7 mQ t) := by
 refine dx.YB (fun t u ht hf => ?_) (fun t a ht hf hl => ?_) ((oD h).and hi)
 ·obtain ⟨hk, hh, rfl⟩ := Hk hf
  refine .mk _ (fun _ => ?_) (fun _ h => by cases h)
  rcases iT ht.1 with h | h | h | h | h
  ·omega
  ·omega
  ·exact ht.2 hk h.2.2.2.1 hh
  ·omega
  ·omega
 ·intro hk
  have c_ : t.kind = 1 := hk
  rcases iT ht.1 with h | h | h | h | h
  ·exact absurd h.2.2.1 oM
  all_goals omega
end Go.Th
namespace Go.Proofs.YtlnjfkfojkgiiaaGreatDoor
theorem YD (g : ab) (t : Ty) (u : Value) (hu : aQ g u t) (hn : aE t ≤ 100000) (bW : OK 0 0 false t) :
  bK prog 112 [u] g fun w g' => ∃ n y, jU g' w n y ∧ n ≤ aE t ∧ OK 0 n false y ∧ aE y ≤ aE t := by
 obtain ⟨ya, ym, yc, rfl, h1⟩ := hu.bA
 have l8 : bM [t] = aE t := by simp [bM]
 have OE := (ri 3 [t] []).2
 rw [List.length_nil, Nat.zero_add, l8] at OE
 have hall := Ha 3 [t] [] t (List.mem_singleton.2 rfl)
 have hid : ∀ w ∈ dU 3 [] [t], 0 ≤ w.id ∧ w.id ≤ 1000000 := Yx 3 t [] (Yy oM oM bW) (fun _ h => by cases h)
 refine aw func112 rfl ntmps112 rfl fun E hE => ?_
 refine aS ?_
 refine aP rfl rfl rfl (fun b1 => ?_)
 skip
 refine aj rfl (fun b2 => ?_)
 refine wz.O.c.b.a.c.b.z ?_
 refine bu rfl rfl rL rL rL rL rL (fun y0 => ?_)
 refine bg (fun g1 a8 aJ => ?_)
 refine aB rfl rfl (N6 g1 [t] _ _ oM aJ (vy (h1.mono a8))) ?_
 rintro w g2 ⟨zs, hz, qp⟩ aD
 generalize dU 3 [] [t] = fs at hz qp OE hall hid
 obtain ⟨wa, wc, rfl⟩ := aU hz
 have h2 := (h1.mono a8).mono aD
 refine fW 3 1 <| wz.p.b.a.c.e.b.a.z ?_
 refine aX (ι := Nat × Value × List aA) (fun o => [(1, ptr b1 0), (2, ptr b2 0), (3, o.2.1), (4, .slice wa fs.length wc), (5, .int .i64 o.1)]) (fun _ => g2) (fun o => o.2.2 ++ [.ae b2 95 [.int .i64 0, .int .i64 0, str [], .int .i64 0, .int .i64 0, .slice none 0 0], .ae b1 41 (aH t (.slice ya ym yc))])
  (fun o => o.1 ≤ fs.length ∧ ∃ (s : List Int) (a : Option Addr) (c : Nat), o.2.1 = .slice a s.length c ∧ o.2.2 = [.row 3 1 (.slice a s.length c) s.length (ints s)] ∧ s.length ≤ o.1 ∧ ∀ j (h : j < fs.length), j < o.1 → fs[j].home = 99 → 900 + fs[j].id ∈ s) (fun o => fs.length - o.1) (0, _, [_]) ⟨Nat.zero_le _, [], none, 0, rfl, rfl, Nat.le_refl _, fun j _ h => by simp only at h; omega⟩ ⟨rfl, rfl, rfl, rfl, rfl, trivial⟩ rfl rfl ?_
 rintro ⟨k, sv, own⟩ ⟨hk, s, a, c, eu, ho, aq, dW⟩
 simp only at hk eu ho aq dW
 subst eu
 subst ho
 try dsimp only
 refine wz.b.a.A.a.a.c.e.z ?_
 refine an rfl (fun hlt => ?_) (fun hlt => ?_)
 ·have af : k < fs.length := by omega
  obtain ⟨b, off, cap, fq, dB⟩ := hz.held af
  cases fq
  obtain ⟨cS, h3, hr⟩ := eZ qp dB af
  have hik := hid _ (List.getElem_mem af)
  refine wz.g.M.a.a.c.p.e.d.j.z ?_
  refine cj rfl rfl ((hr _).du 3 rfl) ?_
  refine wz.b.a.z ?_
  refine an rfl (fun hh => ?_) (fun hh => ?_)
  ·have Hl : fs[k].home = 99 := by first | exact of_decide_eq_true hh | (simpa using hh)
   refine wz.g.M.a.a.a.r.z ?_
   refine cj rfl rfl ((hr _).du 2 rfl) ?_
   refine wz.E.z ?_
   refine bu rfl rfl rL rL rL rL rL (fun y1 => ?_)
   refine cV 1 0 rfl rfl rfl rfl rfl rL rL rfl mL oM (fun v' _ => ?_)
   refine wz.AC.z ?_
   rintro ⟨q1, q3, rfl⟩
   refine wz.Bp.b.a.E.a.r.d.y.N.a.z ?_
   refine aM (k + 1, _, [_]) ⟨oM, s ++ [900 + fs[k].id], q1, q3, by rw [List.length_append]; rfl, by rw [List.length_append, GO]; rfl, by rw [List.length_append, List.length_singleton]; omega, fun j hj fK hm => ?_⟩ uM ⟨rfl, rfl, rfl, rfl, rfl, trivial⟩ rfl rfl
   by_cases oE : j = k
   ·subst oE
    exact List.mem_append_right _ (List.mem_singleton.2 rfl)
   ·exact List.mem_append_left _ (dW j hj (by simp only at fK; omega) hm)
  ·have Hl : fs[k].home ≠ 99 := by first | exact of_decide_eq_false hh | (simpa using hh)
   refine wz.b.a.E.a.r.d.y.j.z ?_
   exact aM (k + 1, _, [_]) ⟨oM, s, a, c, rfl, rfl, oM, fun j hj fK uD => by
    by_cases oE : j = k
    ·subst oE; exact absurd uD Hl
    ·exact dW j hj (by simp only at fK; omega) uD⟩ uM ⟨rfl, rfl, rfl, rfl, rfl, trivial⟩ rfl rfl
 ·obtain rfl : k = fs.length := by omega
  refine bg (fun g3 aF bY => ?_)
  refine wz.O.c.d.D.m.m.C.z ?_
  refine aB rfl rfl (XW g3 t oM (OD oM oM bW) _ ⟨_, rfl, h2.mono aF⟩) ?_
  rintro w g4 fZ aR
  refine wz.a.z ?_
  have OF := YA t
  refine aB rfl rfl (Yp g4 _ _ _ s fZ oM (bY.mono aR) (Yz bW) (YC bW ?_)) ?_
  ·refine hall.imp fun x hx h1 h2 h3 => ?_
   obtain ⟨j, hj, e⟩ := List.mem_iff_getElem.1 (hx h1 h2)
   rw [← e]
   exact dW j hj hj (by rw [e]; exact h3)
  ·rintro w5 g5 ⟨n, y, ir, xR, we, YE⟩ cC
   obtain ⟨z1, z2, rfl, YF⟩ := ir.form
   refine wz.i.b.q.z ?_
   refine bp [] rfl (ay 0 rfl rfl rL) sZ ⟨⟨n, y, ⟨_, rfl, YF⟩, oM, we, oM⟩, rfl⟩
def YG (g : ab) (t : Ty) (w : Value) : Prop := ∃ v sv y n z, w = .tuple #[v, sv] ∧ aQ g v y ∧ OK 0 0 false y ∧ aE y ≤ aE t ∧ jU g sv n z ∧ n ≤ aE t ∧ OK 0 n false z ∧ aE z ≤ aE t
theorem OG (g : ab) (t : Ty) (u : Value) (hu : aQ g u t) (hn : (cK t).length ≤ 1000) (hg : fr t) :
  bK prog 48 [u, .int .i64 98] g fun w g' => YG g' t w := by
 obtain ⟨ya, ym, yc, rfl, h1⟩ := hu.bA
 have nt := (C6 t []).2
 rw [List.length_nil, Nat.zero_add] at nt
 have lX := Ds hg
 have hb := GZ (Yr hg hn)
 have iq := G0 (jl [] t) t
 refine aw func48 rfl ntmps48 rfl fun E hE => ?_
 refine aS ?_
 refine aP rfl rfl rfl (fun b2 => ?_)
 skip
 refine aj rfl (fun b4 => ?_)
 skip
 refine aj rfl (fun b5 => ?_)
 refine wz.Af.c.b.z ?_
 refine aB rfl rfl (X7 g t _ oM ⟨_, rfl, h1⟩) ?_
 rintro w g1 hw a8
 generalize jl [] t = ns at hw nt hb iq
 obtain ⟨wa, wc, rfl⟩ := aU hw
 have h2 := h1.mono a8
 refine wz.a.Af.c.b.a.z ?_
 refine aB rfl rfl (GK g1 ns t oM _ _ ⟨_, rfl, h2⟩ hw) ?_
 rintro w2 g2 jq aD
 generalize c7 (iH ns) t = z at jq hb iq
 obtain ⟨z1, z2, z3, rfl, hz⟩ := jq.bA
 have hw := hw.mono aD
 skip
 refine aj rfl (fun b7 => ?_)
 refine wz.AD.p.b.a.c.e.b.a.c.b.q.z ?_
 skip
 refine aX (ι := Nat × Value × List aA) (fun o => [(1, .int .i64 98), (2, ptr b2 0), (4, ptr b4 0), (5, ptr b5 0), (6, .slice wa ns.length wc), (7, ptr b7 0), (8, o.2.1), (9, .int .i64 o.1)]) (fun _ => g2) (fun o => o.2.2 ++ [.ae b7 41 (aH z (.slice z1 z2 z3)), .ae b5 95 [.int .i64 0, .int .i64 0, str [], .int .i64 0, .int .i64 0, .slice none 0 0], .ae b4 41 k_, .ae b2 41 (aH t (.slice ya ym yc))])
  (fun o => o.1 ≤ ns.length ∧ ∃ (a : Option Addr) (c : Nat) (xs : List Value), o.2.1 = .slice a (mR o.1).length c ∧ o.2.2 = [.row 41 5 (.slice a (mR o.1).length c) (mR o.1).length xs] ∧ aV g2 (mR o.1) xs) (fun o => ns.length - o.1) (0, _, [_]) ⟨Nat.zero_le _, none, 0, [], rfl, rfl, cQ g2⟩ ⟨rfl, rfl, rfl, rfl, rfl, rfl, rfl, rfl, trivial⟩ rfl rfl ?_
 rintro ⟨k, sv, own⟩ ⟨hk, a, c, xs, eu, ho, hx⟩
 simp only at hk eu ho hx
 subst eu
 subst ho
 try dsimp only
 refine wz.b.a.A.a.a.c.e.z ?_
 refine an rfl (fun hlt => ?_) (fun hlt => ?_)
 ·have fz := Ys k
  have xS := OC k
  generalize mR k = B at fz xS hx
  refine wz.a.a.a.r.p.e.d.j.z ?_
  refine aO rfl rfl (GG g2 98 k) ?_
  skip
  refine bu rfl rfl rL rL rL rL rL (fun y0 => ?_)
  refine cV 1 0 rfl rfl rfl rfl rfl rL rL rfl mL oM (fun v' _ => ?_)
  refine wz.AC.z ?_
  rintro ⟨q1, q3, rfl⟩
  refine wz.BB.b.a.E.a.r.d.y.N.a.z ?_
  exact aM (k + 1, _, [_]) ⟨oM, q1, q3, _, by rw [fz, List.length_append]; rfl, by rw [fz, List.length_append]; rfl, by rw [fz]; exact aV.snoc (bx.mk (t := .mk 3 [] k 98 []) (cP g2 5) (cQ g2)) hx⟩ uM ⟨rfl, rfl, rfl, rfl, rfl, rfl, rfl, rfl, trivial⟩ rfl rfl
 ·obtain rfl : k = ns.length := by omega
  have xS := OC ns.length
  have OH := Yt (n := ns.length) oM
  have OI := Yu (n := ns.length)
  generalize mR ns.length = rs at xS OH OI hx
  refine bg (fun g3 aF bY => ?_)
  refine wz.e.d.D.m.m.C.z ?_
  refine bO [2, 1] mixed (fun hG => ?_)
  refine wz.P.z ?_; refine ⟨_, (bP 0 rfl rfl rL), ?_⟩; refine wz.R.z ?_; refine ⟨_, (ag rfl), ?_⟩
  refine wz.X.z ?_; refine ⟨_, (ag rfl), ?_⟩; refine wz.Z.z ?_; refine ⟨_, (jQ rfl), ?_⟩; refine wz.Ad.z ?_; refine ⟨_, (bP 0 rfl rfl rL), ?_⟩; refine wz.Ak.z ?_; refine ⟨_, (et rfl rL), ?_⟩
  refine wz.AL.z ?_
  refine aB rfl rfl (GJ g3 rs oM z oM _ _ _ ⟨_, rfl, hz.mono aF⟩ bY (hx.mono aF)) ?_
  rintro w4 g4 fZ aR
  obtain ⟨v1, v2, v3, rfl, Hn⟩ := fZ.bA
  have YH := (hz.mono aF).mono aR
  refine wz.i.d.F.f.b.B.Ae.f.b.V.AM.f.b.z ?_
  refine cB [] rfl (ay 2 rfl rfl rL) (ay 1 rfl rfl rL) sZ ⟨⟨_, _, _, ns.length, z, rfl, ⟨_, rfl, Hn⟩, G1 oM OH hb, ?_, ⟨_, rfl, YH⟩, nt, hb, iq⟩, rfl⟩
  have := On (az := rs) (B := 1) (Nat.le_refl _) OI z
  omega
theorem OJ (g : ab) (t : Ty) (u : Value) (hu : aQ g u t) (hn : (cK t).length ≤ 1000) (hg : fr t) :
  bK prog 46 [u] g fun w g' => ∃ y, aQ g' w y ∧ OK 0 0 false y ∧ aE y ≤ aE t := by
 obtain ⟨ya, ym, yc, rfl, h1⟩ := hu.bA
 refine aw func46 rfl ntmps46 rfl fun E hE => ?_
 refine aS ?_
 refine aP rfl rfl rfl (fun b1 => ?_)
 skip
 refine aj rfl (fun b2 => ?_)
 refine wz.O.c.b.z ?_
 refine aB rfl rfl (OG g t _ ⟨_, rfl, h1⟩ hn hg) ?_
 rintro w g1 ⟨v, sv, y, n, z, rfl, hv, bW, hy, eu, _⟩ a8
 obtain ⟨v1, v2, v3, rfl, eD⟩ := hv.bA
 obtain ⟨s1, s2, rfl, _⟩ := eu.form
 refine wz.a.a.a.z ?_
 refine aj rfl (fun b3 => ?_)
 skip
 refine aj rfl (fun b4 => ?_)
 refine wz.i.b.V.O.c.b.q.B.z ?_
 exact bp [] rfl (ay 2 rfl rfl rL) sZ ⟨⟨y, ⟨_, rfl, eD⟩, bW, hy⟩, rfl⟩
end Go.Proofs.YtlnjfkfojkgiiaaGreatDoor
namespace Go.Th
structure aW where
 b : Bool
 ty : Ty
 h : Int
 z : Bool
def dG (S : List aW) (t : Ty) : Bool := decide (t.kind = 1) && (decide (0 ≤ t.id) && ((S[t.id.toNat]?).map (·.b)).getD false)
def kl (S : List aW) (t : Ty) : Ty := ((S[t.id.toNat]?).map (·.ty)).getD t
def jV (S : List aW) : Nat → Ty → Ty
 | 0, t => t
 | n + 1, t => if dG S t = true then jV S n (kl S t) else t
def walk (S : List aW) (t : Ty) : Ty := jV S (S.length + 1) t
def fu (S : List aW) : Prop := ∀ (i : Nat) (s : aW), S[i]? = some s → s.h = 1000000 ∧ (s.b = true → OK S.length 0 false s.ty ∧ (s.ty.kind = 1 → s.ty.id < i))
def ck (t : Ty) : Nat := if t.kind = 1 then t.id.toNat + 1 else 0
theorem xT {S : List aW} {t : Ty} (h : dG S t = true) : t.kind = 1 ∧ 0 ≤ t.id ∧ t.id.toNat < S.length ∧ ∃ s, S[t.id.toNat]? = some s ∧ s.b = true ∧ kl S t = s.ty := by
 unfold dG at h
 simp only [Bool.and_eq_true, decide_eq_true_eq] at h
 obtain ⟨h1, h2, h3⟩ := h
 cases hs : S[t.id.toNat]? with
 | none => rw [hs] at h3; cases h3
 | some s =>
  rw [hs] at h3
  obtain ⟨hl, _⟩ := List.getElem?_eq_some_iff.1 hs
  exact ⟨h1, h2, hl, s, rfl, h3, by unfold kl; rw [hs]; rfl⟩
theorem vz {S : List aW} (hS : fu S) {t : Ty} (h : dG S t = true) : ck (kl S t) < ck t ∧ ck t ≤ S.length ∧ OK S.length 0 false (kl S t) := by
 obtain ⟨h1, h2, h3, s, hs, hb, hn⟩ := xT h
 obtain ⟨_, jX⟩ := hS _ s hs
 obtain ⟨ho, hk⟩ := jX hb
 rw [hn]
 unfold ck
 rw [if_pos h1]
 refine ⟨?_, oM, ho⟩
 split
 ·have := hk (by assumption)
  have h0 : 0 ≤ s.ty.id := by rcases iT (lU ho) with h | h | h | h | h <;> omega
  omega
 ·omega
theorem YI {v b : Nat} {t : Ty} (h : OK v b false t) : ck t ≤ v := by
 unfold ck
 split
 ·rcases iT (lU h) with h | h | h | h | h <;> omega
 ·omega
theorem OL {S : List aW} (hS : fu S) : ∀ (n : Nat) (t : Ty), ck t ≤ n → dG S (jV S n t) = false
 | 0, t, h => by
  unfold jV dG
  have : t.kind ≠ 1 := fun hk => by unfold ck at h; rw [if_pos hk] at h; omega
  simp [this]
 | n + 1, t, h => by
  unfold jV
  by_cases hb : dG S t = true
  ·rw [if_pos hb]
   exact OL hS n _ (by have := (vz hS hb).1; omega)
  ·rw [if_neg hb]; simpa using hb
theorem OM {S : List aW} (hS : fu S) : ∀ (n : Nat) (t : Ty), OK S.length 0 false t → OK S.length 0 false (jV S n t)
 | 0, t, h => h
 | n + 1, t, h => by
  unfold jV
  by_cases hb : dG S t = true
  ·rw [if_pos hb]
   exact OM hS n _ (vz hS hb).2.2
  ·rw [if_neg hb]; exact h
theorem ON {S : List aW} (hS : fu S) : ∀ (n m : Nat) (t : Ty), ck t ≤ n → ck t ≤ m → jV S n t = jV S m t
 | 0, 0, t, _, _ => rfl
 | 0, m + 1, t, h, _ => by
  have : dG S t ≠ true := fun hb => by have := (vz hS hb).1; omega
  unfold jV; rw [if_neg this]
 | n + 1, 0, t, _, h => by
  have : dG S t ≠ true := fun hb => by have := (vz hS hb).1; omega
  unfold jV; rw [if_neg this]
 | n + 1, m + 1, t, h1, h2 => by
  unfold jV
  by_cases hb : dG S t = true
  ·have := (vz hS hb).1
   rw [if_pos hb, if_pos hb]
   exact ON hS n m _ oM oM
  ·rw [if_neg hb, if_neg hb]
theorem OO {S : List aW} (hS : fu S) {t : Ty} (h : dG S t = true) : walk S t = walk S (kl S t) := by
 have h1 := vz hS h
 unfold walk
 rw [ON hS (S.length + 1) S.length (kl S t) oM oM]
 show (if dG S t = true then _ else _) = _
 rw [if_pos h]
theorem YJ {S : List aW} {t : Ty} (h : dG S t = false) : walk S t = t := by
 show (if dG S t = true then _ else _) = _
 rw [h]; rfl
theorem vA {S : List aW} (hS : fu S) {t : Ty} (h : OK S.length 0 false t) : dG S (walk S t) = false ∧ OK S.length 0 false (walk S t) :=
 ⟨OL hS _ t (by have := YI h; omega), OM hS _ t h⟩
def km (S S' : List aW) : Prop := S.length ≤ S'.length ∧ ∀ (i : Nat) (s : aW), S[i]? = some s → s.b = true → ∃ s', S'[i]? = some s' ∧ s'.b = true ∧ s'.ty = s.ty
theorem km.refl (S : List aW) : km S S := ⟨Nat.le_refl _, fun _ s h hb => ⟨s, h, hb, rfl⟩⟩
theorem km.trans {A B C : List aW} (h : km A B) (k : km B C) : km A C := ⟨Nat.le_trans h.1 k.1, fun i s hs hb => by
 obtain ⟨s', h1, h2, h3⟩ := h.2 i s hs hb
 obtain ⟨YK, k1, k2, k3⟩ := k.2 i s' h1 h2
 exact ⟨YK, k1, k2, k3.trans h3⟩⟩
theorem km.dG {S S' : List aW} (h : km S S') {t : Ty} (hb : dG S t = true) : Th.dG S' t = true ∧ kl S' t = kl S t := by
 obtain ⟨h1, h2, h3, s, hs, Ho, hn⟩ := xT hb
 obtain ⟨s', oA, jX, ht⟩ := h.2 _ s hs Ho
 constructor
 ·unfold Th.dG
  rw [oA]
  simp [h1, h2, jX]
 ·rw [hn]; unfold kl; rw [oA]; exact ht
theorem OP {S S' : List aW} (h : km S S') (hS : fu S) (c6 : fu S') : ∀ (n : Nat) (t : Ty), walk S' (jV S n t) = walk S' t
 | 0, t => rfl
 | n + 1, t => by
  show walk S' (if Th.dG S t = true then _ else _) = _
  by_cases hb : Th.dG S t = true
  ·rw [if_pos hb, OP h hS c6 n _, OO c6 (h.dG hb).1, (h.dG hb).2]
  ·rw [if_neg hb]
mutual
def gr (S : List aW) (t : Ty) : Ty → Prop
 | .mk k n i h az => ((walk S t).kind = k ∧ (walk S t).name = n ∧ (walk S t).id = i ∧ (walk S t).home = h) ∧ mi S (walk S t).args az
def mi (S : List aW) (l : List Ty) : List Ty → Prop
 | [] => l = []
 | b :: s => ∃ a r, l = a :: r ∧ gr S a b ∧ mi S r s
end
theorem pA {S : List aW} {t y : Ty} : gr S t y ↔ ((walk S t).kind = y.kind ∧ (walk S t).name = y.name ∧ (walk S t).id = y.id ∧ (walk S t).home = y.home) ∧ mi S (walk S t).args y.args := by
 cases y with
 | mk k n i h az => rw [gr]; rfl
theorem mj {S : List aW} : ∀ {s l : List Ty}, mi S l s ↔ l.length = s.length ∧ ∀ i (h : i < l.length) (h' : i < s.length), gr S l[i] s[i]
 | [], l => by
  rw [mi]
  constructor
  ·rintro rfl; exact ⟨rfl, fun i h => by cases h⟩
  ·rintro ⟨h, _⟩; exact List.length_eq_zero_iff.1 h
 | b :: s, l => by
  rw [mi]
  constructor
  ·rintro ⟨a, r, rfl, h1, h2⟩
   obtain ⟨e, h⟩ := mj.1 h2
   refine ⟨by simp [e], fun i hi dR => ?_⟩
   cases i with
   | zero => exact h1
   | succ i => exact h i (by simpa using hi) (by simpa using dR)
  ·rintro ⟨e, h⟩
   cases l with
   | nil => cases e
   | cons a r => exact ⟨a, r, rfl, h 0 sM sM, mj.2 ⟨by simpa using e, fun i hi dR => h (i + 1) (by simpa using hi) (by simpa using dR)⟩⟩
theorem Hp {S : List aW} : ∀ (y t y' : Ty), gr S t y → gr S t y' → y = y' := by
 refine kH fun y ih => fun t y' h h' => ?_
 rw [pA] at h h'
 obtain ⟨⟨a1, a2, a3, a4⟩, a5⟩ := h
 obtain ⟨⟨b1, b2, b3, b4⟩, b5⟩ := h'
 rw [mj] at a5 b5
 obtain ⟨k, n, i, hh, az⟩ := y
 obtain ⟨k', n', i', Hl, rl⟩ := y'
 simp only [Ty.kind, Ty.name, Ty.id, Ty.home, Ty.args] at a1 a2 a3 a4 a5 b1 b2 b3 b4 b5 ih
 have e : az = rl := List.ext_getElem (by rw [← a5.1, ← b5.1]) fun j h1 h2 => ih _ (List.getElem_mem h1) _ _ (a5.2 j (by rw [a5.1]; exact h1) h1) (b5.2 j (by rw [b5.1]; exact h2) h2)
 rw [← a1, ← a2, ← a3, ← a4, e, b1, b2, b3, b4]
theorem OQ {S : List aW} (hS : fu S) : ∀ (y t : Ty), OK S.length 0 false t → gr S t y → OK S.length 0 false y := by
 refine kH fun y ih => fun t ht h => ?_
 rw [pA, mj] at h
 obtain ⟨⟨a1, a2, a3, a4⟩, a5, a6⟩ := h
 have hw := (vA hS ht).2
 refine mh ?_ fun a ha => ?_
 ·have := Oa (a := y.args) (lU hw) a5.symm
  rw [a1, a2, a3, a4] at this
  cases y; exact this
 ·obtain ⟨j, hj, rfl⟩ := List.mem_iff_getElem.1 ha
  exact ih _ (List.getElem_mem hj) _ (oB hw _ (List.getElem_mem (by rw [a5]; exact hj))) (a6 j (by rw [a5]; exact hj) hj)
def SB (S S' : List aW) : Prop := S'.map (fun s => (s.b, s.ty)) = S.map fun s => (s.b, s.ty)
theorem SB.at_ {S S' : List aW} (h : SB S S') (i : Nat) : (S'[i]?).map (·.b) = (S[i]?).map (·.b) ∧ (S'[i]?).map (·.ty) = (S[i]?).map (·.ty) := by
 have e : (S'[i]?).map (fun s => (s.b, s.ty)) = (S[i]?).map fun s => (s.b, s.ty) := by
  rw [← List.getElem?_map, ← List.getElem?_map, show S'.map _ = S.map _ from h]
 cases h1 : S'[i]? <;> cases h2 : S[i]? <;> rw [h1, h2] at e <;> simp_all
theorem SB.len {S S' : List aW} (h : SB S S') : S'.length = S.length := by have := congrArg List.length (show S'.map _ = S.map _ from h); simpa using this
theorem SB.dG {S S' : List aW} (h : SB S S') (t : Ty) : Th.dG S' t = Th.dG S t ∧ kl S' t = kl S t := by
 unfold Th.dG kl
 rw [(h.at_ _).1, (h.at_ _).2]
 exact ⟨rfl, rfl⟩
theorem SB.walk {S S' : List aW} (h : SB S S') (t : Ty) : Th.walk S' t = Th.walk S t := by
 have : ∀ n t, jV S' n t = jV S n t := by
  intro n
  induction n with
  | zero => intro t; rfl
  | succ n ih => intro t; unfold jV; rw [(h.dG t).1, (h.dG t).2, ih]
 unfold Th.walk
 rw [h.len, this]
theorem SB.res {S S' : List aW} (h : SB S S') : ∀ (y t : Ty), gr S' t y → gr S t y := by
 refine kH fun y ih => fun t hr => ?_
 rw [pA, mj, h.walk] at hr
 rw [pA, mj]
 exact ⟨hr.1, hr.2.1, fun i h1 h2 => ih _ (List.getElem_mem h2) _ (hr.2.2 i h1 h2)⟩
theorem SB.trans {A B C : List aW} (h : SB A B) (k : SB B C) : SB A C := Eq.trans k h
def gO (S : List aW) : Nat := S.countP fun s => !s.b
theorem SB.gO {S S' : List aW} (h : SB S S') : Th.gO S' = Th.gO S := by
 have : ∀ l : List aW, Th.gO l = (l.map fun s => (s.b, s.ty)).countP fun x => !x.1 := fun l => by unfold Th.gO; rw [List.countP_map]; rfl
 rw [this, this, show S'.map _ = S.map _ from h]
theorem SB.mono {S S' : List aW} (h : SB S S') : km S S' := ⟨by rw [h.len]; exact Nat.le_refl _, fun i s hs hb => by
 have h1 := h.at_ i
 cases oA : S'[i]? with
 | none => rw [hs, oA] at h1; simp at h1
 | some s' => rw [hs, oA] at h1; simp at h1; exact ⟨s', rfl, by rw [h1.1, hb], h1.2⟩⟩
theorem OR {S : List aW} {i : Nat} {s x : aW} (h : S[i]? = some s) (h1 : s.b = false) (h2 : x.b = true) : gO (S.set i x) + 1 = gO S := by
 obtain ⟨hl, e⟩ := List.getElem?_eq_some_iff.1 h
 induction S generalizing i with
 | nil => cases hl
 | cons a r ih =>
  cases i with
  | zero =>
   simp only [List.getElem_cons_zero] at e
   subst e
   simp [gO, h1, h2]
  | succ i =>
   simp only [List.getElem_cons_succ] at e
   have := ih (i := i) (by simpa using h) (by simpa using hl) e
   unfold gO at this ⊢
   simp only [List.set_cons_succ, List.countP_cons]
   omega
theorem xU {S : List aW} (hS : fu S) {i : Nat} {x : aW} (h1 : x.h = 1000000) (h2 : x.b = true → OK S.length 0 false x.ty ∧ (x.ty.kind = 1 → x.ty.id < i)) : fu (S.set i x) := fun j s hs => by
 rw [List.length_set]
 rw [List.getElem?_set] at hs
 split at hs
 ·rename_i e
  split at hs
  ·cases hs; subst e; exact ⟨h1, h2⟩
  ·cases hs
 ·exact hS j s hs
theorem Hr {S : List aW} {i : Nat} {s x : aW} (h : S[i]? = some s) (h1 : s.b = false ∨ (x.b = s.b ∧ x.ty = s.ty)) : km S (S.set i x) := ⟨by rw [List.length_set]; exact Nat.le_refl _, fun j u hu hb => by
 rw [List.getElem?_set]
 by_cases e : i = j
 ·subst e
  rw [h] at hu
  cases hu
  obtain ⟨hl, _⟩ := List.getElem?_eq_some_iff.1 h
  rw [if_pos rfl, if_pos hl]
  rcases h1 with h1 | h1
  ·rw [h1] at hb; cases hb
  ·exact ⟨x, rfl, by rw [h1.1, hb], h1.2⟩
 ·rw [if_neg e]
  exact ⟨u, hu, hb, rfl⟩⟩
theorem OS {S : List aW} {i : Nat} {s x : aW} (h : S[i]? = some s) (h1 : x.b = s.b) (h2 : x.ty = s.ty) : SB S (S.set i x) := by
 refine List.ext_getElem? fun j => ?_
 rw [List.getElem?_map, List.getElem?_map, List.getElem?_set]
 by_cases e : i = j
 ·subst e
  obtain ⟨hl, _⟩ := List.getElem?_eq_some_iff.1 h
  rw [if_pos rfl, if_pos hl, h]
  simp [h1, h2]
 ·rw [if_neg e]
theorem Dt {v v' b b' : Nat} (hv : v ≤ v') (hb : b ≤ b') {t : Ty} (h : OK v b false t) : OK v' b' false t := G9 ((oD h).imp fun u hu => by
 rcases iT hu with h | h | h | h | h
 ·have e := h.2.2.2.2
  have h0 := h.2.1
  have h1 := h.2.2.1
  have e1 : u.id = (u.id.toNat : Int) := by omega
  rw [e, e1]
  exact N_ oM
 ·rw [h.2.2.2.2]; exact GR h.2.1 (by have := h.2.2.1; omega)
 ·rw [h.2.2.2.2]; exact xJ h.2.1 h.2.2.1
 ·obtain ⟨h1, h2, h3⟩ := h
  rw [h2]
  rcases h3 with h3 | h3
  ·exact xK _ h3
  ·unfold bJ; rw [h3.1]; exact C7 h3.2
 ·exact absurd h.1 dC)
theorem Hs {S : List aW} (hS : fu S) {t : Ty} {z : Bool} : fu (S ++ [⟨false, t, 1000000, z⟩]) := fun j s hs => by
 rw [List.length_append, List.length_singleton]
 rw [List.getElem?_append] at hs
 split at hs
 ·obtain ⟨h1, h2⟩ := hS j s hs
  exact ⟨h1, fun hb => ⟨Dt oM (Nat.le_refl _) (h2 hb).1, (h2 hb).2⟩⟩
 ·rcases hk : j - S.length with _ | k
  ·rw [hk] at hs
   simp only [List.getElem?_cons_zero, Option.some.injEq] at hs
   subst hs
   exact ⟨rfl, fun h => by cases h⟩
  ·rw [hk] at hs; simp at hs
theorem OT (S : List aW) (x : aW) : km S (S ++ [x]) := ⟨sM, fun i s hs hb => ⟨s, by rw [List.getElem?_append_left (List.getElem?_eq_some_iff.1 hs).1]; exact hs, hb, rfl⟩⟩
theorem xV {S : List aW} {t : Ty} (h1 : t.kind = 1) (h2 : 0 ≤ t.id) (h3 : t.id.toNat < S.length) : dG S t = S[t.id.toNat].b := by
 unfold dG
 rw [List.getElem?_eq_getElem h3]
 simp [h1, h2]
theorem Ht {S : List aW} {t : Ty} (h : ¬(t.kind = 1 ∧ 0 ≤ t.id ∧ t.id < S.length)) : dG S t = false := by
 cases hb : dG S t with
 | false => rfl
 | true =>
  obtain ⟨h1, h2, h3, _⟩ := xT hb
  exact absurd ⟨h1, h2, oM⟩ h
theorem YL {S : List aW} {t : Ty} (h3 : t.id.toNat < S.length) : kl S t = S[t.id.toNat].ty := by
 unfold kl
 rw [List.getElem?_eq_getElem h3]
 rfl
end Go.Th
namespace Go.Proofs.YtlnjfkfojkgiiaaGreatDoor
abbrev ml (s : aW) (sl : Value) : List Value := [.bool s.b, .int .i64 s.ty.kind, str s.ty.name, .int .i64 s.ty.id, .int .i64 s.ty.home, sl, .int .i64 s.h, .bool s.z]
theorem tE {a b : Bool} (h : a = b) : Value.bool a = .bool b := by rw [h]
def kI (g : ab) (s : aW) (cs : List Value) : Prop := ∃ sl, cs = ml s sl ∧ bx g s.ty (aH s.ty sl)
theorem kI.mono {g g' : ab} (hle : ab.le g g') {s : aW} {cs : List Value} (h : kI g s cs) : kI g' s cs := by
 obtain ⟨sl, h1, h2⟩ := h
 exact ⟨sl, h1, h2.mono hle⟩
theorem kI.form {g : ab} {s : aW} {cs : List Value} (h : kI g s cs) : ∃ (a : Option Addr) (c : Nat), cs = ml s (.slice a s.ty.args.length c) ∧ bx g s.ty (aH s.ty (.slice a s.ty.args.length c)) := by
 obtain ⟨sl, h1, h2⟩ := h
 obtain ⟨a, c, rfl⟩ := h2.slice
 exact ⟨a, c, h1, h2⟩
theorem kI.one {g : ab} {s : aW} {cs : List Value} (h : kI g s cs) : cs.length = 8 ∧ ∀ u ∈ cs, fx u = true := by
 obtain ⟨a, c, rfl, h2⟩ := h.form
 refine ⟨rfl, fun u hu => ?_⟩
 simp only [ml, List.mem_cons, List.not_mem_nil, or_false] at hu
 rcases hu with rfl | rfl | rfl | rfl | rfl | rfl | rfl | rfl <;> rfl
theorem OU {s : aW} {sl x : Value} {j : Nat} (h : (aH s.ty sl)[j]? = some x) : (ml s sl)[j + 1]? = some x := by
 rcases j with _ | _ | _ | _ | _ | j
 ·exact h
 ·exact h
 ·exact h
 ·exact h
 ·exact h
 ·cases h
def eJ (g : ab) (v : Value) (S : List aW) (m : Nat) : Prop := ∃ (a : Option Addr) (c : Nat) (a' : Option Addr) (c' : Nat) (xs ys : List Value), v = .agg #[.slice a S.length c, .slice a' m c'] ∧ au g 8 (.slice a S.length c) S.length xs ∧ aL (kI g) S xs ∧ au g 10 (.slice a' m c') m ys ∧ ∀ u ∈ ys, fx u = true
theorem eJ.mono {g g' : ab} (hle : ab.le g g') {v : Value} {S : List aW} {m : Nat} (h : eJ g v S m) : eJ g' v S m := by
 obtain ⟨a, c, a', c', xs, ys, h1, h2, h3, h4, h5⟩ := h
 exact ⟨a, c, a', c', xs, ys, h1, h2.mono hle, aL.mono (fun _ _ h => h.mono hle) h3, h4.mono hle, h5⟩
theorem YM (g : ab) : bK prog 189 [] g fun w g' => g' = g ∧ eJ g w [] 0 := by
 refine aw func189 rfl ntmps189 rfl fun E hE => ?_
 refine aS ?_
 refine aj rfl (fun b0 => ?_)
 refine wz.i.b.q.K.c.b.z ?_
 exact bp [] rfl (ay 0 rfl rfl rL) sZ ⟨⟨rfl, none, 0, none, 0, [], [], rfl, cP g 8, rfl, cP g 10, fun _ h => by cases h⟩, rfl⟩
theorem OV (g : ab) (S : List aW) (m : Nat) (v u : Value) (t : Ty) (hv : eJ g v S m) (hu : aQ g u t) : Pure prog 225 [v, u] g (.bool (dG S t)) := by
 obtain ⟨a, c, a', c', xs, ys, rfl, h1, h2, _, _⟩ := hv
 obtain ⟨ya, ym, yc, rfl, _⟩ := hu.bA
 refine aw func225 rfl ntmps225 rfl fun E hE => ?_
 refine aS ?_
 refine aP rfl rfl rfl (fun b2 => ?_)
 skip
 refine aP rfl rfl rfl (fun b3 => ?_)
 refine wz.a.a.v.g.c.b.a.z ?_
 refine bw rfl rfl (fun hk => ?_) (fun hk => ?_)
 ·refine wz.a.a.u.v.k.g.k.z ?_
  refine bw rfl rfl (fun hi => ?_) (fun hi => ?_)
  ·refine wz.a.a.u.A.k.I.k.g.k.v.k.g.k.z ?_
   refine bw rfl rfl (fun hl => ?_) (fun hl => ?_)
   ·have hlt : t.id.toNat < S.length := by omega
    obtain ⟨b, off, cap, aq, hx⟩ := h1.held hlt
    cases aq
    obtain ⟨cs, e1, hr⟩ := dt (fun _ _ h => h.one.1) h2 hx hlt
    obtain ⟨a, c', rfl, e2⟩ := e1.form
    refine wz.k.v.k.g.k.I.k.g.k.z ?_
    refine gV (j := t.id.toNat) rfl rfl rfl oM hlt ?_
    refine wz.k.g.k.z ?_
    refine cj rfl rfl ((hr _).du 0 rfl) ?_
    refine wz.i.b.a.a.z ?_
    exact ao [] rfl rfl sM ⟨tE (xV hk hi hlt).symm, rfl, rfl⟩
   ·refine wz.i.b.a.a.h.h.h.h.h.h.h.z ?_
    exact ao [] rfl rfl sM ⟨tE (Ht (fun h => hl h.2.2)).symm, rfl, rfl⟩
  ·refine wz.i.b.a.a.h.h.h.h.h.h.h.a.a.h.h.h.h.h.h.z ?_
   exact ao [] rfl rfl sM ⟨tE (Ht (fun h => hi h.2.1)).symm, rfl, rfl⟩
 ·refine wz.i.b.a.a.h.h.h.h.h.h.h.a.a.h.h.h.h.h.h.a.a.h.h.h.z ?_
  exact ao [] rfl rfl sM ⟨tE (Ht (fun h => hk h.1)).symm, rfl, rfl⟩
theorem xW (g : ab) (S : List aW) (m : Nat) (v u : Value) (t : Ty) (hv : eJ g v S m) (hu : aQ g u t) : Pure prog 234 [v, u] g (.bool (decide (t.kind = 1 ∧ 0 ≤ t.id ∧ t.id < S.length))) := by
 obtain ⟨a, c, a', c', xs, ys, rfl, h1, h2, _, _⟩ := hv
 obtain ⟨ya, ym, yc, rfl, _⟩ := hu.bA
 refine aw func234 rfl ntmps234 rfl fun E hE => ?_
 refine aS ?_
 refine aP rfl rfl rfl (fun b2 => ?_)
 skip
 refine aP rfl rfl rfl (fun b3 => ?_)
 refine wz.a.a.v.g.c.b.a.z ?_
 refine bw rfl rfl (fun hk => ?_) (fun hk => ?_)
 ·refine wz.a.a.u.v.k.g.k.z ?_
  refine bw rfl rfl (fun hi => ?_) (fun hi => ?_)
  ·refine wz.i.b.a.a.u.A.k.I.k.g.k.v.k.g.k.z ?_
   exact ao [] rfl rfl sM ⟨tE (by simp only [hk, hi, true_and]), rfl, rfl⟩
  ·refine wz.i.b.a.a.h.h.h.h.h.h.z ?_
   exact ao [] rfl rfl sM ⟨tE (decide_eq_false (fun h : t.kind = 1 ∧ 0 ≤ t.id ∧ t.id < S.length => hi h.2.1)).symm, rfl, rfl⟩
 ·refine wz.i.b.a.a.h.h.h.h.h.h.a.a.h.h.h.z ?_
  exact ao [] rfl rfl sM ⟨tE (decide_eq_false (fun h : t.kind = 1 ∧ 0 ≤ t.id ∧ t.id < S.length => hk h.1)).symm, rfl, rfl⟩
theorem jm (g : ab) (S : List aW) (hN : S.length ≤ 1000000) (m : Nat) (v u : Value) (t : Ty) (hv : eJ g v S m) (hu : aQ g u t) : bK prog 211 [v, u] g fun w g' => g' = g ∧ aQ g w (walk S t) := by
 obtain ⟨a, c, a', c', xs, ys, rfl, h1, h2, h3, h4⟩ := id hv
 obtain ⟨ya, ym, yc, rfl, h5⟩ := hu.bA
 have hle := h1.le
 refine aw func211 rfl ntmps211 rfl fun E hE => ?_
 refine aS ?_
 refine aP rfl rfl rfl (fun b2 => ?_)
 skip
 refine aP rfl rfl rfl (fun b3 => ?_)
 skip
 refine aj rfl (fun b4 => ?_)
 refine wz.p.b.a.c.e.b.z ?_
 refine aX (ι := Nat × Ty × Value) (fun o => [(2, ptr b2 0), (3, ptr b3 0), (4, ptr b4 0), (5, .int .i64 o.1)]) (fun _ => g) (fun o => [.ae b4 41 k_, .ae b3 41 (aH o.2.1 o.2.2), .ae b2 215 [.slice a S.length c, .slice a' m c']])
  (fun o => o.1 ≤ S.length + 1 ∧ jV S (S.length + 1 - o.1) o.2.1 = walk S t ∧ bx g o.2.1 (aH o.2.1 o.2.2)) (fun o => S.length + 1 - o.1) (0, t, _) ⟨oM, rfl, h5⟩ ⟨rfl, rfl, rfl, rfl, trivial⟩ rfl rfl ?_
 rintro ⟨k, z, sl⟩ ⟨hk, hw, hz⟩
 simp only at hk hw hz
 obtain ⟨za, zc, rfl⟩ := hz.slice
 try dsimp only
 refine wz.a.a.A.Ag.g.a.c.e.z ?_
 refine bw rfl rfl (fun hlt => ?_) (fun hlt => ?_)
 ·have af : k ≤ S.length := by omega
  rw [show S.length + 1 - k = (S.length - k) + 1 by omega] at hw
  unfold jV at hw
  refine wz.k.O.k.Af.k.z ?_
  refine aO rfl rfl (OV g S m _ _ z hv ⟨_, rfl, hz⟩) ?_
  by_cases hb : dG S z = true
  ·rw [hb]
   rw [if_pos hb] at hw
   obtain ⟨k1, k2, k3, _⟩ := xT hb
   rw [YL k3] at hw
   obtain ⟨b, off, cap, aq, hx⟩ := h1.held k3
   cases aq
   obtain ⟨cs, e1, hr⟩ := dt (fun _ _ h => h.one.1) h2 hx k3
   obtain ⟨sa, sc, rfl, e2⟩ := e1.form
   refine wz.I.g.Ag.g.r.p.e.d.j.t.b.a.z ?_
   refine gV (j := z.id.toNat) rfl rfl rfl oM k3 ?_
   refine wz.g.z ?_
   refine eY rfl rfl ((hr _).part 1 (vs := [.int .i64 S[z.id.toNat].ty.kind, str S[z.id.toNat].ty.name, .int .i64 S[z.id.toNat].ty.id, .int .i64 S[z.id.toNat].ty.home, .slice sa S[z.id.toNat].ty.args.length sc]) (fun j x h => by rw [Nat.add_comm]; exact OU h)) rfl ?_
   refine wz.b.a.E.a.r.d.y.N.B.z ?_
   exact aM (k + 1, S[z.id.toNat].ty, _) ⟨oM, by rw [← hw]; congr 1; omega, e2⟩ uM ⟨rfl, rfl, rfl, rfl, trivial⟩ rfl rfl
  ·have jX : dG S z = false := by simpa using hb
   rw [jX]
   rw [if_neg hb] at hw
   subst hw
   refine wz.i.b.q.O.c.d.D.m.m.C.o.b.a.z ?_
   exact bp [] rfl (ay 0 rfl rfl rL) sZ ⟨⟨rfl, _, rfl, hz⟩, rfl⟩
 ·obtain rfl : k = S.length + 1 := by omega
  rw [Nat.sub_self] at hw
  unfold jV at hw
  subst hw
  refine wz.i.b.q.O.c.d.D.m.m.C.o.b.a.h.h.h.z ?_
  exact bp [] rfl (ay 0 rfl rfl rL) sZ ⟨⟨rfl, _, rfl, hz⟩, rfl⟩
theorem aL.split {α : Type} {R : α → List Value → Prop} {sz : Nat} (hR : ∀ a c, R a c → c.length = sz) : ∀ {l : List α} {xs : List Value}, aL R l xs → ∀ (i : Nat) (h : i < l.length), ∃ pre c post, xs = pre ++ (c ++ post) ∧ pre.length = i * sz ∧ R l[i] c ∧ ∀ x c', R x c' → aL R (l.set i x) (pre ++ (c' ++ post))
 | a :: l, xs, ⟨c, r, e, h1, h2⟩, 0, h => ⟨[], c, r, e, sM, h1, fun x c' hc => ⟨c', r, rfl, hc, h2⟩⟩
 | a :: l, xs, ⟨c, r, e, h1, h2⟩, i + 1, h => by
  obtain ⟨pre, c1, post, e1, e2, e3, e4⟩ := aL.split hR h2 i (by simpa using h)
  refine ⟨c ++ pre, c1, post, by rw [e, e1, List.append_assoc], ?_, e3, fun x c' hc => ?_⟩
  ·rw [List.length_append, hR a c h1, e2, Nat.succ_mul]; omega
  ·exact ⟨c, _, by rw [List.append_assoc], h1, e4 x c' hc⟩
theorem OW {a b : List Value} {j : Nat} {y : Value} (h : a[j]? = some y) : (a ++ b)[j]? = some y := by
 rw [List.getElem?_append_left (List.getElem?_eq_some_iff.1 h).1]; exact h
def OX (g : ab) (v : Value) (s : aW) : Prop := ∃ sl, v = .agg #[.bool s.b, .int .i64 s.ty.kind, str s.ty.name, .int .i64 s.ty.id, .int .i64 s.ty.home, sl, .int .i64 s.h, .bool s.z] ∧ bx g s.ty (aH s.ty sl)
theorem OY {g : ab} {S : List aW} {m n n' c c' : Nat} {a a' : Option Addr} {xs ys : List Value} (hn : n = S.length) (hm : n' = m) (h1 : au g 8 (.slice a n c) n xs) (h2 : aL (kI g) S xs) (h3 : au g 10 (.slice a' n' c') n' ys) (h4 : ∀ u ∈ ys, fx u = true) : eJ g (.agg #[.slice a n c, .slice a' n' c']) S m := by
 subst hn hm
 exact ⟨a, c, a', c', xs, ys, rfl, h1, h2, h3, h4⟩
theorem Hu (g : ab) (S : List aW) (m : Nat) (v : Value) (z : Bool) (hv : eJ g v S m) (hN : S.length ≤ 100000) (hm : m ≤ 1000000) : bK prog 190 [v, .int .i64 1000000, .bool z] g fun w g' => ∃ sv tv, w = .tuple #[sv, tv] ∧ eJ g' sv (S ++ [⟨false, bX, 1000000, z⟩]) (m + 1) ∧ aQ g' tv (.mk 1 [] S.length 0 []) := by
 obtain ⟨a, c, a', c', xs, ys, rfl, h1, h2, h3, h4⟩ := id hv
 have jB := (aL.one (fun _ _ h => h.one) h2).2
 refine aw func190 rfl ntmps190 rfl fun E hE => ?_
 refine aS ?_
 refine aP rfl rfl rfl (fun b3 => ?_)
 skip
 refine aj rfl (fun b6 => ?_)
 skip
 refine aj rfl (fun b7 => ?_)
 refine wz.Ag.g.c.b.a.A.Ag.g.c.b.z ?_; refine fW 273 8 ?_
 refine jr 0 rfl rfl rfl rfl h1 rL rL jB mL oM (fun v1 _ => ?_)
 refine gT 0 rfl ?_
 rintro ⟨z1, z2, z3, rfl⟩
 refine wz.K.a.a.z ?_
 refine bu rfl rfl rL rL rL rL rL (fun y0 => ?_)
 refine cV 1 0 rfl rfl rfl rfl rfl rL rL rfl mL oM (fun v2 _ => ?_)
 refine wz.AC.z ?_
 rintro ⟨q1, q3, rfl⟩
 refine wz.Bb.K.z ?_
 refine bg (fun g1 a8 aJ => ?_)
 skip
 refine aj rfl (fun b9 => ?_)
 refine wz.AN.g.c.b.q.z ?_; refine fW 275 10 ?_
 refine jr 0 rfl rfl rfl rfl (h3.mono a8) rL rL h4 mL oM (fun v3 _ => ?_)
 refine gT 0 rfl ?_
 rintro ⟨z4, z5, z6, rfl⟩
 refine wz.K.a.z ?_
 refine bu rfl rfl rL rL rL rL rL (fun y1 => ?_)
 refine cV 1 0 rfl rfl rfl rfl rfl rL rL rfl mL oM (fun v4 _ => ?_)
 refine wz.AC.z ?_
 rintro ⟨q4, q6, rfl⟩
 refine wz.BB.e.b.Bj.g.z ?_
 refine bg (fun g2 aD bj => ?_)
 skip
 refine bO [2, 1] mixed (fun hG => ?_)
 refine wz.P.z ?_; refine ⟨_, (bP 0 rfl rfl rL), ?_⟩; refine wz.R.z ?_; refine ⟨_, (ag rfl), ?_⟩
 refine wz.AL.z ?_
 refine aO rfl rfl (B_ g2 _) ?_
 refine wz.i.d.F.f.b.B.AH.f.b.V.Aw.f.b.z ?_
 refine cB [] rfl (ay 2 rfl rfl rL) (ay 1 rfl rfl rL) sZ ⟨⟨_, _, rfl, OY (by rw [List.length_append, Nat.zero_add]; rfl) oM (aJ.mono aD) (aL.snoc ⟨_, rfl, bx.mk (t := bX) (cP g2 5) (cQ g2)⟩ (aL.mono (fun _ _ h => (h.mono a8).mono aD) h2)) bj (fun u hu => ?_), ⟨_, rfl, bx.mk (t := .mk 1 [] S.length 0 []) (cP g2 5) (cQ g2)⟩⟩, rfl⟩
 rcases List.mem_append.1 hu with hu | hu
 ·exact h4 u hu
 ·exact uZ rL u hu
theorem Du (g : ab) (S : List aW) (m : Nat) (v u : Value) (i : Nat) (x : aW) (hv : eJ g v S m) (hu : OX g u x) (hi : i < S.length) (hN : S.length ≤ 100000) (hm : m ≤ 1000000) : bK prog 212 [v, .int .i64 i, u] g fun w g' => ∃ sv, w = .tuple #[sv, .bool true] ∧ eJ g' sv (S.set i x) (m + 1) := by
 obtain ⟨a, c, a', c', xs, ys, rfl, h1, h2, h3, h4⟩ := id hv
 have jB := (aL.one (fun _ _ h => h.one) h2).2
 have kF := (aL.one (fun _ _ h => h.one) h2).1
 obtain ⟨sl, rfl, hx⟩ := hu
 obtain ⟨xa, xc, rfl⟩ := hx.slice
 obtain ⟨b, off, cap, aq, dV⟩ := h1.held hi
 cases aq
 obtain ⟨cs, e1, hr⟩ := dt (fun _ _ h => h.one.1) h2 dV hi
 obtain ⟨sa, sc, rfl, e2⟩ := e1.form
 obtain ⟨pre, c1, post, p1, p2, p3, p4⟩ := aL.split (fun _ _ h => kI.one h |>.1) h2 i hi
 refine aw func212 rfl ntmps212 rfl fun E hE => ?_
 refine aS ?_
 refine aP rfl rfl rfl (fun b3 => ?_)
 skip
 refine aP rfl rfl rfl (fun b5 => ?_)
 skip
 refine aj rfl (fun b6 => ?_)
 refine wz.b.a.u.A.k.Ag.k.g.k.u.a.a.a.c.e.b.a.z ?_
 refine an rfl (fun h9 => ?_) (fun h9 => ?_)
 ·exact absurd h9 oM
 ·refine fW 273 8 <| wz.AN.g.c.d.j.z ?_
  refine jr 0 rfl rfl rfl rfl h1 rL rL jB mL oM (fun v1 _ => ?_)
  refine wz.CK.z ?_
  rintro ⟨z1, z2, rfl⟩
  refine wz.K.z ?_
  refine aj rfl (fun b8 => ?_)
  refine wz.b.Br.z ?_; refine fW 275 10 ?_
  refine cD (ι := Value × List Value) (fun p => [(1, .int .i64 i), (3, ptr b3 0), (5, ptr b5 0), (6, ptr b6 0), (7, .bool false), (8, ptr b8 0)]) (fun _ => g) (fun p => [.row 275 10 p.1 (m + 1) p.2, .ae b8 215 [.slice (some ⟨z1, 0, none⟩) (0 + S.length) z2, p.1], .row 273 8 (.slice (some ⟨z1, 0, none⟩) (0 + S.length) z2) (0 + S.length) ([] ++ xs), .ae b6 215 [.slice none 0 0, .slice none 0 0], .ae b5 273 [.bool x.b, .int .i64 x.ty.kind, str x.ty.name, .int .i64 x.ty.id, .int .i64 x.ty.home, .slice xa x.ty.args.length xc, .int .i64 x.h, .bool x.z]])
   (fun p => (∃ a c, p.1 = .slice a (m + 1) c) ∧ ∀ u ∈ p.2, fx u = true) ?_ ?_
  ·rintro ⟨w, zs⟩ ⟨⟨wa, wc, hw⟩, rf⟩
   simp only at hw rf
   subst hw
   refine bg (fun g1 a8 aJ => ?_)
   refine wz.M.Y.a.v.g.c.z ?_; refine ko (own' := [_, _, _, _]) (.swap _ _ _) ?_
   refine Dv (fun rest g_ eM gD qq => ?_)
   rw [List.nil_append, p1, List.append_assoc, List.append_assoc]
   refine kE 0 rfl rfl rfl rfl rL rfl (xX _ _ _ _ _ (by rw [p2, Nat.zero_add]) p3.one.1) ?_
   refine Ss (fun g2 aD bj => ?_)
   refine wz.i.b.a.B.G.c.b.z ?_
   refine cB [] rfl (ay 1 rfl rfl rL) (.tmp rfl) sZ ⟨⟨_, rfl, OY (xs := pre ++ (ml x (.slice xa x.ty.args.length xc) ++ post)) (by rw [List.length_set, Nat.zero_add]) rfl ?_ (aL.mono (fun _ _ h => (h.mono a8).mono aD) (p4 x _ ⟨_, rfl, hx⟩)) (aJ.mono aD) rf⟩, rfl⟩
   refine ⟨?_, .inr ⟨z1, 0, z2, rfl, g_, eM, fun j y hy => ?_⟩⟩
   ·have := p3.one.1
    simp only [p1, List.nil_append, List.length_append] at gD
    simp only [List.length_append, ml, List.length_cons, List.length_nil]
    omega
   ·rw [Nat.zero_add]
    exact bj j y (by rw [← List.append_assoc, ← List.append_assoc, List.append_assoc pre]; exact OW hy)
  ·intro K hK
   refine fQ 12 [0] mixed kR (fun hG => ?_)
   refine wz.Ar.z ?_; refine ⟨_, (aI rfl), ?_⟩; refine wz.Ax.z ?_; refine ⟨_, (a7 4 rfl rfl rfl), ?_⟩
   refine wz.AS.z ?_; refine ⟨_, (ag rfl), ?_⟩; refine wz.AT.z ?_; refine ⟨_, (aI rfl), ?_⟩; refine wz.Be.z ?_; refine ⟨_, (a7 4 rfl rfl rfl), ?_⟩; refine wz.Bs.z ?_; refine ⟨_, (ag rfl), ?_⟩
   refine di 7 rfl kR rfl hG ⟨_, (bU (j := i) rfl rfl rfl hi), ?_⟩
   refine di 8 rfl kR rfl hG ⟨_, (dL rfl (hr _) rfl), ?_⟩; refine wz.BI.z ?_; refine ⟨_, (et rfl rL), ?_⟩
   refine Ou 2 10 kR rfl rfl rfl rfl ?_ ?_
   ·skip
    refine jr 0 rfl rfl rfl rfl h3 rL rL h4 mL oM (fun v3 _ => ?_)
    refine gT 0 rfl ?_
    rintro ⟨z4, z5, z6, rfl⟩
    refine wz.BE.f.b.z ?_
    skip
    refine bu rfl rfl rL rL rL rL rL (fun y1 => ?_)
    refine wz.f.b.z ?_; refine iP 11 kR rfl rfl ?_
    skip
    refine cV 1 0 rfl rfl rfl rfl rfl rL rL rfl mL oM (fun v4 _ => ?_)
    refine wz.AC.z ?_
    rintro ⟨q4, q6, rfl⟩
    refine wz.b.Ah.g.BX.Am.f.b.z ?_
    rw [Nat.zero_add m]
    refine wz.Dp.z ?_
    exact hK (_, _) _ ⟨⟨q4, q6, rfl⟩, fun u hu => by
     rcases List.mem_append.1 hu with hu | hu
     ·exact h4 u hu
     ·exact uZ rL u hu⟩ ⟨rfl, rfl, rfl, rfl, rfl, rfl, trivial⟩
   ·skip
    refine bu rfl rfl rL rL rL rL rL (fun y1 => ?_)
    refine wz.f.b.z ?_; refine iP 2 kR rfl rfl ?_
    skip
    refine jr 1 rfl rfl rfl rfl h3 rL rL h4 mL oM (fun v3 _ => ?_)
    refine gT 1 rfl ?_
    rintro ⟨z4, z5, z6, rfl⟩
    refine wz.f.b.z ?_; refine iP 11 kR rfl rfl ?_
    skip
    refine cV 1 0 rfl rfl rfl rfl rfl rL rL rfl mL oM (fun v4 _ => ?_)
    refine wz.AC.z ?_
    rintro ⟨q4, q6, rfl⟩
    refine wz.b.Ah.g.BX.Am.f.b.z ?_
    rw [Nat.zero_add m]
    refine wz.Dp.z ?_
    exact hK (_, _) _ ⟨⟨q4, q6, rfl⟩, fun u hu => by
     rcases List.mem_append.1 hu with hu | hu
     ·exact h4 u hu
     ·exact uZ rL u hu⟩ ⟨rfl, rfl, rfl, rfl, rfl, rfl, trivial⟩
end Go.Proofs.YtlnjfkfojkgiiaaGreatDoor
namespace Go.Th
def Dw (S : List aW) (M : Nat) (t : Ty) (r : Nat) : Prop := r ≤ M + 1 ∧ (r ≤ M → ∃ y, gr S t y ∧ aE y = r) ∧ ∀ y, gr S t y → aE y ≤ M → r = aE y
def xY (S : List aW) (M : Nat) (t : Ty) (i n : Nat) : Prop := 1 ≤ n ∧ n ≤ M + 1 ∧ (n ≤ M → ∃ ys, mi S ((walk S t).args.take i) ys ∧ n = 1 + bM ys) ∧ (M < n → ∀ y, gr S t y → M < aE y)
theorem YN {S : List aW} {l s : List Ty} (h : mi S l s) (i : Nat) : mi S (l.take i) (s.take i) := by
 rw [mj] at h ⊢
 refine ⟨by simp [h.1], fun j h1 h2 => ?_⟩
 rw [List.getElem_take, List.getElem_take]
 exact h.2 j (by simp at h1; omega) (by simp at h2; omega)
theorem YO {S : List aW} {l s : List Ty} {a b : Ty} (h : mi S l s) (hb : gr S a b) : mi S (l ++ [a]) (s ++ [b]) := by
 rw [mj] at h ⊢
 refine ⟨by simp [h.1], fun j h1 h2 => ?_⟩
 simp only [List.length_append, List.length_singleton] at h1 h2
 by_cases hj : j < l.length
 ·rw [List.getElem_append_left hj, List.getElem_append_left oM]
  exact h.2 j hj oM
 ·have e1 : j = l.length := by omega
  have e2 : j = s.length := by omega
  rw [List.getElem_append_right oM, List.getElem_append_right oM]
  simpa [e1, h.1] using hb
theorem YP {S : List aW} {l s s' : List Ty} (h : mi S l s) (h' : mi S l s') : s = s' := by
 rw [mj] at h h'
 exact List.ext_getElem (by rw [← h.1, ← h'.1]) fun j h1 h2 => Hp _ _ _ (h.2 j oM h1) (h'.2 j oM h2)
theorem YQ {l : List Ty} {j : Nat} (h : j < l.length) : bM (l.take j) + aE l[j] ≤ bM l := by
 have e := vr (l.take j) (l.drop j)
 rw [List.take_append_drop, List.drop_eq_getElem_cons h] at e
 simp only [bM] at e
 omega
theorem YR {S : List aW} {M : Nat} {t : Ty} : xY S M t 0 1 := ⟨Nat.le_refl _, oM, fun _ => ⟨[], by rw [List.take_zero, mi], rfl⟩, fun h y _ => by have := jA y; omega⟩
theorem YS {S : List aW} {M : Nat} {t : Ty} {i n r : Nat} (h : xY S M t i n) (hi : i < (walk S t).args.length) (hn : n ≤ M) (hr : Dw S (M - n) (walk S t).args[i] r) : xY S M t (i + 1) (n + r) := by
 obtain ⟨h1, h2, h3, h4⟩ := h
 obtain ⟨r1, r2, r3⟩ := hr
 obtain ⟨ys, xZ, e⟩ := h3 hn
 refine ⟨oM, oM, fun hle => ?_, fun hlt y hy => ?_⟩
 ·obtain ⟨b, hb, eb⟩ := r2 oM
  refine ⟨ys ++ [b], ?_, ?_⟩
  ·rw [List.take_add_one, List.getElem?_eq_getElem hi]
   exact YO xZ hb
  ·rw [vr, e, eb.symm]; simp [bM]; omega
 ·rw [pA] at hy
  have hl := (mj.1 hy.2).1
  have ha := (mj.1 hy.2).2 i hi oM
  have e2 := YP xZ (YN hy.2 i)
  have hk := YQ (l := y.args) (j := i) oM
  have oF := jA y
  rw [← e2] at hk
  by_cases hb : aE (y.args[i]'oM) ≤ M - n
  ·have := r3 _ ha hb; omega
  ·omega
theorem OZ {S : List aW} {M : Nat} {t : Ty} {i n : Nat} (h : xY S M t i n) (he : i = (walk S t).args.length ∨ M < n) : Dw S M t n := by
 obtain ⟨h1, h2, h3, h4⟩ := h
 by_cases hn : n ≤ M
 ·obtain ⟨ys, xZ, e⟩ := h3 hn
  have hi : i = (walk S t).args.length := he.resolve_right (Nat.not_lt.2 hn)
  rw [hi, List.take_length] at xZ
  have hr : gr S t (.mk (walk S t).kind (walk S t).name (walk S t).id (walk S t).home ys) := by rw [gr]; exact ⟨⟨rfl, rfl, rfl, rfl⟩, xZ⟩
  have en : aE (.mk (walk S t).kind (walk S t).name (walk S t).id (walk S t).home ys) = n := by rw [e]; simp [aE]
  exact ⟨h2, fun _ => ⟨_, hr, en⟩, fun y hy _ => by rw [Hp _ _ _ hy hr, en]⟩
 ·exact ⟨h2, fun h => absurd h hn, fun y hy hm => by have := h4 oM y hy; omega⟩
end Go.Th
namespace Go.Proofs.YtlnjfkfojkgiiaaGreatDoor
theorem O0 (g : ab) (S : List aW) (hN : S.length ≤ 100000) (m : Nat) (v : Value) (hv : eJ g v S m) : ∀ (N M : Nat) (q : Int) (u : Value) (t : Ty), M < N → M ≤ 4000 → q = M → aQ g u t → bK prog 227 [v, u, .int .i64 q] g fun w g' => g' = g ∧ ∃ r : Nat, w = .int .i64 r ∧ Dw S M t r
 | 0, _, _, _, _, h, _, _, _ => by omega
 | N + 1, M, q, u, t, h, hM, hq, hu => by
  have ih := O0 g S hN m v hv N
  subst hq
  obtain ⟨a, c, a', c', xs, ys, rfl, _⟩ := id hv
  obtain ⟨ya, ym, yc, rfl, h5⟩ := hu.bA
  refine aw func227 rfl ntmps227 rfl fun E hE => ?_
  refine aS ?_
  refine aP rfl rfl rfl (fun b3 => ?_)
  skip
  refine aP rfl rfl rfl (fun b4 => ?_)
  refine wz.G.O.c.b.a.z ?_
  refine aB rfl rfl (jm g S oM m _ _ t hv ⟨_, rfl, h5⟩) ?_
  rintro w g1 ⟨rfl, hw⟩ _
  obtain ⟨sl, rfl, ir⟩ := hw
  obtain ⟨wa, wc, rfl⟩ := ir.slice
  obtain ⟨zs, hz, qp⟩ := ir.args
  have hle := hz.le
  refine wz.p.b.a.c.e.b.a.c.b.q.z ?_
  refine aX (ι := Nat × Nat) (fun o => [(2, .int .i64 M), (3, ptr b3 0), (4, ptr b4 0), (7, .int .i64 o.2), (8, .int .i64 o.1)]) (fun _ => g1) (fun o => [.ae b4 41 (aH (walk S t) (.slice wa (walk S t).args.length wc)), .ae b3 215 [.slice a S.length c, .slice a' m c']])
   (fun o => o.1 ≤ (walk S t).args.length ∧ xY S M t o.1 o.2) (fun o => (walk S t).args.length - o.1) (0, 1) ⟨Nat.zero_le _, YR⟩ ⟨rfl, rfl, rfl, rfl, rfl, trivial⟩ rfl rfl ?_
  rintro ⟨i, n⟩ ⟨hi, hI⟩
  simp only at hi hI
  have O1 := hI.1
  have Hv := hI.2.1
  try dsimp only
  refine wz.a.a.A.v.g.a.c.e.z ?_
  refine bw rfl rfl (fun h1 => ?_) (fun h1 => ?_)
  ·have dR : i < (walk S t).args.length := by omega
   refine wz.b.a.u.u.u.z ?_
   refine an rfl (fun h2 => ?_) (fun h2 => ?_)
   ·have hn : n ≤ M := by omega
    obtain ⟨b, off, cap, aq, hx⟩ := hz.held dR
    cases aq
    obtain ⟨cS, h6, hr⟩ := eZ qp hx dR
    refine wz.p.e.d.j.z ?_
    refine fQ 12 [] mixed kR (fun hG => ?_)
    refine wz.Ar.z ?_; refine ⟨_, (ag rfl), ?_⟩; refine wz.Ax.z ?_; refine ⟨_, (bP 1 rfl rfl rL), ?_⟩; refine wz.Ay.z ?_; refine ⟨_, (aI rfl), ?_⟩; refine wz.AS.z ?_; refine ⟨_, (a7 0 rfl rfl rfl), ?_⟩; refine wz.AT.z ?_; refine ⟨_, (ag rfl), ?_⟩
    refine di 5 rfl kR rfl hG ⟨_, (bU (j := i) rfl rfl rfl dR), ?_⟩
    refine wz.Bo.Ce.z ?_; refine ⟨_, (ag rfl), ?_⟩; refine wz.Cq.z ?_; refine ⟨_, (ag rfl), ?_⟩; refine wz.BI.z ?_; refine ⟨_, (mA rfl rfl oM), ?_⟩
    refine wz.BE.z ?_
    refine aB rfl rfl (ih (M - n) _ _ _ oM oM oM ⟨cS, rfl, h6⟩) ?_
    rintro w2 g2 ⟨rfl, r, rfl, eM⟩ _
    have gD := eM.1
    have bG := YS hI dR hn eM
    refine wz.Cb.f.b.z ?_; refine ⟨_, (val_add rfl rfl oM), ?_⟩
    refine wz.b.a.E.a.r.d.y.N.a.Am.z ?_
    exact aM (i + 1, n + r) ⟨oM, bG⟩ uM ⟨rfl, rfl, rfl, qF rfl sM, rfl, trivial⟩ rfl rfl
   ·have hn : M < n := by omega
    have hE := OZ hI (.inr hn)
    refine wz.i.b.a.BL.E.a.a.c.d.D.m.m.C.z ?_
    exact ao [] rfl rfl sZ ⟨⟨rfl, n, vi oM, hE⟩, rfl⟩
  ·have dR : i = (walk S t).args.length := by omega
   have hE := OZ hI (.inl dR)
   refine wz.i.b.a.BL.E.a.a.c.d.D.m.m.C.o.b.a.h.h.h.z ?_
   exact ao [] rfl rfl sZ ⟨⟨rfl, n, vi oM, hE⟩, rfl⟩
theorem Dx (g : ab) (S : List aW) (hN : S.length ≤ 100000) (m : Nat) (v u : Value) (t : Ty) (M : Nat) (hM : M ≤ 4000) (hv : eJ g v S m) (hu : aQ g u t) : bK prog 215 [v, u, .int .i64 M] g fun w g' => g' = g ∧ ∃ r : Nat, w = .int .i64 r ∧ Dw S M t r := by
 obtain ⟨a, c, a', c', xs, ys, rfl, _⟩ := id hv
 obtain ⟨ya, ym, yc, rfl, h5⟩ := hu.bA
 refine aw func215 rfl ntmps215 rfl fun E hE => ?_
 refine aS ?_
 refine aP rfl rfl rfl (fun b3 => ?_)
 skip
 refine aP rfl rfl rfl (fun b4 => ?_)
 refine wz.BY.a.G.O.c.b.a.z ?_
 refine aB rfl rfl (O0 g S hN m _ hv (M + 1) M _ _ t oM hM oM ⟨_, rfl, h5⟩) ?_
 rintro w g1 ⟨rfl, r, rfl, hr⟩ _
 refine wz.i.b.a.z ?_
 exact ao [] rfl rfl sZ ⟨⟨rfl, r, rfl, hr⟩, rfl⟩
end Go.Proofs.YtlnjfkfojkgiiaaGreatDoor

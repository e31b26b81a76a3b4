/- The leaves of types: the walks of typedholesref3.leaves, Vars and Rigids. -/
import Derived.Test.YtlnjfkfojkgiiaaGreatDoorK21
open Go Go.aZ Go.Th Go.Proofs Tryz
set_option maxRecDepth 10000
set_option maxHeartbeats 4000000
attribute [local irreducible] wpList Code.wp ah bodyPost Go.aZ.Ends Exit.then Exit.inBlock dJ Wq Kq
namespace Go.Th
mutual
def ki (k : Int) (acc : List Ty) : Ty → List Ty
 | .mk k' n i h a => if k' = k ∧ a.length = 0 then (if acc.any (fun u => kY u (.mk k' n i h a)) then acc else acc ++ [.mk k' n i h a]) else dU k acc a
def dU (k : Int) (acc : List Ty) : List Ty → List Ty
 | [] => acc
 | a :: r => dU k (ki k acc a) r
end
theorem xH (k : Int) (acc : List Ty) (t : Ty) : ki k acc t = if t.kind = k ∧ t.args.length = 0 then (if acc.any (fun u => kY u t) then acc else acc ++ [t]) else dU k acc t.args := by
 cases t; rw [ki]; rfl
mutual
theorem XX (k : Int) : ∀ (t : Ty) (acc : List Ty), acc.length ≤ (ki k acc t).length ∧ (ki k acc t).length ≤ acc.length + aE t
 | .mk k' n i h a, acc => by
  have := ri k a acc
  simp only [ki, aE]
  split
  ·split
   ·omega
   ·simp
  ·omega
theorem ri (k : Int) : ∀ (l : List Ty) (acc : List Ty), acc.length ≤ (dU k acc l).length ∧ (dU k acc l).length ≤ acc.length + bM l
 | [], acc => by simp [dU, bM]
 | a :: r, acc => by
  have h1 := XX k a acc
  have h2 := ri k r (ki k acc a)
  simp only [dU, bM]
  omega
end
theorem N0 (k : Int) : ∀ (x : List Ty) (acc y : List Ty), dU k acc (x ++ y) = dU k (dU k acc x) y
 | [], _, _ => rfl
 | a :: x, acc, y => by simp only [List.cons_append, dU, N0 k x]
theorem GL {k : Int} {acc l : List Ty} {i : Nat} (h : i < l.length) : dU k acc (l.take (i + 1)) = ki k (dU k acc (l.take i)) l[i] := by
 rw [List.take_succ_eq_append_getElem h, N0]; rfl
def jj (out : List Int) : List Ty → List Int
 | [] => out
 | t :: r => jj (if t.id ∈ out then out else out ++ [t.id]) r
def nE (l : List Ty) : List Int := jj [] (dU 1 [] l)
theorem N1 : ∀ (x : List Ty) (out : List Int) (y : List Ty), jj out (x ++ y) = jj (jj out x) y
 | [], _, _ => rfl
 | a :: x, out, y => by simp only [List.cons_append, jj, N1 x]
theorem XY {out : List Int} {l : List Ty} {i : Nat} (h : i < l.length) : jj out (l.take (i + 1)) = if l[i].id ∈ jj out (l.take i) then jj out (l.take i) else jj out (l.take i) ++ [l[i].id] := by
 rw [List.take_succ_eq_append_getElem h, N1]; rfl
theorem GM : ∀ (l : List Ty) (out : List Int), (jj out l).length ≤ out.length + l.length
 | [], out => by simp [jj]
 | a :: r, out => by
  have := GM r (if a.id ∈ out then out else out ++ [a.id])
  simp only [jj, List.length_cons]
  split at this <;> simp_all <;> omega
end Go.Th
namespace Go.Proofs.YtlnjfkfojkgiiaaGreatDoor
def N2 (g : ab) (k : Int) (acc : List Ty) (t : Ty) (v : Value) (g' : ab) (own' : List aA) : Prop := g' = g ∧ ∃ xs, own' = [.row 41 5 v (ki k acc t).length xs] ∧ aV g (ki k acc t) xs
theorem XZ {p : Ty → Bool} {l : List Ty} {i : Nat} (h : i < l.length) (hq : (l.take i).any p = false) (hp : p l[i] = false) : (l.take (i + 1)).any p = false := by
 rw [List.take_succ_eq_append_getElem h, List.any_append, hq, List.any_cons, hp]; rfl
theorem X0 {p : Ty → Bool} {l : List Ty} {i : Nat} (h : i < l.length) (hp : p l[i] = true) : l.any p = true := List.any_eq_true.2 ⟨_, List.getElem_mem h, hp⟩
theorem N3 (k : Int) : ∀ (N : Nat) (g : ab) (acc : List Ty) (t : Ty) (v u : Value) (xs : List Value), aE t < N → acc.length + aE t ≤ 10000000 → aQ g u t → aV g acc xs →
  aZ.Spec prog 186 [v, u, .int .i64 k] g [.row 41 5 v acc.length xs] (N2 g k acc t)
 | 0, _, _, _, _, _, _, h, _, _, _ => by omega
 | N + 1, g, acc, t, v, u, xs, h, hn, hu, C2 => by
  have ih := N3 k N
  have lD := jA t
  have nt := pt t.args
  have hL := xH k acc t
  obtain ⟨sl, rfl, h1⟩ := id hu
  obtain ⟨ys, aJ, eE⟩ := h1.args
  obtain ⟨ua, uc, rfl⟩ := aU aJ
  refine aw func186 rfl ntmps186 rfl fun E hE => ?_
  refine aS ?_
  refine aP rfl rfl rfl (fun b4 => ?_)
  refine wz.AC.z ?_
  rintro ⟨va, vc, rfl⟩
  refine wz.b.a.z ?_
  refine cD (ι := Unit) (fun _ => [(0, .slice va acc.length vc), (2, .int .i64 k), (4, ptr b4 0)]) (fun _ => g) (fun _ => [.ae b4 41 (aH t (.slice ua t.args.length uc)), .row 41 5 (.slice va acc.length vc) acc.length xs]) (fun _ => ¬ (t.kind = k ∧ t.args.length = 0)) ?_ ?_
  ·rintro _ hk
   rw [if_neg hk] at hL
   try dsimp only
   refine wz.p.b.a.c.e.z ?_
   refine aX (ι := Nat × Option Addr × Nat × List Value) (fun o => [(0, .slice o.2.1 (dU k acc (t.args.take o.1)).length o.2.2.1), (2, .int .i64 k), (4, ptr b4 0), (8, .int .i64 o.1)]) (fun _ => g) (fun o => [.ae b4 41 (aH t (.slice ua t.args.length uc)), .row 41 5 (.slice o.2.1 (dU k acc (t.args.take o.1)).length o.2.2.1) (dU k acc (t.args.take o.1)).length o.2.2.2]) (fun o => o.1 ≤ t.args.length ∧ aV g (dU k acc (t.args.take o.1)) o.2.2.2) (fun o => t.args.length - o.1) (0, va, vc, xs) ⟨oM, C2⟩ ⟨rfl, rfl, rfl, rfl, trivial⟩ rfl rfl ?_
   rintro ⟨j, za, zc, zs⟩ ⟨hj, hz⟩
   simp only at hj hz
   try dsimp only
   refine wz.b.a.A.v.g.a.c.e.z ?_
   refine an rfl (fun hlt => ?_) (fun hlt => ?_)
   ·have af : j < t.args.length := by omega
    have fz := GL (k := k) (acc := acc) af
    have kj := (ri k (t.args.take j) acc).2
    have GN : bM (t.args.take j) + aE t.args[j] ≤ bM t.args := by
     have e := vr (t.args.take j) (t.args.drop j)
     rw [List.take_append_drop, List.drop_eq_getElem_cons af, bM] at e
     omega
    have tB := mN (List.getElem_mem af)
    obtain ⟨b, off, cap, aq, dB⟩ := aJ.held af
    cases aq
    obtain ⟨cS, h2, hr⟩ := eZ eE dB af
    refine wz.a.An.M.a.v.g.a.r.p.e.d.j.z ?_
    refine jN (lent := [_]) (kept := [_]) rfl rfl (List.Perm.swap _ _ _) (ih g _ _ _ _ zs oM oM ⟨cS, rfl, h2⟩ hz) ?_
    rintro w g1 own' ⟨rfl, xI, rfl, iS⟩ _
    refine wz.BF.z ?_
    rintro ⟨wa, wc, rfl⟩
    refine ko (own' := [_, _]) (List.Perm.swap _ _ _) ?_; refine wz.b.a.E.a.r.d.y.N.a.z ?_
    rw [← fz] at iS ⊢
    exact aM (j + 1, wa, wc, xI) ⟨oM, iS⟩ uM ⟨rfl, rfl, rfl, rfl, trivial⟩ rfl rfl
   ·obtain rfl : j = t.args.length := by omega
    rw [List.take_length] at hz ⊢
    refine wz.i.b.a.a.c.d.D.m.m.C.z ?_
    exact ao [_] rfl rfl sA ⟨rfl, zs, by rw [hL], by rw [hL]; exact hz⟩
  ·intro K hK
   refine wz.a.a.a.v.g.c.z ?_
   refine bw rfl rfl (fun hk => ?_) (fun hk => ?_)
   ·refine wz.b.a.u.A.k.v.k.g.k.z ?_
    refine an rfl (fun h0 => ?_) (fun h0 => ?_)
    ·rw [if_pos ⟨hk, oM⟩] at hL
     refine wz.p.b.a.c.e.z ?_
     refine aX (ι := Nat) (fun j => [(0, .slice va acc.length vc), (4, ptr b4 0), (7, .int .i64 j)]) (fun _ => g) (fun _ => [.ae b4 41 (aH t (.slice ua t.args.length uc)), .row 41 5 (.slice va acc.length vc) acc.length xs]) (fun j => j ≤ acc.length ∧ (acc.take j).any (fun u => kY u t) = false) (fun j => acc.length - j) 0 ⟨oM, rfl⟩ ⟨rfl, rfl, rfl, trivial⟩ rfl rfl ?_
     rintro j ⟨hj, hq⟩
     refine wz.b.a.A.a.a.c.e.z ?_
     refine an rfl (fun hlt => ?_) (fun hlt => ?_)
     ·have af : j < acc.length := by omega
      refine N4 1 rfl oM ?_
      rintro ⟨b, cap, aq⟩
      cases aq
      obtain ⟨c, eV, lF⟩ := C2.get j af
      obtain ⟨cS, rfl⟩ := eV.cells
      refine wz.Aj.s.s.Ab.e.p.e.d.j.z ?_
      refine bR rfl (dL rfl (A_ (vs := aH acc[j] cS) 1 rfl (off := 0 + j * 5) (fun i x hx => by rw [Nat.zero_add]; exact lF i x hx)) rfl) ?_
      refine wz.BT.z ?_
      refine iy rfl rfl (GD g acc[j] t _ _ ⟨cS, rfl, eV⟩ ⟨_, rfl, h1⟩) ?_
      refine wz.d.T.z ?_
      cases he : kY acc[j] t with
      | true =>
       rw [X0 af he] at hL
       refine wz.l.l.x.l.l.x.i.b.a.a.c.t.z ?_
       exact ao [_] rfl rfl sA ⟨rfl, xs, by rw [hL]; rfl, by rw [hL]; exact C2⟩
      | false =>
       refine wz.b.a.E.a.r.d.y.j.o.z ?_
       exact aM (j + 1) ⟨oM, XZ af hq he⟩ oM ⟨rfl, rfl, rfl, trivial⟩ rfl rfl
     ·obtain rfl : j = acc.length := by omega
      rw [List.take_length] at hq
      rw [hq] at hL
      refine wz.G.a.c.d.D.m.m.C.z ?_
      refine bu rfl rfl rL rL rL rL rL (fun y0 => ?_)
      refine cV 2 0 rfl rfl rfl rfl rfl rL rL rfl mL oM (fun v' _ => ?_)
      refine wz.BU.z ?_
      rintro ⟨q1, q3, rfl⟩
      refine wz.l.i.b.a.z ?_
      exact ao [_] rfl rfl sB ⟨rfl, _, by rw [hL, if_neg dC, List.length_append]; rfl, by rw [hL, if_neg dC]; exact aV.snoc h1 C2⟩
    ·refine wz.d.j.z ?_
     exact hK () _ (fun h => h0 oM) ⟨rfl, rfl, rfl, trivial⟩
   ·refine wz.d.j.o.b.a.h.h.h.h.z ?_
    exact hK () _ (fun h => hk h.1) ⟨rfl, rfl, rfl, trivial⟩
theorem N5 (g : ab) (k : Int) (acc : List Ty) (t : Ty) (v u : Value) (xs : List Value) (hn : acc.length + aE t ≤ 10000000) (hu : aQ g u t) (hx : aV g acc xs) :
  aZ.Spec prog 186 [v, u, .int .i64 k] g [.row 41 5 v acc.length xs] (N2 g k acc t) := N3 k _ g acc t v u xs (Nat.lt_succ_self _) hn hu hx
theorem GO (a b : List Int) : ints (a ++ b) = ints a ++ ints b := by simp [ints]
theorem GP {l : List Ty} {j : Nat} (h : j < l.length) : bM (l.take j) + aE l[j] ≤ bM l := by
 have e := vr (l.take j) (l.drop j)
 rw [List.take_append_drop, List.drop_eq_getElem_cons h, bM] at e
 omega
theorem N6 (g : ab) (l : List Ty) (v : Value) (xs : List Value) (hn : bM l ≤ 1000000) (hs : au g 5 v l.length xs) (ht : aV g l xs) :
  bK prog 149 [v] g fun w g' => ∃ zs, au g' 5 w (dU 3 [] l).length zs ∧ aV g' (dU 3 [] l) zs := by
 obtain ⟨ua, uc, rfl⟩ := aU hs
 have X1 := pt l
 refine aw func149 rfl ntmps149 rfl fun E hE => ?_
 refine wz.AD.p.b.a.c.e.b.a.c.b.a.c.z ?_
 skip
 refine aX (ι := Nat × Option Addr × Nat × List Value) (fun o => [(0, .slice ua l.length uc), (3, .slice o.2.1 (dU 3 [] (l.take o.1)).length o.2.2.1), (4, .int .i64 o.1)]) (fun _ => g) (fun o => [.row 41 5 (.slice o.2.1 (dU 3 [] (l.take o.1)).length o.2.2.1) (dU 3 [] (l.take o.1)).length o.2.2.2]) (fun o => o.1 ≤ l.length ∧ aV g (dU 3 [] (l.take o.1)) o.2.2.2) (fun o => l.length - o.1) (0, none, 0, []) ⟨oM, cQ g⟩ ⟨rfl, rfl, rfl, trivial⟩ rfl rfl ?_
 rintro ⟨j, za, zc, zs⟩ ⟨hj, hz⟩
 simp only at hj hz
 try dsimp only
 refine wz.b.a.A.a.a.c.e.z ?_
 refine an rfl (fun hlt => ?_) (fun hlt => ?_)
 ·have af : j < l.length := by omega
  have fz := GL (k := 3) (acc := []) af
  have kj := (ri 3 (l.take j) []).2
  have GN := GP af
  obtain ⟨b, off, cap, aq, dB⟩ := hs.held af
  cases aq
  obtain ⟨cS, h2, hr⟩ := eZ ht dB af
  refine wz.An.M.a.a.a.r.p.e.d.j.z ?_
  skip
  refine jN (lent := [_]) (kept := []) rfl rfl (List.Perm.refl _) (N5 g 3 _ _ _ _ zs (by simp only [List.length_nil] at kj; omega) ⟨cS, rfl, h2⟩ hz) ?_
  rintro w g1 own' ⟨rfl, xI, rfl, iS⟩ _
  refine wz.BF.z ?_
  rintro ⟨wa, wc, rfl⟩
  refine wz.b.a.E.a.r.d.y.N.a.z ?_
  rw [← fz] at iS ⊢
  exact aM (j + 1, wa, wc, xI) ⟨oM, iS⟩ uM ⟨rfl, rfl, rfl, trivial⟩ rfl rfl
 ·obtain rfl : j = l.length := by omega
  rw [List.take_length] at hz ⊢
  refine bg (fun g1 a8 aJ => ?_)
  refine wz.i.b.a.a.c.d.D.m.m.C.z ?_
  exact ao [] rfl rfl sZ ⟨⟨zs, aJ, hz.mono a8⟩, rfl⟩
theorem C3 (g : ab) (l : List Ty) (v : Value) (xs : List Value) (hn : bM l ≤ 1000000) (hs : au g 5 v l.length xs) (ht : aV g l xs) :
  bK prog 158 [v] g fun w g' => au g' 1 w (nE l).length (ints (nE l)) := by
 obtain ⟨ua, uc, rfl⟩ := aU hs
 have X1 := pt l
 refine aw func158 rfl ntmps158 rfl fun E hE => ?_
 refine wz.AD.p.b.a.c.e.b.a.c.b.a.c.z ?_
 skip
 refine aX (ι := Nat × Option Addr × Nat × List Value) (fun o => [(0, .slice ua l.length uc), (3, .slice o.2.1 (dU 1 [] (l.take o.1)).length o.2.2.1), (4, .int .i64 o.1)]) (fun _ => g) (fun o => [.row 41 5 (.slice o.2.1 (dU 1 [] (l.take o.1)).length o.2.2.1) (dU 1 [] (l.take o.1)).length o.2.2.2]) (fun o => o.1 ≤ l.length ∧ aV g (dU 1 [] (l.take o.1)) o.2.2.2) (fun o => l.length - o.1) (0, none, 0, []) ⟨oM, cQ g⟩ ⟨rfl, rfl, rfl, trivial⟩ rfl rfl ?_
 rintro ⟨j, za, zc, zs⟩ ⟨hj, hz⟩
 simp only at hj hz
 try dsimp only
 refine wz.b.a.A.a.a.c.e.z ?_
 refine an rfl (fun hlt => ?_) (fun hlt => ?_)
 ·have af : j < l.length := by omega
  have fz := GL (k := 1) (acc := []) af
  have kj := (ri 1 (l.take j) []).2
  have GN := GP af
  obtain ⟨b, off, cap, aq, dB⟩ := hs.held af
  cases aq
  obtain ⟨cS, h2, hr⟩ := eZ ht dB af
  refine wz.An.M.a.a.a.r.p.e.d.j.z ?_
  skip
  refine jN (lent := [_]) (kept := []) rfl rfl (List.Perm.refl _) (N5 g 1 _ _ _ _ zs (by simp only [List.length_nil] at kj; omega) ⟨cS, rfl, h2⟩ hz) ?_
  rintro w g1 own' ⟨rfl, xI, rfl, iS⟩ _
  refine wz.BF.z ?_
  rintro ⟨wa, wc, rfl⟩
  refine wz.b.a.E.a.r.d.y.N.a.z ?_
  rw [← fz] at iS ⊢
  exact aM (j + 1, wa, wc, xI) ⟨oM, iS⟩ uM ⟨rfl, rfl, rfl, trivial⟩ rfl rfl
 ·obtain rfl : j = l.length := by omega
  rw [List.take_length] at hz ⊢
  have kj := (ri 1 l []).2
  rw [List.length_nil, Nat.zero_add] at kj
  have N7 : nE l = jj [] (dU 1 [] l) := rfl
  generalize dU 1 [] l = fs at hz kj N7
  refine bg (fun g1 a8 aJ => ?_)
  have kX := hz.mono a8
  refine wz.p.b.a.c.e.b.a.c.d.D.m.m.C.z ?_; refine fW 3 1 ?_
  skip
  refine aX (ι := Nat × Value × List aA) (fun o => [(3, .slice za fs.length zc), (5, o.2.1), (6, .int .i64 o.1)]) (fun _ => g1) (fun o => o.2.2) (fun o => o.1 ≤ fs.length ∧ ∃ (pa : Option Addr) (pc : Nat), o.2.1 = .slice pa (jj [] (fs.take o.1)).length pc ∧ o.2.2 = [.row 3 1 (.slice pa (jj [] (fs.take o.1)).length pc) (jj [] (fs.take o.1)).length (ints (jj [] (fs.take o.1)))]) (fun o => fs.length - o.1) (0, _, _) ⟨Nat.zero_le _, none, 0, rfl, rfl⟩ ⟨rfl, rfl, rfl, trivial⟩ rfl rfl ?_
  rintro ⟨i, sv, own⟩ ⟨hi, pa, pc, eu, ho⟩
  simp only at hi eu ho
  subst eu
  subst ho
  try dsimp only
  refine wz.b.a.A.a.a.c.e.z ?_
  refine an rfl (fun dk => ?_) (fun dk => ?_)
  ·have af : i < fs.length := by omega
   have fz := XY (out := []) af
   have r_ := GM (fs.take i) []
   rw [List.length_take] at r_
   generalize hD : jj [] (fs.take i) = D at fz r_
   have hDl : D.length ≤ 2000000 := by simp only [List.length_nil] at r_; omega
   obtain ⟨b, off, cap, aq, dB⟩ := aJ.held af
   cases aq
   obtain ⟨cS, h2, hr⟩ := eZ kX dB af
   refine wz.g.M.a.a.a.c.p.e.d.j.z ?_
   refine cj rfl rfl ((hr _).du 2 rfl) ?_
   skip
   refine jN (lent := [_]) (kept := []) rfl rfl (List.Perm.refl _) (GQ fun g' _ oA => B8 g' _ D oA fs[i].id) ?_
   rintro w g2 own' ⟨rfl, rfl, rfl⟩ _
   refine wz.b.a.z ?_
   by_cases hm : fs[i].id ∈ D
   ·rw [if_pos hm] at fz
    rw [decide_eq_true hm]
    refine wz.b.a.E.a.r.d.y.j.o.z ?_
    exact aM (i + 1, _, _) ⟨oM, pa, pc, by first | (rw [fz]; done) | (rw [fz]; rfl), by first | (rw [fz]; done) | (rw [fz]; rfl)⟩ uM ⟨rfl, rfl, rfl, trivial⟩ rfl rfl
   ·rw [if_neg hm] at fz
    rw [decide_eq_false hm]
    refine wz.g.M.a.a.a.r.t.z ?_
    refine cj rfl rfl ((hr _).du 2 rfl) ?_
    refine bu rfl rfl rL rL rL rL rL (fun y0 => ?_)
    refine cV 1 0 rfl rfl rfl rfl rfl rL rL rfl mL oM (fun v' _ => ?_)
    refine wz.AC.z ?_
    rintro ⟨q1, q3, rfl⟩
    refine wz.Bk.b.a.E.a.r.d.y.N.a.z ?_
    exact aM (i + 1, _, _) ⟨oM, q1, q3, by rw [fz, List.length_append]; rfl, by rw [fz, List.length_append, GO]; rfl⟩ uM ⟨rfl, rfl, rfl, trivial⟩ rfl rfl
  ·obtain rfl : i = fs.length := by omega
   rw [List.take_length, ← N7]
   refine bg (fun g2 aD bj => ?_)
   refine wz.i.b.a.a.c.d.D.m.m.C.z ?_
   exact ao [] rfl rfl sZ ⟨bj, rfl⟩
end Go.Proofs.YtlnjfkfojkgiiaaGreatDoor
namespace Go.Th
def qm (n : Bytes) : Bool := decide (kindOf n = 2) && decide (n.length ≤ 1000)
def jk (v b : Nat) (nm : Bool) (t : Ty) : Bool :=
 (decide (t.kind = 1) && (decide (0 ≤ t.id ∧ t.id < v) && (decide (t.name = []) && (decide (t.home = 0) && t.args.isEmpty)))) ||
 ((decide (t.kind = 2) && (decide (0 ≤ t.id ∧ t.id < b) && (decide (t.name = []) && (decide (t.home = 0) && t.args.isEmpty)))) ||
 ((decide (t.kind = 3) && (decide (0 ≤ t.id ∧ t.id ≤ 1000000) && (decide (t.name = []) && t.args.isEmpty))) ||
 ((decide (t.kind = 4) && (decide (t.id = 0) && (decide (t.home = 0) && (qm t.name || (decide (t.name = eg) && decide (t.args.length = 2)))))) ||
 (nm && (decide (t.kind = 5) && (decide (t.id = 0) && (decide (t.home = 0) && (decide (kindOf t.name = 1) && t.args.isEmpty))))))))
def OK (v b : Nat) (nm : Bool) (t : Ty) : Prop := fE (jk v b nm) t = true
def kG (v b : Nat) (nm : Bool) (l : List Ty) : Prop := ∀ t ∈ l, OK v b nm t
theorem mh {p : Ty → Bool} {t : Ty} (h1 : p t = true) (h2 : ∀ a ∈ t.args, fE p a = true) : fE p t = true := by
 cases t with
 | mk k n i h a =>
  rw [fE, h1, Bool.true_and]
  have : ∀ l : List Ty, (∀ x ∈ l, fE p x = true) → tz p l = true := by
   intro l
   induction l with
   | nil => intro _; rfl
   | cons x r ih =>
    intro hx
    rw [tz, hx x (List.mem_cons_self ..), ih (fun y hy => hx y (List.mem_cons_of_mem _ hy))]; rfl
  exact this a h2
theorem lU {p : Ty → Bool} {t : Ty} (h : fE p t = true) : p t = true := (C1 h).1
theorem oB {p : Ty → Bool} {t : Ty} (h : fE p t = true) : ∀ a ∈ t.args, fE p a = true := GH (C1 h).2
theorem kH {P : Ty → Prop} (h : ∀ t, (∀ a ∈ t.args, P a) → P t) : ∀ t, P t := by
 have : ∀ (N : Nat) (t : Ty), aE t < N → P t := by
  intro N
  induction N with
  | zero => intro t h; omega
  | succ N ih =>
   intro t ht
   refine h t fun a ha => ih a ?_
   have := mN ha
   have := jA t
   omega
 exact fun t => this _ t (Nat.lt_succ_self _)
theorem N8 {p q : Ty → Bool} {f : Ty → Option Ty} (h1 : ∀ t u, p t = true → f t = some u → fE q u = true)
  (h2 : ∀ t a, p t = true → f t = none → a.length = t.args.length → q (.mk t.kind t.name t.id t.home a) = true) : ∀ t, fE p t = true → fE q (c7 f t) = true := by
 refine kH fun t ih ht => ?_
 have hn := lU ht
 cases hf : f t with
 | some u => rw [mO hf]; exact h1 t u hn hf
 | none =>
  rw [ow hf]
  refine mh (h2 t _ hn hf (List.length_map _)) fun a ha => ?_
  obtain ⟨b, hb, rfl⟩ := List.mem_map.1 ha
  exact ih b hb (oB ht b hb)
theorem X2 {p q : Ty → Bool} (h : ∀ t, p t = true → q t = true) : ∀ t, fE p t = true → fE q t = true := by
 refine kH fun t ih ht => ?_
 exact mh (h t (lU ht)) fun a ha => ih a ha (oB ht a ha)
theorem N9 {f : Ty → Option Ty} {B : Nat} (hB : 1 ≤ B) (h : ∀ t u, f t = some u → aE u ≤ B) : ∀ t, aE (c7 f t) ≤ B * aE t := by
 have hl : ∀ l : List Ty, (∀ a ∈ l, aE (c7 f a) ≤ B * aE a) → bM (l.map (c7 f)) ≤ B * bM l := by
  intro l
  induction l with
  | nil => intro _; simp [bM]
  | cons x r ih =>
   intro hx
   have h1 := hx x (List.mem_cons_self ..)
   have h2 := ih (fun y hy => hx y (List.mem_cons_of_mem _ hy))
   simp only [List.map_cons, bM, Nat.mul_add]
   omega
 refine kH fun t ih => ?_
 have hp := jA t
 cases hf : f t with
 | some u =>
  rw [mO hf]
  have := h t u hf
  have : B * 1 ≤ B * aE t := Nat.mul_le_mul_left B oM
  omega
 | none =>
  rw [ow hf]
  have := hl t.args ih
  simp only [aE]
  rw [hp, Nat.mul_add]
  omega
theorem N_ {v b : Nat} {nm : Bool} {i : Nat} (h : i < v) : jk v b nm (.mk 1 [] i 0 []) = true := by
 simp [jk, Ty.kind, Ty.id, Ty.name, Ty.home, Ty.args, h]
theorem GR {v b : Nat} {nm : Bool} {i : Int} (h0 : 0 ≤ i) (h : i < b) : jk v b nm (.mk 2 [] i 0 []) = true := by
 simp [jk, Ty.kind, Ty.id, Ty.name, Ty.home, Ty.args, h, h0]
theorem xJ {v b : Nat} {nm : Bool} {h i : Int} (h0 : 0 ≤ i) (h1 : i ≤ 1000000) : jk v b nm (.mk 3 [] i h []) = true := by
 simp [jk, Ty.kind, Ty.id, Ty.name, Ty.home, Ty.args, h1, h0]
theorem xK {v b : Nat} {nm : Bool} {n : Bytes} (a : List Ty) (h : qm n = true) : jk v b nm (.mk 4 n 0 0 a) = true := by
 simp [jk, Ty.kind, Ty.id, Ty.name, Ty.home, h]
theorem C4 {v b : Nat} {nm : Bool} {x y : Ty} (hx : OK v b nm x) (hy : OK v b nm y) : OK v b nm (cZ x y) := by
 refine mh (by simp [jk, cZ, bJ, Ty.kind, Ty.id, Ty.name, Ty.home, Ty.args]) fun a ha => ?_
 simp only [cZ, bJ, Ty.args, List.mem_cons, List.not_mem_nil, or_false] at ha
 rcases ha with rfl | rfl
 ·exact hx
 ·exact hy
theorem C5 {v b : Nat} {nm : Bool} {n : Bytes} {l : List Ty} (h : qm n = true) (hl : kG v b nm l) : OK v b nm (bJ n l) := mh (xK l h) hl
theorem ok_int {v b : Nat} {nm : Bool} : OK v b nm fL := C5 dC (fun _ h => by cases h)
theorem vu {v b : Nat} {nm : Bool} {i : Nat} (h : i < v) : OK v b nm (.mk 1 [] i 0 []) := mh (N_ h) (fun _ h => by cases h)
theorem GS {v b : Nat} {nm : Bool} {h i : Int} (h0 : 0 ≤ i) (h1 : i ≤ 1000000) : OK v b nm (.mk 3 [] i h []) := mh (xJ h0 h1) (fun _ h => by cases h)
theorem GU {v b : Nat} {nm : Bool} {i : Int} (h0 : 0 ≤ i) (h : i < b) : OK v b nm (.mk 2 [] i 0 []) := mh (GR h0 h) (fun _ h => by cases h)
theorem iT {v b : Nat} {nm : Bool} {t : Ty} (h : jk v b nm t = true) : t.kind = 1 ∧ 0 ≤ t.id ∧ t.id < v ∧ t.args = [] ∧ t = .mk 1 [] t.id 0 [] ∨ t.kind = 2 ∧ 0 ≤ t.id ∧ t.id < b ∧ t.args = [] ∧ t = .mk 2 [] t.id 0 [] ∨
  t.kind = 3 ∧ 0 ≤ t.id ∧ t.id ≤ 1000000 ∧ t.args = [] ∧ t = .mk 3 [] t.id t.home [] ∨ t.kind = 4 ∧ t = bJ t.name t.args ∧ (qm t.name = true ∨ t.name = eg ∧ t.args.length = 2) ∨ nm = true ∧ t.kind = 5 ∧ kindOf t.name = 1 ∧ t = fY t.name := by
 obtain ⟨k, n, i, h', a⟩ := t
 simp only [jk, Bool.or_eq_true, Bool.and_eq_true, decide_eq_true_eq, List.isEmpty_iff] at h
 simp only [Ty.kind, Ty.id, Ty.name, Ty.home, Ty.args] at h
 rcases h with ⟨rfl, h1, rfl, rfl, rfl⟩ | ⟨rfl, h1, rfl, rfl, rfl⟩ | ⟨rfl, h1, rfl, rfl⟩ | ⟨rfl, rfl, rfl, h1⟩ | ⟨h0, rfl, rfl, rfl, h1, rfl⟩
 ·exact .inl ⟨rfl, h1.1, h1.2, rfl, rfl⟩
 ·exact .inr (.inl ⟨rfl, h1.1, h1.2, rfl, rfl⟩)
 ·exact .inr (.inr (.inl ⟨rfl, h1.1, h1.2, rfl, rfl⟩))
 ·exact .inr (.inr (.inr (.inl ⟨rfl, rfl, h1⟩)))
 ·exact .inr (.inr (.inr (.inr ⟨h0, rfl, h1, rfl⟩)))
theorem Oa {v b : Nat} {nm : Bool} {t : Ty} {a : List Ty} (h : jk v b nm t = true) (ha : a.length = t.args.length) : jk v b nm (.mk t.kind t.name t.id t.home a) = true := by
 obtain ⟨k, n, i, h', c⟩ := t
 simp only [jk, Bool.or_eq_true, Bool.and_eq_true, decide_eq_true_eq, List.isEmpty_iff] at h ⊢
 simp only [Ty.kind, Ty.id, Ty.name, Ty.home, Ty.args] at h ha ⊢
 have he : (a = []) ↔ (c = []) := by cases a <;> cases c <;> simp_all
 rw [ha, he]
 exact h
mutual
def jl (acc : List Bytes) : Ty → List Bytes
 | .mk k n _ _ a => iU (if k = 5 ∧ mP n acc < 0 then acc ++ [n] else acc) a
def iU (acc : List Bytes) : List Ty → List Bytes
 | [] => acc
 | a :: r => iU (jl acc a) r
end
def nF (acc : List Bytes) (t : Ty) : List Bytes := if t.kind = 5 ∧ mP t.name acc < 0 then acc ++ [t.name] else acc
theorem GV (acc : List Bytes) (t : Ty) : jl acc t = iU (nF acc t) t.args := by
 cases t; rw [jl]; rfl
theorem Ob : ∀ (x : List Ty) (acc : List Bytes) (y : List Ty), iU acc (x ++ y) = iU (iU acc x) y
 | [], _, _ => rfl
 | a :: x, acc, y => by simp only [List.cons_append, iU, Ob x]
theorem X3 {acc : List Bytes} {l : List Ty} {i : Nat} (h : i < l.length) : iU acc (l.take (i + 1)) = jl (iU acc (l.take i)) l[i] := by
 rw [List.take_succ_eq_append_getElem h, Ob]; rfl
theorem Oc (acc : List Bytes) (t : Ty) : (∀ x ∈ acc, x ∈ nF acc t) ∧ (nF acc t).length ≤ acc.length + 1 := by
 unfold nF
 split
 ·exact ⟨fun x h => List.mem_append_left _ h, sM⟩
 ·exact ⟨fun x h => h, oM⟩
theorem C6 : ∀ (t : Ty) (acc : List Bytes), (∀ x ∈ acc, x ∈ jl acc t) ∧ (jl acc t).length ≤ acc.length + aE t := by
 have hl : ∀ (l : List Ty), (∀ a ∈ l, ∀ acc, (∀ x ∈ acc, x ∈ jl acc a) ∧ (jl acc a).length ≤ acc.length + aE a) → ∀ acc, (∀ x ∈ acc, x ∈ iU acc l) ∧ (iU acc l).length ≤ acc.length + bM l := by
  intro l
  induction l with
  | nil => intro _ acc; exact ⟨fun x h => h, by simp [iU, bM]⟩
  | cons a r ih =>
   intro h acc
   have h1 := h a (List.mem_cons_self ..) acc
   have h2 := ih (fun y hy => h y (List.mem_cons_of_mem _ hy)) (jl acc a)
   simp only [iU, bM]
   exact ⟨fun x hx => h2.1 x (h1.1 x hx), oM⟩
 refine kH fun t ih => fun acc => ?_
 have h1 := Oc acc t
 have h2 := hl t.args ih (nF acc t)
 have := jA t
 rw [GV]
 exact ⟨fun x hx => h2.1 x (h1.1 x hx), oM⟩
theorem X4 {l : List Ty} {acc : List Bytes} {i : Nat} (h : i < l.length) : (iU acc (l.take i)).length ≤ acc.length + bM (l.take i) := by
 have hl : ∀ (l : List Ty) acc, (iU acc l).length ≤ acc.length + bM l := by
  intro l
  induction l with
  | nil => intro acc; simp [iU, bM]
  | cons a r ih =>
   intro acc
   have h1 := (C6 a acc).2
   have h2 := ih (jl acc a)
   simp only [iU, bM]
   omega
 exact hl _ _
theorem X5 {w : Bytes} {l : List Bytes} (h : w ∈ l) : 0 ≤ mP w l ∧ mP w l < l.length := by
 unfold mP
 cases e : l.findIdx? (fun x => decide (x = w)) with
 | some i =>
  have := (List.findIdx?_eq_some_iff_getElem.1 e).1
  simp only
  omega
 | none =>
  rw [List.findIdx?_eq_none_iff] at e
  have := e w h
  simp at this
theorem X6 : ∀ (t : Ty) (acc : List Bytes), fE (fun u => decide (u.kind = 5 → u.name ∈ jl acc t)) t = true := by
 have hl : ∀ (l : List Ty), (∀ a ∈ l, ∀ acc, fE (fun u => decide (u.kind = 5 → u.name ∈ jl acc a)) a = true) → ∀ acc, ∀ a ∈ l, fE (fun u => decide (u.kind = 5 → u.name ∈ iU acc l)) a = true := by
  intro l
  induction l with
  | nil => intro _ _ a ha; cases ha
  | cons b r ih =>
   intro h acc a ha
   have eA : ∀ x ∈ jl acc b, x ∈ iU (jl acc b) r := by
    have : ∀ (r : List Ty) acc, ∀ x ∈ acc, x ∈ iU acc r := by
     intro r
     induction r with
     | nil => intro acc x hx; exact hx
     | cons c r ih => intro acc x hx; exact ih _ x ((C6 c acc).1 x hx)
    exact this r _
   rcases List.mem_cons.1 ha with rfl | ha
   ·refine X2 (fun u hu => ?_) _ (h a (List.mem_cons_self ..) acc)
    simp only [decide_eq_true_eq] at hu ⊢
    exact fun hk => eA _ (hu hk)
   ·exact ih (fun y hy => h y (List.mem_cons_of_mem _ hy)) (jl acc b) a ha
 refine kH fun t ih => fun acc => ?_
 rw [GV]
 refine mh ?_ (hl t.args ih (nF acc t))
 simp only [decide_eq_true_eq]
 intro hk
 have hs : ∀ (r : List Ty) acc, ∀ x ∈ acc, x ∈ iU acc r := by
  intro r
  induction r with
  | nil => intro acc x hx; exact hx
  | cons c r ih => intro acc x hx; exact ih _ x ((C6 c acc).1 x hx)
 refine hs _ _ _ ?_
 unfold nF
 split
 ·simp
 ·rename_i qO
  have : ¬ mP t.name acc < 0 := fun h => qO ⟨hk, h⟩
  by_cases hm : t.name ∈ acc
  ·exact hm
  ·refine absurd ?_ this
   unfold mP
   have e : acc.findIdx? (fun x => decide (x = t.name)) = none := by
    rw [List.findIdx?_eq_none_iff]
    intro x hx
    simp only [decide_eq_false_iff_not]
    exact fun h => hm (h ▸ hx)
   rw [e]
   decide
end Go.Th
namespace Go.Proofs.YtlnjfkfojkgiiaaGreatDoor
def xL (acc : List Bytes) (v : Value) (own : List aA) : Prop := ∃ (a : Option Addr) (c : Nat), v = .slice a acc.length c ∧ own = [.row 9 1 (.slice a acc.length c) acc.length (acc.map str)]
theorem Od : ∀ (N : Nat) (g : ab) (acc : List Bytes) (t : Ty) (v u : Value) (own : List aA), aE t < N → acc.length + aE t ≤ 1000000 → aQ g u t → xL acc v own →
  aZ.Spec prog 116 [v, u] g own fun v' g' own' => g' = g ∧ xL (jl acc t) v' own'
 | 0, _, _, _, _, _, _, h, _, _, _ => by omega
 | N + 1, g, acc, t, v, u, own, h, hn, hu, hr => by
  have ih := Od N
  have lD := jA t
  have hL := GV acc t
  have hA := Oc acc t
  obtain ⟨sl, rfl, h1⟩ := id hu
  obtain ⟨ys, aJ, eE⟩ := h1.args
  obtain ⟨ua, uc, rfl⟩ := aU aJ
  obtain ⟨va, vc, rfl, rfl⟩ := hr
  refine aw func116 rfl ntmps116 rfl fun E hE => ?_
  refine aS ?_
  refine aP rfl rfl rfl (fun b3 => ?_)
  refine wz.b.a.z ?_
  refine cD (ι := Value × List aA) (fun p => [(0, p.1), (3, ptr b3 0)]) (fun _ => g) (fun p => .ae b3 41 (aH t (.slice ua t.args.length uc)) :: p.2) (fun p => xL (nF acc t) p.1 p.2) ?_ ?_
  ·rintro ⟨sv, own⟩ rj
   simp only at rj
   try dsimp only
   generalize nF acc t = A0 at rj hL hA
   refine wz.p.b.a.c.e.z ?_
   refine aX (ι := Nat × Value × List aA) (fun o => [(0, o.2.1), (3, ptr b3 0), (5, .int .i64 o.1)]) (fun _ => g) (fun o => .ae b3 41 (aH t (.slice ua t.args.length uc)) :: o.2.2) (fun o => o.1 ≤ t.args.length ∧ xL (iU A0 (t.args.take o.1)) o.2.1 o.2.2) (fun o => t.args.length - o.1) (0, _, _) ⟨Nat.zero_le _, rj⟩ ⟨rfl, rfl, rfl, trivial⟩ rfl rfl ?_
   rintro ⟨j, sv, own⟩ ⟨hj, rj⟩
   simp only at hj rj
   try dsimp only
   have nt := pt t.args
   refine wz.b.a.A.v.g.a.c.e.z ?_
   refine an rfl (fun hlt => ?_) (fun hlt => ?_)
   ·have af : j < t.args.length := by omega
    have fz := X3 (acc := A0) af
    have kj := X4 (acc := A0) af
    have GN := GP af
    obtain ⟨b, off, cap, aq, dB⟩ := aJ.held af
    cases aq
    obtain ⟨cS, h2, hr⟩ := eZ eE dB af
    refine wz.An.M.a.v.g.a.r.p.e.d.j.z ?_
    skip
    refine jN (lent := own) (kept := [_]) rfl rfl (List.perm_append_comm (l₁ := [_])) (ih g _ _ _ _ own oM oM ⟨cS, rfl, h2⟩ rj) ?_
    rintro w g1 own' ⟨rfl, Oe⟩ _
    refine ko (own' := _ :: own') (List.perm_append_comm (l₂ := [_])) ?_; refine wz.b.a.E.a.r.d.y.N.a.z ?_
    rw [← fz] at Oe
    exact aM (j + 1, w, own') ⟨oM, Oe⟩ uM ⟨rfl, rfl, rfl, trivial⟩ rfl rfl
   ·obtain rfl : j = t.args.length := by omega
    rw [List.take_length] at rj
    refine wz.i.b.a.a.c.d.D.m.m.C.z ?_
    exact ao own rfl rfl sA ⟨rfl, by rw [hL]; exact rj⟩
  ·intro K hK
   refine wz.a.a.v.g.c.z ?_
   refine bw rfl rfl (fun hk => ?_) (fun hk => ?_)
   ·refine wz.k.v.k.g.k.u.z ?_
    refine jN (lent := [_]) (kept := [_]) rfl rfl (List.Perm.swap _ _ _) (GQ fun g' _ oA => NU g' _ acc oA t.name) ?_
    rintro w g2 own' ⟨rfl, rfl, rfl⟩ _
    refine ko (own' := [_, _]) (List.Perm.swap _ _ _) ?_; refine wz.b.a.u.z ?_
    refine an rfl (fun h0 => ?_) (fun h0 => ?_)
    ·have e : nF acc t = acc ++ [t.name] := if_pos ⟨hk, h0⟩
     refine wz.v.g.a.r.z ?_
     refine bu rfl rfl rL rL rL rL rL (fun y0 => ?_)
     refine cV 2 0 rfl rfl rfl rfl rfl rL rL rfl mL oM (fun v' _ => ?_)
     refine wz.BU.z ?_
     rintro ⟨q1, q3, rfl⟩
     refine wz.Bi.b.a.z ?_
     exact hK (_, [_]) _ ⟨q1, q3, by rw [e, List.length_append]; rfl, by rw [e, List.length_append, List.map_append]; rfl⟩ ⟨rfl, rfl, trivial⟩
    ·have e : nF acc t = acc := if_neg (fun h => h0 h.2)
     refine wz.d.j.z ?_
     exact hK (_, [_]) _ ⟨va, vc, by rw [e], by rw [e]⟩ ⟨rfl, rfl, trivial⟩
   ·have e : nF acc t = acc := if_neg (fun h => hk h.1)
    refine wz.d.j.o.b.a.h.h.h.h.h.z ?_
    exact hK (_, [_]) _ ⟨va, vc, by rw [e], by rw [e]⟩ ⟨rfl, rfl, trivial⟩
theorem X7 (g : ab) (t : Ty) (u : Value) (hn : aE t ≤ 1000000) (hu : aQ g u t) : bK prog 87 [u] g fun v g' => au g' 1 v (jl [] t).length ((jl [] t).map str) := by
 obtain ⟨ya, ym, yc, rfl, h1⟩ := hu.bA
 refine aw func87 rfl ntmps87 rfl fun E hE => ?_
 refine aS ?_
 refine aP rfl rfl rfl (fun b1 => ?_)
 refine wz.BG.G.c.b.a.z ?_
 refine jN (lent := [_]) (kept := [_]) rfl rfl (List.Perm.refl _) (Od _ g [] t _ _ _ (Nat.lt_succ_self _) (by simpa using hn) ⟨_, rfl, h1⟩ ⟨none, 0, rfl, rfl⟩) ?_
 rintro w g1 own' ⟨rfl, a, c, rfl, rfl⟩ _
 refine bg (fun g2 aD bj => ?_)
 refine wz.i.b.a.z ?_
 exact ao [] rfl rfl sZ ⟨bj, rfl⟩
end Go.Proofs.YtlnjfkfojkgiiaaGreatDoor
namespace Go.Th
def okF (ps : List Bytes) (t : Ty) : Bool := jk 0 0 true t && (decide (t.kind = 5 → t.name ∈ ps) && decide (t.kind ≠ 3))
def GW (d : Da) : Prop := ∀ c ∈ d.cons, ∀ f ∈ c.fields, fE (okF d.params) f = true ∧ aE f ≤ 10
def Of (d : Da) : Bool := d.cons.all fun c => c.fields.all fun f => fE (okF d.params) f && decide (aE f ≤ 10)
theorem X8 {d : Da} (h : Of d = true) : GW d := fun c hc f hf => by
 have := List.all_eq_true.1 (List.all_eq_true.1 h c hc) f hf
 simpa only [Bool.and_eq_true, decide_eq_true_eq] using this
theorem X9 : ∀ d ∈ ja, GW d := fun d hd => X8 (List.all_eq_true.1 (show ja.all Of = true by kernel_rfl) d hd)
theorem C7 {v b : Nat} {nm : Bool} {a : List Ty} (h : a.length = 2) : jk v b nm (.mk 4 eg 0 0 a) = true := by
 simp only [jk, Bool.or_eq_true, Bool.and_eq_true, decide_eq_true_eq]
 exact .inr (.inr (.inr (.inl ⟨rfl, rfl, rfl, .inr ⟨rfl, h⟩⟩)))
theorem GX {v b : Nat} {nm : Bool} {t : Ty} {a : List Ty} (h1 : t.kind = 4) (h2 : t = bJ t.name t.args) (h3 : qm t.name = true ∨ t.name = eg ∧ t.args.length = 2) (ha : a.length = t.args.length) : jk v b nm (.mk t.kind t.name t.id t.home a) = true := by
 have e : t.id = 0 ∧ t.home = 0 := by rw [h2]; exact ⟨rfl, rfl⟩
 rw [h1, e.1, e.2]
 rcases h3 with h3 | ⟨h3, h4⟩
 ·exact xK _ h3
 ·rw [h3]; exact C7 (ha.trans h4)
theorem GY {d : Da} (h : si d) : qm d.name = true := by have := h.2.1; simp [qm, h.1]; omega
def bounds (n : Nat) : List Ty := (List.range n).map fun (i : Nat) => .mk 2 [] i 0 []
theorem Og (n : Nat) : bounds (n + 1) = bounds n ++ [.mk 2 [] n 0 []] := by simp [bounds, List.range_succ]
theorem Oh (n : Nat) : (bounds n).length = n := by simp [bounds]
theorem X_ {v : Nat} {nm : Bool} (n : Nat) : kG v n nm (bounds n) := fun t ht => by
 obtain ⟨i, hi, rfl⟩ := List.mem_map.1 ht
 exact GU oM (by have := List.mem_range.1 hi; omega)
theorem Oi : ∀ n, bM (bounds n) = n
 | 0 => rfl
 | n + 1 => by rw [Og, vr, Oi n]; simp [bM, aE]
theorem GZ {ps : List Bytes} {f : Ty} (h : fE (okF ps) f = true) : OK 0 ps.length false (c7 (iH ps) f) := by
 refine N8 (fun t u ht hf => ?_) (fun t a ht hf ha => ?_) f h
 ·simp only [okF, Bool.and_eq_true, decide_eq_true_eq] at ht
  unfold iH at hf
  split at hf
  ·rename_i hk
   have hm := X5 (ht.2.1 hk)
   rw [if_pos hm.1] at hf
   cases hf
   exact GU hm.1 hm.2
  ·cases hf
 ·simp only [okF, Bool.and_eq_true, decide_eq_true_eq] at ht
  have hk : t.kind ≠ 5 := fun hk => by
   unfold iH at hf
   rw [if_pos hk] at hf
   cases hf
  rcases iT ht.1 with h | h | h | h | h
  ·exact absurd h.2.2.1 oM
  ·exact absurd h.2.2.1 oM
  ·exact absurd h.1 ht.2.2
  ·exact GX h.1 h.2.1 h.2.2 ha
  ·exact absurd h.2.1 hk
theorem G0 (ps : List Bytes) (t : Ty) : aE (c7 (iH ps) t) ≤ aE t := by
 have : ∀ t, aE (c7 (iH ps) t) ≤ aE t := by
  have hl : ∀ l : List Ty, (∀ a ∈ l, aE (c7 (iH ps) a) ≤ aE a) → bM (l.map (c7 (iH ps))) ≤ bM l := by
   intro l
   induction l with
   | nil => intro _; simp [bM]
   | cons x r ih =>
    intro hx
    have h1 := hx x (List.mem_cons_self ..)
    have h2 := ih (fun y hy => hx y (List.mem_cons_of_mem _ hy))
    simp only [List.map_cons, bM]
    omega
  refine kH fun t ih => ?_
  have hp := jA t
  cases hf : iH ps t with
  | some u =>
   rw [mO hf]
   unfold iH at hf
   split at hf
   ·cases hf
    split
    ·simp only [aE, bM]; omega
    ·omega
   ·cases hf
  | none =>
   rw [ow hf]
   have := hl t.args ih
   simp only [aE]
   omega
 exact this t
theorem G1 {v b : Nat} {az : List Ty} {t : Ty} (hb : b ≤ az.length) (ha : kG v 0 false az) (h : OK 0 b false t) : OK v 0 false (c7 (lT az) t) := by
 refine N8 (fun t u ht hf => ?_) (fun t a ht hf hl => ?_) t h
 ·unfold lT at hf
  split at hf
  ·rename_i hk
   exact ha u (List.mem_of_getElem? hf)
  ·cases hf
 ·rcases iT ht with h | h | h | h | h
  ·exact absurd h.2.2.1 oM
  ·unfold lT at hf
   rw [if_pos ⟨h.1, h.2.1, oM⟩, List.getElem?_eq_none_iff] at hf
   omega
  ·have e : a = [] := by rw [h.2.2.2.1] at hl; exact List.length_eq_zero_iff.1 hl
   rw [e, h.1, h.2.2.2.2]
   exact xJ h.2.1 h.2.2.1
  ·exact GX h.1 h.2.1 h.2.2 hl
  ·exact absurd h.1 dC
end Go.Th
namespace Go.Proofs.YtlnjfkfojkgiiaaGreatDoor
structure pw (g : ab) (ds : List Da) (dv : Value) : Prop where
 m : ∃ xd, au g 4 dv ds.length xd ∧ aL (gC g) ds xd
 n : ds.length ≤ 8
 g : ∀ d ∈ ds, si d ∧ zB d ∧ GW d
theorem pw.mono {g g' : ab} (hle : ab.le g g') {ds : List Da} {dv : Value} (h : pw g ds dv) : pw g' ds dv := by
 obtain ⟨⟨xd, h1, h2⟩, h3, h4⟩ := h
 exact ⟨⟨xd, h1.mono hle, ng hle h2⟩, h3, h4⟩
def Ya (ds : List Da) (w : Bytes) (v : Value) : Prop := (∃ (i k : Nat) (hi : i < ds.length) (hk : k < ds[i].cons.length), ds[i].cons[k].name = w ∧ v = .tuple #[.int .i64 i, .int .i64 k, .bool true]) ∨ (∀ d ∈ ds, ∀ c ∈ d.cons, c.name ≠ w) ∧ v = .tuple #[.int .i64 0, .int .i64 0, .bool false]
theorem Oj (g : ab) (ds : List Da) (dv : Value) (hD : pw g ds dv) (w : Bytes) : bK prog 152 [dv, str w] g fun v g' => Ya ds w v ∧ g' = g := by
 obtain ⟨⟨xd, gm, jO⟩, nj, px⟩ := hD
 obtain ⟨da, dc, rfl⟩ := aU gm
 refine aw func152 rfl ntmps152 rfl fun E hE => ?_
 refine wz.p.b.a.c.e.b.a.a.a.c.z ?_
 refine aX (ι := Nat) (fun i => [(0, .slice da ds.length dc), (1, str w), (7, .int .i64 i)]) (fun _ => g) (fun _ => []) (fun i => i ≤ ds.length ∧ ∀ j (h : j < ds.length), j < i → ∀ c ∈ ds[j].cons, c.name ≠ w) (fun i => ds.length - i) 0 ⟨oM, fun j _ h => by omega⟩ ⟨rfl, rfl, rfl, trivial⟩ rfl rfl ?_
 rintro i ⟨hi, hq⟩
 refine wz.b.a.A.a.a.c.e.z ?_
 refine an rfl (fun hlt => ?_) (fun hlt => ?_)
 ·have af : i < ds.length := by omega
  obtain ⟨b, off, cap, aq, hx⟩ := gm.held af
  cases aq
  obtain ⟨c, e1, hr⟩ := dt (fun _ _ h => h.one.1) jO hx af
  obtain ⟨y1, y2, y3, y4, y5, rfl, eV, lF, G2⟩ := id e1.form
  have pN := (px _ (List.getElem_mem af)).2.1.2.1
  have gD : ∀ own, Rd g own b (off + i * 4 + 3) [.slice y3 ds[i].cons.length y4] := fun own => (hr own).du 3 rfl
  refine wz.p.b.a.c.p.e.d.j.z ?_
  refine aX (ι := Nat) (fun k => [(0, .slice (some ⟨b, off, none⟩) ds.length dc), (1, str w), (7, .int .i64 i), (8, .int .i64 k)]) (fun _ => g) (fun _ => []) (fun k => k ≤ ds[i].cons.length ∧ ∀ j (h : j < ds[i].cons.length), j < k → ds[i].cons[j].name ≠ w) (fun k => ds[i].cons.length - k) 0 ⟨oM, fun j _ h => by omega⟩ ⟨rfl, rfl, rfl, rfl, trivial⟩ rfl rfl ?_
  rintro k ⟨hk, ep⟩
  refine wz.g.M.a.a.a.c.e.z ?_
  refine cj rfl rfl (gD _) ?_
  refine wz.b.a.A.z ?_
  refine an rfl (fun dk => ?_) (fun dk => ?_)
  ·have iM : k < ds[i].cons.length := by omega
   obtain ⟨b', fo, jZ, aq, db⟩ := lF.held iM
   cases aq
   obtain ⟨c', f1, dA⟩ := dt (fun _ _ h => h.one.1) G2 db iM
   obtain ⟨_, _, _, rfl, _, _⟩ := f1.form
   refine wz.g.M.a.a.c.p.e.d.j.z ?_
   refine cj rfl rfl (gD _) ?_
   refine wz.g.M.a.z ?_
   refine cj rfl rfl ((dA _).du 1 rfl) ?_
   refine wz.b.a.a.z ?_
   refine an rfl (fun he => ?_) (fun he => ?_)
   ·refine wz.l.x.l.l.x.x.l.l.x.i.b.a.a.a.a.a.c.z ?_
    exact eO [] rfl (.tmp rfl) (.tmp rfl) (.tmp rfl) sZ ⟨⟨.inl ⟨i, k, af, iM, he, rfl⟩, rfl⟩, rfl⟩
   ·refine wz.b.a.E.a.r.d.y.j.z ?_
    exact aM (k + 1) ⟨oM, fun j h hj => by
     by_cases fK : j = k
     ·subst fK; exact he
     ·exact ep j h oM⟩ oM ⟨rfl, rfl, rfl, rfl, trivial⟩ rfl rfl
  ·obtain rfl : k = ds[i].cons.length := by omega
   refine wz.b.a.E.a.r.d.y.D.m.m.C.z ?_
   exact aM (i + 1) ⟨oM, fun j h hj c hc => by
    by_cases fK : j = i
    ·subst fK
     obtain ⟨n, hn, rfl⟩ := List.mem_iff_getElem.1 hc
     exact ep n hn hn
    ·exact hq j h oM c hc⟩ oM ⟨rfl, rfl, rfl, trivial⟩ rfl rfl
 ·obtain rfl : i = ds.length := by omega
  refine wz.i.b.a.a.a.c.d.D.m.m.C.z ?_
  exact eO [] rfl (.tmp rfl) (.tmp rfl) (.tmp rfl) sZ ⟨⟨.inr ⟨fun d hd c hc => by
   obtain ⟨j, hj, rfl⟩ := List.mem_iff_getElem.1 hd
   exact hq j hj hj c hc, rfl⟩, rfl⟩, rfl⟩
end Go.Proofs.YtlnjfkfojkgiiaaGreatDoor

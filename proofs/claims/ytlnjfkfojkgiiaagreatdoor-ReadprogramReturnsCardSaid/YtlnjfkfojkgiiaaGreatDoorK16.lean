/- The walks of package readexpr: applied, expr. -/
import Derived.Test.YtlnjfkfojkgiiaaGreatDoorK15
import Derived.Test.YtlnjfkfojkgiiaaGreatDoorShelf
open Go Go.aZ Go.Th Go.Proofs Tryz
set_option maxRecDepth 10000
set_option maxHeartbeats 4000000
attribute [local irreducible] wpList Code.wp ah bodyPost Go.aZ.Ends Exit.then Exit.inBlock dJ Wq Kq
namespace Go.Proofs.YtlnjfkfojkgiiaaGreatDoor
inductive ES where
 | go (j : Nat)
 | err (v : Value) (j : Nat) (p : Int)
def ES.val : ES → Value
 | .go _ => .nilIface
 | .err v _ _ => v
def ES.res (b : Nat) (lv : Value) : ES → aA
 | .go j => dS b lv j 0
 | .err _ j p => dS b lv j p
def ES.left (l : List Tok) : ES → Nat
 | .go j => l.length - j + 1
 | .err _ _ _ => 0
def FV (l : List Tok) (cr : ER) (x : Ex) : ES → Prop
 | .go j => j ≤ l.length ∧ cr = bt l (.apps x) j
 | .err v j p => p_ v ∧ j ≤ l.length ∧ cr = .error p
def qW (l : List Tok) (i : Nat) : ER := match bt l .atom i with
 | .error p => .error p
 | .ok (e, j) => bt l (.apps e) j
theorem Vk {l : List Tok} {i : Nat} {e : Ex} {j : Nat} (h : qW l i = .ok (e, j)) : i < j := by
 unfold qW at h
 cases hq : bt l .atom i with
 | error p => rw [hq] at h; cases h
 | ok q =>
  obtain ⟨x, k⟩ := q
  rw [hq] at h
  simp only at h
  have h1 := vW rfl hq
  have h2 := jH h
  omega
theorem L4 {l : List Tok} {i b : Nat} {lv v : Value} {g' : ab} {r' : aA} {r : ER} (h : lM l i b lv r v g' r') : ∃ (ev : Value) (x : Ex) (s : ES), v = .tuple #[ev, s.val] ∧ cT g' ev x ∧ r' = s.res b lv ∧ (match s with
  | .go j => r = .ok (x, j) ∧ i < j ∧ j ≤ l.length
  | .err v j p => p_ v ∧ r = .error p ∧ j ≤ l.length) := by
 cases r with
 | error p =>
  obtain ⟨ev, e, er, rfl, he, gh, j, hj, rfl⟩ := h
  exact ⟨ev, e, .err er j p, rfl, he, rfl, gh, rfl, hj⟩
 | ok q =>
  obtain ⟨e, j⟩ := q
  obtain ⟨ev, rfl, he, rfl, h1, h2⟩ := h
  exact ⟨ev, e, .go j, rfl, he, rfl, rfl, h1, h2⟩
section
variable {l : List Tok} (hb : TB l) (m : Nat) (lv : Value) (b : Nat)
 (hA : ∀ g i, fN g → cg g lv l → i ≤ l.length → l.length - i < m + 1 → cR prog 170 [ptr b 0] g (dS b lv i 0) (lM l i b lv (bt l .atom i)))
include hb hA
theorem Vl (g : ab) (i : Nat) (hg : fN g) (hs : cg g lv l) (hi : i ≤ l.length) (hm : l.length - i < m + 1) :
  cR prog 135 [ptr b 0] g (dS b lv i 0) (lM l i b lv (qW l i)) := by
 have dh := hb.1
 refine aw func135 rfl ntmps135 rfl fun E hE => ?_
 refine aS ?_
 refine aj rfl (fun b2 => ?_)
 refine wz.a.c.b.a.z ?_
 refine aG 1 rfl rfl rfl (hA g i hg hs hi hm) ?_
 rintro v g1 r' hw hle
 have cG := hg.mono hle
 have aJ := hs.mono hle
 obtain ⟨ev, x, s, rfl, hx, rfl, bG⟩ := L4 hw
 have oa : FV l (qW l i) x s := by
  unfold qW
  cases s with
  | go j => obtain ⟨h1, h2, h3⟩ := bG; rw [h1]; exact ⟨h3, rfl⟩
  | err v j p => obtain ⟨h1, h2, h3⟩ := bG; rw [h2]; exact ⟨h1, h3, rfl⟩
 have ky : ∀ j, s = .go j → i < j := by rintro j rfl; exact bG.2.1
 have gk : ∀ {e : Ex} {j : Nat}, qW l i = .ok (e, j) → i < j := fun h => Vk h
 generalize qW l i = cr at oa gk ⊢
 obtain ⟨a1, m1, c1, a2, m2, c2, a3, m3, c3, rfl, db⟩ := hx.form
 refine wz.a.a.a.z ?_
 refine aj rfl (fun b4 => ?_)
 refine wz.b.a.Br.z ?_
 refine cD (ι := Ex × Value × Value × Value × ES × ab) (fun p => [(0, ptr b 0), (2, ptr b2 0), (4, ptr b4 0), (5, p.2.2.2.2.1.val)]) (fun p => p.2.2.2.2.2)
  (fun p => [.ae b4 47 (nS p.1 p.2.1 p.2.2.1 p.2.2.2.1), .ae b2 47 dK, p.2.2.2.2.1.res b lv])
  (fun p => ab.le g1 p.2.2.2.2.2 ∧ cJ p.2.2.2.2.2 p.1 (nS p.1 p.2.1 p.2.2.1 p.2.2.2.1) ∧ (match p.2.2.2.2.1 with | .go j => j ≤ l.length ∧ cr = .ok (p.1, j) | .err v j q => p_ v ∧ j ≤ l.length ∧ cr = .error q)) ?_ ?_
 ·rintro ⟨x1, v1, v2, v3, s1, g2⟩ ⟨k1, k2, k3⟩
  simp only at k1 k2 k3
  try dsimp only
  have hf : ∃ a1 m1 c1 a2 m2 c2 a3 m3 c3, v1 = .slice a1 m1 c1 ∧ v2 = .slice a2 m2 c2 ∧ v3 = .slice a3 m3 c3 := by
   obtain ⟨a1, m1, c1, a2, m2, c2, a3, m3, c3, xk, xa, e, _⟩ := k2.form
   simp only [nS, List.cons.injEq, and_true, true_and] at e
   exact ⟨a1, m1, c1, a2, m2, c2, a3, m3, c3, e.1, e.2.1, e.2.2⟩
  obtain ⟨a1, m1, c1, a2, m2, c2, a3, m3, c3, rfl, rfl, rfl⟩ := hf
  refine wz.Bc.i.b.a.B.a.G.c.z ?_
  cases s1 with
  | err v j p =>
   obtain ⟨f_, iW, ff⟩ := k3
   rw [ff]
   exact ⟨_, x1, _, rfl, ⟨_, rfl, k2⟩, f_, j, iW, rfl⟩
  | go j =>
   obtain ⟨iW, ff⟩ := k3
   have := gk ff
   rw [ff]
   exact ⟨_, rfl, ⟨_, rfl, k2⟩, rfl, this, iW⟩
 ·intro K hK
  refine wz.p.z ?_
  refine aX (ι := Ex × Value × Value × Value × ES × ab) (fun p => [(0, ptr b 0), (2, ptr b2 0), (4, ptr b4 0), (5, p.2.2.2.2.1.val)]) (fun p => p.2.2.2.2.2)
   (fun p => [.ae b4 47 (nS p.1 p.2.1 p.2.2.1 p.2.2.2.1), .ae b2 47 dK, p.2.2.2.2.1.res b lv])
   (fun p => ab.le g1 p.2.2.2.2.2 ∧ cJ p.2.2.2.2.2 p.1 (nS p.1 p.2.1 p.2.2.1 p.2.2.2.1) ∧ FV l cr p.1 p.2.2.2.2.1 ∧ (∀ j, p.2.2.2.2.1 = .go j → i < j)) (fun p => p.2.2.2.2.1.left l)
   (x, .slice a1 m1 c1, .slice a2 m2 c2, .slice a3 m3 c3, s, g1) ⟨ab.le_refl _, db, oa, ky⟩ ⟨rfl, rfl, rfl, rfl, trivial⟩ rfl rfl ?_
  rintro ⟨x1, v1, v2, v3, s1, g2⟩ ⟨k1, k2, k3, k4⟩
  simp only at k1 k2 k3 k4
  try dsimp only
  have hf : ∃ a1 m1 c1 a2 m2 c2 a3 m3 c3, v1 = .slice a1 m1 c1 ∧ v2 = .slice a2 m2 c2 ∧ v3 = .slice a3 m3 c3 := by
   obtain ⟨a1, m1, c1, a2, m2, c2, a3, m3, c3, xk, xa, e, _⟩ := k2.form
   simp only [nS, List.cons.injEq, and_true, true_and] at e
   exact ⟨a1, m1, c1, a2, m2, c2, a3, m3, c3, e.1, e.2.1, e.2.2⟩
  obtain ⟨e1, n1, d1, e2, n2, d2, e3, n3, d3, rfl, rfl, rfl⟩ := hf
  have bj := aJ.mono k1
  have dy := cG.mono k1
  obtain ⟨la, lc, rfl⟩ := aU hs
  cases s1 with
  | err v j p =>
   obtain ⟨⟨t, u, rfl, gh⟩, iW, ff⟩ := k3
   unfold ES.val ES.res
   simp only
   refine wz.e.e.z ?_
   refine bO [] mixed (fun hG => ?_)
   refine wz.P.z ?_; refine ⟨_, (ag rfl), ?_⟩
   refine bn 1 rfl kR rfl hG ⟨_, (L5 rfl), ?_⟩; refine wz.S.z ?_; refine ⟨_, (ag rfl), ?_⟩; refine fI 3 rfl rfl rfl kR rfl hG ?_; refine fI 4 rfl rfl rfl kR rfl hG ?_; refine fI 5 rfl rfl rfl kR rfl hG ?_; refine fI 6 rfl rfl rfl kR rfl hG ?_; refine fI 7 rfl rfl rfl kR rfl hG ?_; refine wz.CB.CW.z ?_; refine fI 10 rfl rfl rfl kR rfl hG ?_; refine wz.BJ.CV.Cr.z ?_; refine ⟨_, (ag rfl), ?_⟩; refine wz.CX.z ?_; refine ⟨_, (ag rfl), ?_⟩; refine wz.Cz.Cy.Cx.Cw.Cv.Cu.Ct.Cs.z ?_; refine fI 23 rfl rfl rfl kR rfl hG ?_; refine fI 24 rfl rfl rfl kR rfl hG ?_; refine fI 25 rfl rfl rfl kR rfl hG ?_; refine wz.CC.z ?_; refine ⟨_, (ag rfl), ?_⟩
   refine wz.d.D.m.m.C.o.d.F.z ?_
   exact hK (x1, .slice e1 n1 d1, .slice e2 n2 d2, .slice e3 n3 d3, .err _ j p, g2) _ ⟨k1, k2, ⟨t, u, rfl, gh⟩, iW, ff⟩ ⟨rfl, rfl, rfl, rfl, trivial⟩
  | go j =>
   obtain ⟨iW, ff⟩ := k3
   have Vm := k4 j rfl
   rw [jy] at ff
   simp only [dM] at ff
   unfold ES.val ES.res
   simp only
   refine wz.e.e.z ?_
   refine bO [] mixed (fun hG => ?_)
   refine wz.P.z ?_; refine ⟨_, (ag rfl), ?_⟩
   refine bn 1 rfl kR rfl hG ⟨_, (L6 rfl), ?_⟩; refine wz.S.z ?_; refine ⟨_, (ag rfl), ?_⟩; refine dX 3 rfl rfl kR rfl hG ?_; refine ⟨_, (ag rfl), ?_⟩; refine wz.CY.z ?_; refine ⟨_, (ag rfl), ?_⟩; refine dX 5 rfl rfl kR rfl hG ?_; refine ⟨_, (aI rfl), ?_⟩; refine wz.CZ.z ?_; refine ⟨_, (a7 2 rfl rfl rfl), ?_⟩; refine dX 7 rfl rfl kR rfl hG ?_; refine ⟨_, (ag rfl), ?_⟩; refine wz.Da.z ?_; refine ⟨_, (ag rfl), ?_⟩; refine wz.CD.z ?_; refine ⟨_, (aI rfl), ?_⟩; refine wz.Db.z ?_; refine ⟨_, (a7 2 rfl rfl rfl), ?_⟩; refine wz.BZ.z ?_; refine ⟨_, (jQ rfl), ?_⟩; refine wz.Cl.z ?_; refine ⟨_, (ag rfl), ?_⟩; refine wz.BJ.z ?_; refine ⟨_, (ag rfl), ?_⟩; refine wz.CX.z ?_; refine ⟨_, (ag rfl), ?_⟩
   refine iJ 26 rfl (fun hlt => ?_) (fun hlt => ?_)
   ·have af : j < l.length := by omega
    obtain ⟨b0, off, cap, aq, iX⟩ := bj.held af
    cases aq
    refine wz.Cm.z ?_; refine ⟨_, (ag rfl), ?_⟩; refine wz.Cn.z ?_; refine ⟨_, (ag rfl), ?_⟩; refine wz.CT.z ?_; refine ⟨_, (aI rfl), ?_⟩; refine wz.Ca.z ?_; refine ⟨_, (a7 2 rfl rfl rfl), ?_⟩; refine wz.Dc.z ?_; refine ⟨_, (ag rfl), ?_⟩; refine wz.Co.z ?_; refine ⟨_, (ag rfl), ?_⟩; refine dX 21 rfl rfl kR rfl hG ?_; refine ⟨_, (aI rfl), ?_⟩; refine wz.CU.z ?_; refine ⟨_, (a7 2 rfl rfl rfl), ?_⟩
    refine dX 23 rfl rfl kR rfl hG ⟨_, (bU (j := j) rfl rfl rfl af), ?_⟩
    refine dX 24 rfl rfl kR rfl hG ⟨_, (dL rfl (qX iX af) rfl), ?_⟩
    refine gL 25 kR rfl ?_; refine wz.k.z ?_
    refine aO rfl rfl (KN g2 l[j]) ?_
    refine wz.CC.f.b.z ?_; refine ⟨_, (ag rfl), ?_⟩
    refine wz.F.z ?_
    rw [SL af] at ff
    cases bG : kS l[j] with
    | false =>
     rw [bG] at ff
     refine wz.d.D.m.m.C.o.d.z ?_
     exact hK (x1, .slice e1 n1 d1, .slice e2 n2 d2, .slice e3 n3 d3, .go j, g2) _ ⟨k1, k2, iW, ff⟩ ⟨rfl, rfl, rfl, rfl, trivial⟩
    | true =>
     rw [bG] at ff
     simp only [if_true] at ff
     refine wz.c.p.d.j.t.d.z ?_
     refine aj rfl (fun b6 => ?_)
     refine wz.a.c.b.z ?_
     refine aG 3 rfl rfl rfl (hA g2 j dy bj iW oM) ?_
     rintro v g3 r' l5 aF
     obtain ⟨av, a, s3, rfl, ha, rfl, FW⟩ := L4 l5
     have Vn : FV l cr (bC 5 x1.pos [] [x1, a]) s3 := by
      rw [ff]
      cases s3 with
      | go j => obtain ⟨h1, h2, h3⟩ := FW; rw [h1]; exact ⟨h3, rfl⟩
      | err v j p => obtain ⟨h1, h2, h3⟩ := FW; rw [h2]; exact ⟨h1, h3, rfl⟩
     have L7 : ∀ j', s3 = .go j' → j < j' := by rintro j' rfl; exact FW.2.1
     obtain ⟨q1, o1, p1, q2, o2, p2, q3, o3, p3, rfl, s8⟩ := ha.form
     refine wz.G.O.I.g.r.b.a.q.a.a.a.z ?_
     refine bu rfl rfl rL rL rL rL rL (fun bh => ?_)
     refine bg (fun g4 eW eG => ?_)
     have ju := ab.le_trans aF eW
     refine wz.Bp.d.y.N.B.K.z ?_
     refine aM (bC 5 x1.pos [] [x1, a], .slice (some ⟨bh, 0, none⟩) 2 2, .slice none 0 0, .slice none 0 0, s3, g4) ⟨ab.le_trans k1 ju, ?_, Vn, fun j' h => Nat.lt_trans Vm (L7 j' h)⟩ ?_ ⟨rfl, rfl, rfl, rfl, trivial⟩ rfl rfl
     ·obtain ⟨cs, e, hh⟩ := jR g4 5 x1.pos [] eG (o8 (k2.mono ju) (s8.mono eW))
      simp only [Value.agg.injEq] at e
      have e' := congrArg Array.toList e
      simp only at e'
      rw [← e'] at hh
      exact hh
     ·cases s3 with
      | err v j' p => simp only [ES.left]; omega
      | go j' =>
       have := L7 j' rfl
       simp only [ES.left]; omega
   ·have bG : mu l j = false := by unfold mu; rw [List.getElem?_eq_none oM]
    rw [bG] at ff
    simp only [Bool.false_eq_true, if_false] at ff
    refine wz.Cz.Cy.Cx.Cw.Cv.Cu.Ct.Cs.z ?_; refine fI 23 rfl rfl rfl kR rfl hG ?_; refine fI 24 rfl rfl rfl kR rfl hG ?_; refine fI 25 rfl rfl rfl kR rfl hG ?_; refine wz.CC.z ?_; refine ⟨_, (ag rfl), ?_⟩
    refine wz.d.D.m.m.C.o.d.F.z ?_
    exact hK (x1, .slice e1 n1 d1, .slice e2 n2 d2, .slice e3 n3 d3, .go j, g2) _ ⟨k1, k2, iW, ff⟩ ⟨rfl, rfl, rfl, rfl, trivial⟩
end
end Go.Proofs.YtlnjfkfojkgiiaaGreatDoor
namespace Go.Th
def TQ.wW : TQ → Bool
 | .args _ _ => false
 | _ => true
theorem L8 (l : List Tok) : ∀ (N : Nat) (q : TQ) (i : Nat) (x : Ty × Nat), dD l q i < N → i ≤ l.length → a_ l q i = .ok x → x.2 ≤ l.length ∧ (q.wW = true → i < x.2)
 | 0, _, _, _, h, _, _ => by omega
 | N + 1, q, i, x, hN, hi, h => by
  have ih := L8 l N
  cases q with
  | atom =>
   rw [nV] at h
   split at h
   ·cases h
   ·rename_i t ht
    have hi := (List.getElem?_eq_some_iff.1 ht).1
    split at h
    ·cases h; exact ⟨hi, fun _ => Nat.lt_succ_self _⟩
    ·split at h
     ·cases h; exact ⟨hi, fun _ => Nat.lt_succ_self _⟩
     ·split at h
      ·split at h
       ·cases h
       ·rename_i y j h1
        have i1 := ih .whole (i + 1) (y, j) (by simp only [dD, TQ.ck] at *; omega) hi h1
        have i2 := i1.2 rfl
        simp only at i2
        split at h
        ·rename_i hm
         have := cF hm
         cases h; exact ⟨this, fun _ => by simp only; omega⟩
        ·cases h
      ·cases h
  | args n acc =>
   rw [nQ] at h
   split at h
   ·rename_i hs
    have hi := r8 hs
    split at h
    ·cases h
    ·rename_i y j h1
     have i0 := ih .atom i (y, j) (by simp only [dD, TQ.ck] at *; omega) oM h1
     split at h
     ·rename_i ky
      have i1 := ih _ j x (by simp only [dD, TQ.ck] at *; omega) i0.1 h
      exact ⟨i1.1, fun h => by cases h⟩
     ·cases h
   ·cases h; exact ⟨hi, fun h => by cases h⟩
  | fA =>
   rw [oX] at h
   split at h
   ·rename_i t ht
    have hi := (List.getElem?_eq_some_iff.1 ht).1
    split at h
    ·have i1 := ih _ (i + 1) x (by simp only [dD, TQ.ck] at *; omega) hi h
     have i2 := nU l _ _ _ _ (Nat.lt_succ_self _) h
     exact ⟨i1.1, fun _ => by omega⟩
    ·have i1 := ih .atom i x (by simp only [dD, TQ.ck] at *; omega) oM h
     exact ⟨i1.1, fun _ => i1.2 rfl⟩
   ·have i1 := ih .atom i x (by simp only [dD, TQ.ck] at *; omega) oM h
    exact ⟨i1.1, fun _ => i1.2 rfl⟩
  | whole =>
   rw [qJ] at h
   split at h
   ·cases h
   ·rename_i a j h1
    have i1 := ih .fA i (a, j) (by simp only [dD, TQ.ck] at *; omega) hi h1
    have L9 := i1.2 rfl
    simp only at L9
    split at h
    ·rename_i hm
     have hj := cF hm
     split at h
     ·split at h
      ·cases h
      ·rename_i b k h2
       have i2 := ih .whole (j + 1) (b, k) (by simp only [dD, TQ.ck] at *; omega) hj h2
       have Vo := i2.2 rfl
       simp only at Vo
       cases h
       exact ⟨i2.1, fun _ => by simp only; omega⟩
     ·cases h
    ·cases h; exact ⟨i1.1, fun _ => L9⟩
end Go.Th
namespace Go.Proofs.YtlnjfkfojkgiiaaGreatDoor
theorem L_ : ∀ (s : Bytes) (acc : Nat), (∀ c ∈ s, digit c = true) → ∃ n : Nat, Lib.decFrom acc s = some n ∧ (n : Int) = s.foldl (fun n c => 10 * n + (c.toNat - 48 : Int)) (acc : Int)
 | [], acc, _ => ⟨acc, rfl, rfl⟩
 | c :: r, acc, h => by
  have hc := h c (List.mem_cons_self ..)
  simp only [digit, Bool.and_eq_true, decide_eq_true_eq] at hc
  have hd : Lib.digitVal c = some (c.toNat - 48) := by
   unfold Lib.digitVal
   rw [if_pos hc]
  obtain ⟨n, h1, h2⟩ := L_ r (acc * 10 + (c.toNat - 48)) (fun x hx => h x (List.mem_cons_of_mem _ hx))
  refine ⟨n, by unfold Lib.decFrom; rw [hd]; exact h1, ?_⟩
  rw [h2, List.foldl_cons]
  congr 1
  omega
theorem Vp {s : Bytes} (h : kindOf s = 3) : Lib.atoi s = some (numOf s) ∧ s.length ≤ 9 := by
 have h3 := Vq h
 refine ⟨?_, h3.1⟩
 cases s with
 | nil => exact absurd h dC
 | cons c r =>
  obtain ⟨n, h1, h2⟩ := L_ (c :: r) 0 h3.2
  have hc := h3.2 c (List.mem_cons_self ..)
  simp only [digit, Bool.and_eq_true, decide_eq_true_eq] at hc
  unfold Lib.atoi
  have e1 : (c == 45) = false := by
   rw [beq_eq_false_iff_ne]
   rintro rfl
   exact absurd hc.1 dC
  have e2 : (c == 43) = false := by
   rw [beq_eq_false_iff_ne]
   rintro rfl
   exact absurd hc.1 dC
  simp only [e1, e2, Bool.false_eq_true, if_false]
  unfold Lib.decNat
  simp only [List.isEmpty_cons, Bool.false_eq_true, if_false, h1, Option.map_some]
  rw [h2]
  rfl
theorem Vr (g : ab) {s : Bytes} (h : kindOf s = 3) : Pure prog 198 [str s] g (.tuple #[.int .i64 (numOf s), .nilIface]) := by
 obtain ⟨h1, h2⟩ := Vp h
 refine KY fun w hH => (Tryz.strconv_Atoi ⟨⟨s⟩⟩ (numOf s) (by show s.length ≤ _; omega) h1 w).mono fun e w' hh => ?_
 obtain ⟨he, t, rfl⟩ := hh
 exact ⟨he, Lib.bytesWorld_below _ _ _⟩
theorem jz {n k : Nat} (h : k ≤ n) : idxOf n (k : Int) = k := by
 unfold idxOf
 rw [if_neg oM]
 omega
theorem Vs {t : Ty} {j : Nat} {v : Value} {g' : ab} (h : FP (.ok (t, j)) v g') : ∃ tv, v = .tuple #[tv, .int .i64 j, .agg #[.int .i64 0, .int .i64 0]] ∧ aQ g' tv t := h
theorem Vt : p_ nZ := ⟨_, _, rfl, .inr ⟨rfl, rfl⟩⟩
section
variable {l : List Tok} (hb : TB l) (bI : KW l) (m : Nat) (lv : Value) (b : Nat)
 (hX : ∀ g i, fN g → cg g lv l → i ≤ l.length → l.length - i < m → cR prog 100 [ptr b 0] g (dS b lv i 0) (lM l i b lv (bt l .expr i)))
include hb bI hX
theorem Vu (g : ab) (i : Nat) (hg : fN g) (hs : cg g lv l) (hi : i ≤ l.length) (hm : l.length - i < m + 1) :
  cR prog 170 [ptr b 0] g (dS b lv i 0) (lM l i b lv (bt l .atom i)) := by
 have dh := hb.1
 have hr := jy l .atom i
 simp only [dM] at hr
 obtain ⟨la, lc, rfl⟩ := aU hs
 refine aw func170 rfl ntmps170 rfl fun E hE => ?_
 refine aS ?_
 refine aj rfl (fun b2 => ?_)
 refine wz.e.e.b.a.z ?_
 refine bO [] mixed (fun hG => ?_)
 refine wz.P.z ?_; refine ⟨_, (ag rfl), ?_⟩; refine wz.R.z ?_; refine ⟨_, (ag rfl), ?_⟩; refine wz.S.z ?_; refine ⟨_, (aI rfl), ?_⟩; refine wz.X.z ?_; refine ⟨_, (a7 1 rfl rfl rfl), ?_⟩; refine wz.Z.z ?_; refine ⟨_, (ag rfl), ?_⟩; refine wz.Ad.z ?_; refine ⟨_, (ag rfl), ?_⟩; refine wz.Ak.z ?_; refine ⟨_, (aI rfl), ?_⟩; refine wz.Aa.z ?_; refine ⟨_, (a7 1 rfl rfl rfl), ?_⟩; refine wz.AV.z ?_; refine ⟨_, (jQ rfl), ?_⟩; refine wz.Av.z ?_; refine ⟨_, (ag rfl), ?_⟩; refine wz.Al.z ?_; refine ⟨_, (ag rfl), ?_⟩
 refine iJ 21 rfl (fun hlt => ?_) (fun hlt => ?_)
 ·rw [List.getElem?_eq_none oM] at hr
  refine wz.CV.Cr.z ?_; refine fI 13 rfl rfl rfl kR rfl hG ?_; refine fI 14 rfl rfl rfl kR rfl hG ?_; refine wz.Cp.Cz.Cy.Cx.Cw.Cv.Cu.Ct.Cs.z ?_; refine ⟨_, (ag rfl), ?_⟩
  refine wz.a.K.c.t.d.F.z ?_
  refine aG 1 rfl rfl rfl (wH g l hb _ hs b i _) ?_
  rintro v g1 r' ⟨rfl, rfl, rfl⟩ _
  refine wz.Dk.l.i.b.a.q.z ?_
  rw [hr]
  exact ⟨_, _, _, rfl, FX g1, mc _, i, hi, rfl⟩
 have af : i < l.length := by omega
 obtain ⟨b0, off, cap, aq, iX⟩ := hs.held af
 cases aq
 rw [eB af] at hr
 simp only at hr
 refine wz.BZ.z ?_; refine ⟨_, (ag rfl), ?_⟩; refine wz.Cl.z ?_; refine ⟨_, (ag rfl), ?_⟩; refine wz.CS.z ?_; refine ⟨_, (aI rfl), ?_⟩; refine dX 14 rfl rfl kR rfl hG ?_; refine ⟨_, (a7 1 rfl rfl rfl), ?_⟩; refine wz.Cm.z ?_; refine ⟨_, (ag rfl), ?_⟩; refine wz.Cn.z ?_; refine ⟨_, (ag rfl), ?_⟩; refine wz.CT.z ?_; refine ⟨_, (aI rfl), ?_⟩; refine wz.Ca.z ?_; refine ⟨_, (a7 1 rfl rfl rfl), ?_⟩
 refine dX 19 rfl rfl kR rfl hG ⟨_, (bU (j := i) rfl rfl rfl af), ?_⟩
 refine dX 20 rfl rfl kR rfl hG ⟨_, (dL rfl (qX iX af) rfl), ?_⟩
 refine gL 21 kR rfl ?_; refine wz.k.z ?_
 refine aO rfl rfl (KN g l[i]) ?_
 refine wz.CU.f.b.z ?_; refine ⟨_, (ag rfl), ?_⟩; refine wz.Cp.z ?_; refine ⟨_, (ag rfl), ?_⟩
 refine wz.F.z ?_
 cases bG : kS l[i] with
 | false =>
  have dA : bt l .atom i = .error (bH l i) := by
   rw [hr]
   simp only [kS, Bool.or_eq_false_iff, Bool.and_eq_false_iff, decide_eq_false_iff_not] at bG
   obtain ⟨⟨⟨k1, k2⟩, k3⟩, k4⟩ := bG
   rw [if_neg k1, if_neg k2, if_neg k3, if_neg (fun h => k4.elim (fun k => k h.1) (fun k => k.1.1 h.2)), if_neg (fun h => k4.elim (fun k => k h.1) (fun k => k.2 h.2)), if_neg (fun h => k4.elim (fun k => k h.1) (fun k => k.1.2 h.2))]
  refine wz.a.K.c.t.d.z ?_
  refine aG 1 rfl rfl rfl (wH g l hb _ hs b i _) ?_
  rintro v g1 r' ⟨rfl, rfl, rfl⟩ _
  refine wz.Dk.l.i.b.a.q.z ?_
  rw [dA]
  exact ⟨_, _, _, rfl, FX g1, mc _, i, hi, rfl⟩
 | true =>
 refine wz.e.d.j.o.d.z ?_
 refine bO [] mixed (fun hG => ?_)
 refine wz.P.z ?_; refine ⟨_, (ag rfl), ?_⟩; refine wz.R.z ?_; refine ⟨_, (ag rfl), ?_⟩; refine wz.S.z ?_; refine ⟨_, (aI rfl), ?_⟩; refine wz.X.z ?_; refine ⟨_, (a7 1 rfl rfl rfl), ?_⟩; refine wz.Z.z ?_; refine ⟨_, (ag rfl), ?_⟩; refine wz.Ad.z ?_; refine ⟨_, (ag rfl), ?_⟩; refine wz.Ak.z ?_; refine ⟨_, (aI rfl), ?_⟩; refine wz.Aa.z ?_; refine ⟨_, (a7 1 rfl rfl rfl), ?_⟩
 refine bn 8 rfl kR rfl hG ⟨_, (bU (j := i) rfl rfl rfl af), ?_⟩
 refine bn 9 rfl kR rfl hG ⟨_, (dL rfl (qX iX af) rfl), ?_⟩
 refine wz.AW.z ?_
 refine aj rfl (fun b4 => ?_)
 refine wz.K.v.g.c.b.Bj.g.a.E.Ag.g.a.a.c.d.F.f.b.q.Bf.f.b.z ?_
 refine aj rfl (fun b5 => ?_)
 refine wz.b.a.a.I.g.c.p.e.b.q.z ?_
 have nB : l[i].pos = posOf l i := by unfold posOf; rw [eB af]
 refine an rfl (fun h1 => ?_) (fun h1 => ?_)
 ·rw [if_pos h1] at hr
  refine kM ?_
  refine bO [0] mixed (fun hG => ?_)
  refine wz.P.z ?_; refine ⟨_, (aI rfl), ?_⟩; refine wz.R.z ?_; refine ⟨_, (a7 0 rfl rfl rfl), ?_⟩; refine wz.S.z ?_; refine ⟨_, (aI rfl), ?_⟩
  refine wz.Z.f.b.Ac.Aw.z ?_; refine ⟨_, (aI rfl), ?_⟩
  refine wz.CE.l.x.i.b.a.V.G.c.d.F.f.b.Ac.Aq.z ?_
  rw [hr]
  exact ⟨_, rfl, je g 1 _ _ 0, rfl, oM, oM⟩
 rw [if_neg h1] at hr
 refine wz.b.a.a.I.g.c.z ?_
 refine an rfl (fun h2 => ?_) (fun h2 => ?_)
 ·rw [if_pos h2] at hr
  refine kM ?_
  refine bO [0] mixed (fun hG => ?_)
  refine wz.P.z ?_; refine ⟨_, (aI rfl), ?_⟩; refine wz.R.z ?_; refine ⟨_, (a7 0 rfl rfl rfl), ?_⟩; refine wz.S.z ?_; refine ⟨_, (aI rfl), ?_⟩
  refine wz.Z.f.b.Ac.Aw.z ?_; refine ⟨_, (aI rfl), ?_⟩
  refine wz.CE.l.x.i.b.a.V.G.c.d.F.f.b.Ac.Aq.z ?_
  rw [hr]
  exact ⟨_, rfl, je g 2 _ _ 0, rfl, oM, oM⟩
 rw [if_neg h2] at hr
 refine wz.b.a.a.I.g.c.z ?_
 refine an rfl (fun h3 => ?_) (fun h3 => ?_)
 ·rw [if_pos h3] at hr
  have ob : kindOf l[i].text = 3 := (bI _ (List.getElem_mem af)).symm.trans h3
  refine wz.I.g.c.b.Ac.g.c.z ?_
  refine aO rfl rfl (Vr g ob) ?_
  refine wz.CE.l.x.i.b.a.V.G.c.b.Ac.g.a.a.a.z ?_
  rw [hr]
  exact ⟨_, rfl, je g 3 _ [] _, rfl, oM, oM⟩
 rw [if_neg h3] at hr
 have h5 : l[i].kind = 5 ∧ (l[i].text = [63] ∨ l[i].text = [40] ∨ l[i].text = [123]) := by
  simp only [kS, h1, h2, h3, decide_false, Bool.false_or, Bool.and_eq_true, Bool.or_eq_true, decide_eq_true_eq] at bG
  exact ⟨bG.1, bG.2.elim (fun h => h.elim .inl (fun h => .inr (.inl h))) (fun h => .inr (.inr h))⟩
 obtain ⟨h5, h6⟩ := h5
 refine wz.b.a.a.I.g.c.z ?_
 refine an rfl (fun h7 => ?_) (fun h7 => ?_)
 ·have s9 : l[i].text = [63] := h7
  rw [if_pos ⟨h5, s9⟩] at hr
  refine wz.CE.l.x.i.b.a.V.G.c.b.Ac.g.c.z ?_
  rw [hr]
  exact ⟨_, rfl, je g 10 _ [] 0, rfl, oM, oM⟩
 have s9 : ¬ l[i].text = [63] := h7
 rw [if_neg (fun h => s9 h.2)] at hr
 refine wz.a.c.d.y.j.z ?_
 refine aG 3 rfl rfl rfl (hX g (i + 1) hg hs oM oM) ?_
 rintro v g1 r' hw hle
 have cG := hg.mono hle
 have aJ := hs.mono hle
 have Ma : ∀ p, bt l .expr (i + 1) = .error p → bt l .atom i = .error p := by
  intro p hp
  rw [hr, hp]
  rcases h6 with h6 | h6 | h6
  ·exact absurd h6 s9
  ·rw [if_neg (fun h => by rw [h6] at h; exact absurd h.2 dC), if_pos ⟨h5, h6⟩]
  ·rw [if_pos ⟨h5, h6⟩]
 cases hq : bt l .expr (i + 1) with
 | error p =>
  rw [hq] at hw
  obtain ⟨ev, e, er, rfl, he, ⟨t, u, rfl, gh⟩, j, hj, rfl⟩ := hw
  obtain ⟨a1, m1, c1, a2, m2, c2, a3, m3, c3, rfl, b_⟩ := he.form
  refine wz.a.a.a.z ?_
  refine aj rfl (fun b6 => ?_)
  refine wz.Bz.l.x.i.b.a.Au.a.G.c.t.b.a.AZ.a.c.p.e.b.a.q.z ?_
  rw [Ma p hq]
  exact ⟨_, e, _, rfl, ⟨_, rfl, b_⟩, ⟨t, u, rfl, gh⟩, j, hj, rfl⟩
 | ok q =>
 clear Ma
 obtain ⟨x, j⟩ := q
 rw [hq] at hw
 obtain ⟨ev, rfl, he, rfl, ik, cE⟩ := hw
 obtain ⟨a1, m1, c1, a2, m2, c2, a3, m3, c3, rfl, b_⟩ := he.form
 refine wz.a.a.a.z ?_
 refine aj rfl (fun b6 => ?_)
 refine wz.b.a.a.Ag.g.c.o.b.a.Ba.a.c.p.e.b.a.q.z ?_
 rw [hq] at hr
 simp only at hr
 refine an rfl (fun h8 => ?_) (fun h8 => ?_)
 ·have s_ : l[i].text = [123] := h8
  rw [if_pos ⟨h5, s_⟩] at hr
  refine cD (ι := ab × Nat) (fun p => [(0, ptr b 0), (2, ptr b2 0), (5, ptr b5 0)]) (fun p => p.1)
   (fun p => [.ae b6 47 (nS x (.slice a1 m1 c1) (.slice a2 m2 c2) (.slice a3 m3 c3)), .ae b5 47 [.int .i64 11, .int .i64 l[i].pos, str [], .int .i64 0, .slice (some ⟨p.2, 0, none⟩) 1 1, .slice none 0 0, .int .i64 0, str [], .int .i64 0, .int .i64 0, .slice none 0 0], .ae b4 118 (jM l[i]), .ae b2 47 dK, dS b (.slice (some ⟨b0, off, none⟩) l.length lc) j 0])
   (fun p => ab.le g1 p.1 ∧ au p.1 11 (.slice (some ⟨p.2, 0, none⟩) 1 1) 1 (nS x (.slice a1 m1 c1) (.slice a2 m2 c2) (.slice a3 m3 c3))) ?_ ?_
  ·rintro ⟨g2, b7⟩ ⟨dy, iE⟩
   simp only at dy iE
   try dsimp only
   have bj := aJ.mono dy
   have hV := jR (ks := [x]) g2 11 l[i].pos [] iE (na (b_.mono dy))
   refine kM ?_
   refine bO [4, 3] mixed (fun hG => ?_)
   refine wz.P.z ?_; refine ⟨_, (bP 1 rfl rfl rL), ?_⟩; refine wz.R.z ?_; refine ⟨_, (ag rfl), ?_⟩
   refine wz.AL.z ?_
   refine aG 4 rfl rfl rfl (pU g2 l hb _ bj b j 5 [125]) ?_
   rintro v gw r' ⟨rfl, hv⟩ _
   rcases hv with ⟨hk, rfl, rfl⟩ | ⟨hk, rfl, rfl⟩
   ·refine wz.Bz.l.x.i.d.F.f.b.a.AH.f.b.Au.Aw.f.b.z ?_
    rw [show bB l j [125] = true from hk] at hr
    rw [hr]
    have := cF hk
    exact ⟨_, rfl, hV, rfl, oM, oM⟩
   ·refine wz.Bz.l.x.i.d.F.f.b.a.AH.f.b.Au.Aw.f.b.z ?_
    rw [show bB l j [125] = false from hk] at hr
    rw [hr]
    exact ⟨_, _, _, rfl, hV, mc _, j, cE, rfl⟩
  ·intro K hK
   skip
   refine bO [1] mixed (fun hG => ?_)
   refine wz.P.z ?_; refine ⟨_, (bP 0 rfl rfl rL), ?_⟩
   refine wz.S.z ?_; refine ⟨_, (aI rfl), ?_⟩
   refine eH 1 3 kR rfl rfl ?_ ?_
   ·refine bu rfl rfl rL rL rL rL rL (fun b7 => ?_)
    refine bg (fun g2 dy iE => ?_)
    refine wz.Z.f.b.Ah.Aw.f.b.z ?_; refine ⟨_, (aI rfl), ?_⟩
    refine wz.d.F.f.b.Ah.Aq.z ?_
    exact hK (g2, b7) _ ⟨dy, iE⟩ ⟨rfl, rfl, rfl, trivial⟩
   ·refine wz.BP.f.b.Ah.z ?_
    refine bu rfl rfl rL rL rL rL rL (fun b7 => ?_)
    refine bg (fun g2 dy iE => ?_)
    refine wz.Z.f.b.z ?_; refine ⟨_, (aI rfl), ?_⟩
    refine wz.d.F.f.b.Ah.Aq.z ?_
    exact hK (g2, b7) _ ⟨dy, iE⟩ ⟨rfl, rfl, rfl, trivial⟩
 have s_ : l[i].text = [40] := by
  rcases h6 with h6 | h6 | h6
  ·exact absurd h6 s9
  ·exact h6
  ·exact absurd h6 h8
 rw [if_neg (fun h => h8 h.2), if_pos ⟨h5, s_⟩] at hr
 refine wz.a.c.z ?_
 refine aG 4 rfl rfl rfl (sG g1 l hb _ aJ b j 0 5 [58]) ?_
 rintro v nf r' ⟨rfl, rfl, rfl⟩ _
 rw [show df l j 5 [58] = bB l j [58] from rfl]
 cases qQ : bB l j [58] with
 | false =>
  rw [qQ] at hr
  simp only [Bool.false_eq_true, if_false] at hr ⊢
  refine wz.e.t.b.a.a.z ?_
  refine bO [4, 3] mixed (fun hG => ?_)
  refine wz.P.z ?_; refine ⟨_, (bP 0 rfl rfl rL), ?_⟩; refine wz.R.z ?_; refine ⟨_, (ag rfl), ?_⟩
  refine wz.AL.z ?_
  refine aG 4 rfl rfl rfl (pU nf l hb _ aJ b j 5 [41]) ?_
  rintro v gw r' ⟨rfl, hv⟩ _
  rcases hv with ⟨hk, rfl, rfl⟩ | ⟨hk, rfl, rfl⟩
  ·refine wz.Bz.l.x.i.d.F.f.b.a.AH.f.b.Au.Aw.f.b.z ?_
   rw [show bB l j [41] = true from hk] at hr
   rw [hr]
   have := cF hk
   exact ⟨_, rfl, ⟨_, rfl, b_⟩, rfl, oM, oM⟩
  ·refine wz.Bz.l.x.i.d.F.f.b.a.AH.f.b.Au.Aw.f.b.z ?_
   rw [show bB l j [41] = false from hk] at hr
   rw [hr]
   exact ⟨_, _, _, rfl, ⟨_, rfl, b_⟩, mc _, j, cE, rfl⟩
 | true =>
 have dk := cF qQ
 rw [qQ] at hr
 simp only [if_true] at hr ⊢
 refine wz.d.y.j.o.b.a.a.z ?_
 refine cD (ι := ab × Value × Nat × Nat) (fun p => [(0, ptr b 0), (2, ptr b2 0), (5, ptr b5 0), (6, ptr b6 0), (8, ptr p.2.2.1 0), (9, .int .i64 (sW (a_ l .whole (j + 1)))), (10, ptr p.2.2.2 0)]) (fun p => p.1)
  (fun p => [.ae p.2.2.1 41 (aH (mb (a_ l .whole (j + 1))) p.2.1), .ae p.2.2.2 33 [.int .i64 (sX (a_ l .whole (j + 1))), .int .i64 (sY (a_ l .whole (j + 1)))], .ae b6 47 (nS x (.slice a1 m1 c1) (.slice a2 m2 c2) (.slice a3 m3 c3)), .ae b5 47 [.int .i64 0, .int .i64 l[i].pos, str [], .int .i64 0, .slice none 0 0, .slice none 0 0, .int .i64 0, str [], .int .i64 0, .int .i64 0, .slice none 0 0], .ae b4 118 (jM l[i]), .ae b2 47 dK, dS b (.slice (some ⟨b0, off, none⟩) l.length lc) (j + 1) 0])
  (fun p => ab.le nf p.1 ∧ bx p.1 (mb (a_ l .whole (j + 1))) (aH (mb (a_ l .whole (j + 1))) p.2.1)) ?_ ?_
 ·rintro ⟨g2, sl, b8, bh⟩ ⟨aD, cO⟩
  simp only at aD cO
  try dsimp only
  have bj := aJ.mono aD
  have uS := b_.mono aD
  obtain ⟨_, aq, _⟩ := cO.args
  obtain ⟨ta, tm, tc, rfl⟩ := au.form aq
  cases uH : a_ l .whole (j + 1) with
  | error p =>
   rw [uH] at hr
   simp only at hr
   unfold sX sY sW
   simp only
   refine wz.g.a.I.g.a.c.t.b.a.I.g.c.e.z ?_; refine mJ 6 rfl rfl rfl rL rL rfl ?_; refine wz.Bz.l.i.b.a.Au.Bh.K.G.c.b.Cc.z ?_
   rw [hr]
   exact ⟨_, x, _, rfl, ⟨_, rfl, uS⟩, Vt, j + 1, oM, rfl⟩
  | ok q =>
   obtain ⟨t, k⟩ := q
   have zX := L8 l _ .whole (j + 1) (t, k) (Nat.lt_succ_self _) oM uH
   have aE0 : j + 1 < k := zX.2 rfl
   have Vv : k ≤ l.length := zX.1
   rw [uH] at hr cO
   simp only at hr
   unfold sX sY sW mb
   simp only
   have qb : bx g2 t (aH t (.slice ta tm tc)) := cO
   refine wz.g.a.a.a.c.d.j.o.b.a.I.g.c.e.z ?_; refine mJ 6 rfl rfl rfl rL rL rfl ?_; refine iV ?_
   refine cD (ι := ab × Nat) (fun p => [(0, ptr b 0), (2, ptr b2 0), (5, ptr b5 0)]) (fun p => p.1)
    (fun p => [.ae b6 47 (nS x (.slice a1 m1 c1) (.slice a2 m2 c2) (.slice a3 m3 c3)), .ae b5 47 ([.int .i64 9, .int .i64 l[i].pos, str [], .int .i64 0, .slice (some ⟨p.2, 0, none⟩) 1 1, .slice none 0 0] ++ aH t (.slice ta tm tc)), .ae b4 118 (jM l[i]), .ae b2 47 dK, dS b (.slice (some ⟨b0, off, none⟩) l.length lc) k 0])
    (fun p => ab.le g2 p.1 ∧ au p.1 11 (.slice (some ⟨p.2, 0, none⟩) 1 1) 1 (nS x (.slice a1 m1 c1) (.slice a2 m2 c2) (.slice a3 m3 c3))) ?_ ?_
   ·rintro ⟨g3, b7⟩ ⟨d_, iE⟩
    simp only at d_ iE
    try dsimp only
    have bY := bj.mono d_
    have hV := FE g3 l[i].pos t iE (uS.mono d_) (qb.mono d_)
    refine kM ?_
    refine bO [4, 3] mixed (fun hG => ?_)
    refine wz.P.z ?_; refine ⟨_, (bP 1 rfl rfl rL), ?_⟩; refine wz.R.z ?_; refine ⟨_, (ag rfl), ?_⟩
    refine wz.AL.z ?_
    refine aG 4 rfl rfl rfl (pU g3 l hb _ bY b k 5 [41]) ?_
    rintro v gw r' ⟨rfl, hv⟩ _
    rcases hv with ⟨hk, rfl, rfl⟩ | ⟨hk, rfl, rfl⟩
    ·refine wz.Bz.i.d.F.f.b.a.AH.f.b.Au.Aw.f.b.z ?_
     rw [show bB l k [41] = true from hk] at hr
     rw [hr]
     have := cF hk
     exact ⟨_, rfl, hV, rfl, oM, oM⟩
    ·refine wz.Bz.i.d.F.f.b.a.AH.f.b.Au.Aw.f.b.z ?_
     rw [show bB l k [41] = false from hk] at hr
     rw [hr]
     exact ⟨_, _, _, rfl, hV, mc _, k, Vv, rfl⟩
   ·intro K hK
    skip
    refine bO [3] mixed (fun hG => ?_)
    refine wz.P.z ?_; refine ⟨_, (bP 2 rfl rfl rL), ?_⟩
    refine wz.S.z ?_; refine ⟨_, (bP 0 rfl rfl rL), ?_⟩; refine wz.X.z ?_; refine ⟨_, (aI rfl), ?_⟩
    refine eH 1 4 kR rfl rfl ?_ ?_
    ·refine bu rfl rfl rL rL rL rL rL (fun b7 => ?_)
     refine bg (fun g3 d_ iE => ?_)
     refine wz.Ad.f.b.Bl.AH.f.b.z ?_; refine ⟨_, (aI rfl), ?_⟩
     refine wz.Aa.f.b.Bl.Ao.z ?_; refine ⟨_, (aI rfl), ?_⟩
     refine wz.d.Cc.F.f.b.Au.Ae.z ?_
     exact hK (g3, b7) _ ⟨d_, iE⟩ ⟨rfl, rfl, rfl, trivial⟩
    ·refine wz.BP.f.b.Bl.z ?_
     refine bu rfl rfl rL rL rL rL rL (fun b7 => ?_)
     refine bg (fun g3 d_ iE => ?_)
     refine wz.Ad.f.b.z ?_; refine ⟨_, (aI rfl), ?_⟩
     refine wz.Aa.f.b.Bl.Ao.z ?_; refine ⟨_, (aI rfl), ?_⟩
     refine wz.d.Cc.F.f.b.Au.Ae.z ?_
     exact hK (g3, b7) _ ⟨d_, iE⟩ ⟨rfl, rfl, rfl, trivial⟩
 ·intro K hK
  skip
  refine bO [] mixed (fun hG => ?_)
  refine wz.P.z ?_; refine ⟨_, (ag rfl), ?_⟩; refine wz.R.z ?_; refine ⟨_, (ag rfl), ?_⟩; refine wz.S.z ?_; refine ⟨_, (aI rfl), ?_⟩; refine wz.X.z ?_; refine ⟨_, (a7 4 rfl rfl rfl), ?_⟩; refine wz.Z.z ?_; refine ⟨_, (ag rfl), ?_⟩; refine wz.Ad.z ?_; refine ⟨_, (ag rfl), ?_⟩; refine wz.Ak.z ?_; refine ⟨_, (aI rfl), ?_⟩; refine wz.Aa.z ?_; refine ⟨_, (a7 4 rfl rfl rfl), ?_⟩
  refine qY 8 13 14 kR rfl rfl rfl ?_ ?_ ?_
  ·refine aB rfl rfl (n_ hb nf cG _ ((j + 1 : Nat) : Int) aJ) ?_
   rintro w g2 cM aD
   rw [jz (show j + 1 ≤ l.length by omega)] at cM
   obtain ⟨tv, rfl, cO⟩ := cM
   obtain ⟨ta, tm, tc, rfl, ht⟩ := cO.bA
   refine wz.Av.f.b.z ?_; refine ⟨_, (ag rfl), ?_⟩; refine wz.Al.z ?_; refine ⟨_, (ag rfl), ?_⟩; refine wz.As.z ?_; refine ⟨_, (ag rfl), ?_⟩; refine wz.Az.z ?_; refine ⟨_, (ag rfl), ?_⟩
   refine eH 13 14 kR rfl rfl ?_ ?_
   ·refine aj rfl (fun b8 => ?_)
    refine wz.AO.f.b.z ?_
    refine aj rfl (fun bh => ?_)
    refine wz.AB.f.b.B.At.f.b.z ?_; refine ⟨_, (ag rfl), ?_⟩
    refine wz.d.AP.F.f.b.q.AG.z ?_
    exact hK (g2, .slice ta tm tc, b8, bh) _ ⟨aD, ht⟩ ⟨rfl, rfl, rfl, rfl, rfl, rfl, rfl, trivial⟩
   ·refine aj rfl (fun bh => ?_)
    refine wz.AJ.f.b.z ?_
    refine aj rfl (fun b8 => ?_)
    refine wz.AB.f.b.q.At.f.b.z ?_; refine ⟨_, (ag rfl), ?_⟩
    refine wz.d.F.f.b.B.AG.z ?_
    exact hK (g2, .slice ta tm tc, b8, bh) _ ⟨aD, ht⟩ ⟨rfl, rfl, rfl, rfl, rfl, rfl, rfl, trivial⟩
  ·refine aj rfl (fun b8 => ?_)
   refine wz.f.b.z ?_
   refine eH 8 14 kR rfl rfl ?_ ?_
   ·refine aB rfl rfl (n_ hb nf cG _ ((j + 1 : Nat) : Int) aJ) ?_
    rintro w g2 cM aD
    rw [jz (show j + 1 ≤ l.length by omega)] at cM
    obtain ⟨tv, rfl, cO⟩ := cM
    obtain ⟨ta, tm, tc, rfl, ht⟩ := cO.bA
    refine wz.Av.f.b.z ?_; refine ⟨_, (ag rfl), ?_⟩; refine wz.Al.z ?_; refine ⟨_, (ag rfl), ?_⟩; refine wz.As.z ?_; refine ⟨_, (ag rfl), ?_⟩; refine wz.Az.z ?_; refine ⟨_, (ag rfl), ?_⟩
    refine wz.AO.z ?_
    refine aj rfl (fun bh => ?_)
    refine wz.AB.f.b.B.At.f.b.z ?_; refine ⟨_, (ag rfl), ?_⟩
    refine wz.d.AP.F.f.b.q.AG.z ?_
    exact hK (g2, .slice ta tm tc, b8, bh) _ ⟨aD, ht⟩ ⟨rfl, rfl, rfl, rfl, rfl, rfl, rfl, trivial⟩
   ·refine aj rfl (fun bh => ?_)
    refine wz.Ae.f.b.z ?_
    refine aB rfl rfl (n_ hb nf cG _ ((j + 1 : Nat) : Int) aJ) ?_
    rintro w g2 cM aD
    rw [jz (show j + 1 ≤ l.length by omega)] at cM
    obtain ⟨tv, rfl, cO⟩ := cM
    obtain ⟨ta, tm, tc, rfl, ht⟩ := cO.bA
    refine wz.Av.f.b.z ?_; refine ⟨_, (ag rfl), ?_⟩; refine wz.Al.z ?_; refine ⟨_, (ag rfl), ?_⟩; refine wz.As.z ?_; refine ⟨_, (ag rfl), ?_⟩; refine wz.Az.z ?_; refine ⟨_, (ag rfl), ?_⟩
    refine wz.AB.f.b.B.At.z ?_; refine ⟨_, (ag rfl), ?_⟩
    refine wz.d.AP.F.f.b.q.AG.z ?_
    exact hK (g2, .slice ta tm tc, b8, bh) _ ⟨aD, ht⟩ ⟨rfl, rfl, rfl, rfl, rfl, rfl, rfl, trivial⟩
  ·refine aj rfl (fun bh => ?_)
   refine wz.f.b.z ?_
   refine eH 8 13 kR rfl rfl ?_ ?_
   ·refine aB rfl rfl (n_ hb nf cG _ ((j + 1 : Nat) : Int) aJ) ?_
    rintro w g2 cM aD
    rw [jz (show j + 1 ≤ l.length by omega)] at cM
    obtain ⟨tv, rfl, cO⟩ := cM
    obtain ⟨ta, tm, tc, rfl, ht⟩ := cO.bA
    refine wz.Av.f.b.z ?_; refine ⟨_, (ag rfl), ?_⟩; refine wz.Al.z ?_; refine ⟨_, (ag rfl), ?_⟩; refine wz.As.z ?_; refine ⟨_, (ag rfl), ?_⟩; refine wz.Az.z ?_; refine ⟨_, (ag rfl), ?_⟩
    refine wz.AJ.z ?_
    refine aj rfl (fun b8 => ?_)
    refine wz.AB.f.b.q.At.f.b.z ?_; refine ⟨_, (ag rfl), ?_⟩
    refine wz.d.F.f.b.B.AG.z ?_
    exact hK (g2, .slice ta tm tc, b8, bh) _ ⟨aD, ht⟩ ⟨rfl, rfl, rfl, rfl, rfl, rfl, rfl, trivial⟩
   ·refine aj rfl (fun b8 => ?_)
    refine wz.Ae.f.b.z ?_
    refine aB rfl rfl (n_ hb nf cG _ ((j + 1 : Nat) : Int) aJ) ?_
    rintro w g2 cM aD
    rw [jz (show j + 1 ≤ l.length by omega)] at cM
    obtain ⟨tv, rfl, cO⟩ := cM
    obtain ⟨ta, tm, tc, rfl, ht⟩ := cO.bA
    refine wz.Av.f.b.z ?_; refine ⟨_, (ag rfl), ?_⟩; refine wz.Al.z ?_; refine ⟨_, (ag rfl), ?_⟩; refine wz.As.z ?_; refine ⟨_, (ag rfl), ?_⟩; refine wz.Az.z ?_; refine ⟨_, (ag rfl), ?_⟩
    refine wz.AB.f.b.q.At.z ?_; refine ⟨_, (ag rfl), ?_⟩
    refine wz.d.F.f.b.B.AG.z ?_
    exact hK (g2, .slice ta tm tc, b8, bh) _ ⟨aD, ht⟩ ⟨rfl, rfl, rfl, rfl, rfl, rfl, rfl, trivial⟩
end
end Go.Proofs.YtlnjfkfojkgiiaaGreatDoor
namespace Go.aZ
open Go Go.RowKit
section
variable {P : Program} {E : Env} {n : Nat} {L : dz} {g : ab} {own : List aA}
variable {d : Nat} {ty : TypeId} {pos : String} {after : Array Edge}
theorem FY {x y : Operand} {T T' t t' : TypeId} {u u' : Value} {r : Bool} (hx : ev L x = some (.iface t u)) (hy : ev L y = some (.iface t' u')) (h : ∀ w, (Op.equal T (.iface t u) (.iface t' u')).run P w = .ok r w) :
  cH P E n L g own ty (.binOp .eql T x y T') (.bool r) := fun a w dst pos after hF _ => by
 simp [execOp, hF.eval hx, hF.eval hy, eqGuard, binOp, h]
theorem Vw {x y : Operand} {T T' t' : TypeId} {u' : Value} {r : Bool} (hx : ev L x = some .nilIface) (hy : ev L y = some (.iface t' u')) (h : ∀ w, (Op.equal T .nilIface (.iface t' u')).run P w = .ok r w) :
  cH P E n L g own ty (.binOp .eql T x y T') (.bool r) := fun a w dst pos after hF _ => by
 simp [execOp, hF.eval hx, hF.eval hy, eqGuard, binOp, h]
end
end Go.aZ
namespace Go.Proofs.YtlnjfkfojkgiiaaGreatDoor
open Go Go.aZ Go.Th Go.Proofs Go.Extern Go.RowKit
instance : Ext prog 284 (ReflectliteType.method fun t => do Rtype.noPackHeld "Comparable" t; pure (.bool (← typeInfo t).comparable)) := ⟨_, func284, kR, kR, kR, kR⟩
theorem Mb (v : Value) (w : World) : (ReflectliteType.typeOf #[.iface 182 v]).run prog w = .ok (nA 182) w := by kernel_rfl
theorem Mc (h : Value) (w : World) : (Go.method (prog.types.size + Made.depth) 241 (.agg #[h]) "Comparable").run prog w = .ok (284, .agg #[h]) w := by kernel_rfl
theorem Md (w : World) : (ReflectliteType.method (fun t => do Rtype.noPackHeld "Comparable" t; pure (.bool (← typeInfo t).comparable)) #[.agg #[jY 182]]).run prog w = .ok (.bool true) w := by kernel_rfl
theorem Vx (s : Value) (w : World) : (Op.equal 131 (.iface 292 (.agg #[s])) (.iface 182 (.agg #[]))).run prog w = .ok false w := by kernel_rfl
theorem Me (w : World) : (Op.equal 131 (.iface 182 (.agg #[])) (.iface 182 (.agg #[]))).run prog w = .ok true w := by kernel_rfl
theorem Vy (w : World) : (Op.equal 131 .nilIface (.iface 182 (.agg #[]))).run prog w = .ok false w := by kernel_rfl
theorem Vz (s : Value) (w : World) : (Go.method (prog.types.size + Made.depth) 292 (.agg #[s]) "Unwrap").run prog w = .ok (294, .agg #[s]) w := by kernel_rfl
theorem VA (v : Value) (w : World) : (Instr.typeAssert (.iface 292 v) 131 265 true).run prog w = .ok (.tuple #[.nilIface, .bool false]) w :=
 run_typeAssert_lacksB underlying265 kR kR v _ w
theorem VB (v : Value) (w : World) : (Instr.typeAssert (.iface 292 v) 131 248 true).run prog w = .ok (.tuple #[.iface 292 v, .bool true]) w :=
 run_typeAssert_hasB underlying248 kR v _ w
theorem VC (g : ab) (w : Bytes) : Pure prog 294 [.agg #[str w]] g nZ := by
 refine aw func294 rfl ntmps294 rfl fun E hE => ?_
 refine aS ?_
 refine aP rfl rfl rfl (fun b1 => ?_)
 refine wz.i.b.a.Bh.K.c.b.a.z ?_
 exact ao [] rfl rfl sM ⟨rfl, rfl, rfl⟩
theorem VD (g : ab) : Pure prog 165 [nZ, nZ, .bool true] g (.bool true) := by
 refine aw func165 rfl ntmps165 rfl fun E hE => ?_
 refine wz.p.b.a.c.z ?_
 refine aX (ι := Unit) (fun _ => [(0, nZ), (1, nZ), (2, .bool true)]) (fun _ => g) (fun _ => []) (fun _ => True) (fun _ => 0) () trivial ⟨rfl, rfl, rfl, trivial⟩ rfl rfl ?_
 rintro _ -
 refine wz.k.u.u.a.a.c.e.p.z ?_; refine cX rfl (FY rfl rfl Me) ?_; refine wz.x.l.x.l.i.b.a.c.t.b.a.z ?_
 exact ao [] rfl rfl sM ⟨rfl, rfl, rfl⟩
theorem VE (g : ab) (s : Bytes) : Pure prog 165 [uE s, nZ, .bool true] g (.bool true) := by
 refine aw func165 rfl ntmps165 rfl fun E hE => ?_
 refine wz.p.b.a.c.z ?_
 refine aX (ι := Bool) (fun c => [(0, if c then nZ else uE s), (1, nZ), (2, .bool true)]) (fun _ => g) (fun _ => []) (fun _ => True) (fun c => if c then 0 else 1) false trivial ⟨rfl, rfl, rfl, trivial⟩ rfl rfl ?_
 rintro c -
 cases c with
 | false =>
  try dsimp only
  refine wz.k.u.u.a.a.c.e.p.z ?_; refine cX rfl (FY rfl rfl (Vx _)) ?_; refine wz.a.c.e.d.j.o.b.a.z ?_; refine cX rfl (zQ rfl (VA _)) ?_; refine wz.c.p.b.a.c.d.j.o.b.a.h.h.h.a.a.c.b.a.a.a.a.a.z ?_; refine cX rfl (zQ rfl (VB _)) ?_; refine wz.a.c.b.a.c.t.b.a.a.z ?_
  refine LX rfl rfl rfl (Vz _) (VC g s) ?_
  refine wz.d.y.y.j.o.b.Bt.a.c.b.a.z ?_
  exact aM true trivial dC ⟨rfl, rfl, rfl, trivial⟩ rfl rfl
 | true =>
  try dsimp only
  refine wz.k.u.u.a.a.c.e.p.z ?_; refine cX rfl (FY rfl rfl Me) ?_; refine wz.x.l.x.l.i.b.a.c.t.b.a.z ?_
  exact ao [] rfl rfl sM ⟨rfl, rfl, rfl⟩
theorem VF (g : ab) : Pure prog 129 [.nilIface, nZ] g (.bool false) := by
 refine aw func129 rfl ntmps129 rfl fun E hE => ?_
 refine wz.a.c.e.b.a.c.z ?_; refine zS rfl rfl <| wz.a.a.c.t.b.a.h.h.a.z ?_; refine cX rfl (Vw rfl rfl Vy) ?_; refine wz.l.i.b.a.z ?_
 exact ao [] rfl rfl sM ⟨rfl, rfl, rfl⟩
theorem VG (g : ab) (v : Value) (hv : p_ v) : Pure prog 129 [v, nZ] g (.bool true) := by
 obtain ⟨t, u, rfl, ⟨rfl, s, rfl⟩ | ⟨rfl, rfl⟩⟩ := hv
 ·refine aw func129 rfl ntmps129 rfl fun E hE => ?_
  refine wz.a.c.d.j.o.b.a.Bt.k.u.a.Bt.a.c.e.b.a.c.z ?_; refine cX rfl (uF rfl (Mb _)) ?_
  skip
  refine cX rfl (qV rfl rfl (Mc _) Md) ?_; refine wz.a.a.a.c.b.a.z ?_
  refine aO rfl rfl (VE g s) ?_
  refine wz.i.b.a.z ?_
  exact ao [] rfl rfl sM ⟨rfl, rfl, rfl⟩
 ·refine aw func129 rfl ntmps129 rfl fun E hE => ?_
  refine wz.a.c.d.j.o.b.a.Bt.k.u.a.Bt.a.c.e.b.a.c.z ?_; refine cX rfl (uF rfl (Mb _)) ?_
  skip
  refine cX rfl (qV rfl rfl (Mc _) Md) ?_; refine wz.a.a.a.c.b.a.z ?_
  refine aO rfl rfl (VD g) ?_
  refine wz.i.b.a.z ?_
  exact ao [] rfl rfl sM ⟨rfl, rfl, rfl⟩
section
variable {l : List Tok} (hb : TB l) (bI : KW l) (m : Nat) (lv : Value) (b : Nat)
 (hX : ∀ g i, fN g → cg g lv l → i ≤ l.length → l.length - i < m → cR prog 100 [ptr b 0] g (dS b lv i 0) (lM l i b lv (bt l .expr i)))
include hb bI hX
theorem VH (g : ab) (i : Nat) (hg : fN g) (hs : cg g lv l) (hi : i ≤ l.length) (hm : l.length - i < m + 1) :
  cR prog 100 [ptr b 0] g (dS b lv i 0) (lM l i b lv (bt l .expr i)) := by
 have dh := hb.1
 have hr := jy l .expr i
 simp only [dM] at hr
 refine aw func100 rfl ntmps100 rfl fun E hE => ?_
 refine aS ?_
 refine aj rfl (fun b2 => ?_)
 refine wz.a.c.b.a.z ?_
 refine eo 1 rfl rfl rfl (KL g l lv hs b i 0) ?_
 refine wz.K.z ?_
 refine aj rfl (fun b4 => ?_)
 refine wz.a.c.p.e.b.q.z ?_
 refine aG 2 rfl rfl rfl (sG g l hb lv hs b i 0 5 [92]) ?_
 rintro v g1 r' ⟨rfl, rfl, rfl⟩ _
 rw [show df l i 5 [92] = bB l i [92] from rfl]
 cases h1 : bB l i [92] with
 | true =>
  have hlt := cF h1
  rw [h1] at hr
  simp only [if_true] at hr ⊢
  have dA : bt l .expr i = zT l (posOf l i) (i + 1) := hr
  refine wz.G.a.c.b.Ac.g.c.t.b.a.z ?_
  refine aG 2 rfl rfl rfl (Vb hb m lv b hX g1 (i + 1) hg hs hlt oM (posOf l i)) ?_
  rintro v g2 r' hw hle
  rw [← dA] at hw
  cases hq : bt l .expr i with
  | error p =>
   rw [hq] at hw
   obtain ⟨ev, e, er, rfl, he, gh, j, hj, rfl⟩ := hw
   obtain ⟨a1, m1, c1, a2, m2, c2, a3, m3, c3, rfl, b_⟩ := he.form
   refine wz.Bc.l.x.i.b.a.B.a.a.z ?_
   exact ⟨_, e, _, rfl, ⟨_, rfl, b_⟩, gh, j, hj, rfl⟩
  | ok q =>
   obtain ⟨e, j⟩ := q
   rw [hq] at hw
   obtain ⟨ev, rfl, he, rfl, ik, cE⟩ := hw
   obtain ⟨a1, m1, c1, a2, m2, c2, a3, m3, c3, rfl, b_⟩ := he.form
   refine wz.Bc.l.x.i.b.a.B.a.a.z ?_
   exact ⟨_, rfl, ⟨_, rfl, b_⟩, rfl, oM, cE⟩
 | false =>
 rw [h1] at hr
 simp only [Bool.false_eq_true, if_false] at hr ⊢
 refine wz.a.c.o.b.a.z ?_
 refine aG 2 rfl rfl rfl (sG g1 l hb lv hs b i 0 4 dI) ?_
 rintro v g1 r' ⟨rfl, rfl, rfl⟩ _
 rw [show df l i 4 dI = cA l i dI from rfl]
 cases h2 : cA l i dI with
 | true =>
  have hlt := cF h2
  rw [h2] at hr
  simp only [if_true] at hr ⊢
  refine wz.a.c.e.b.Ac.g.c.t.b.a.z ?_
  refine aG 2 rfl rfl rfl (sG g1 l hb lv hs b (i + 1) 0 4 fy) ?_
  rintro v g1 r' ⟨rfl, rfl, rfl⟩ _
  rw [show df l (i + 1) 4 fy = cA l (i + 1) fy from rfl]
  cases h3 : cA l (i + 1) fy with
  | true =>
   have dk := cF h3
   rw [h3] at hr
   simp only [if_true] at hr ⊢
   refine wz.G.a.c.b.Ac.g.r.t.b.z ?_
   refine aG 2 rfl rfl rfl (L2 hb m lv b hX g1 (i + 2) hg hs dk oM 7 (posOf l i)) ?_
   rintro v g2 r' hw hle
   rw [← hr] at hw
   cases hq : bt l .expr i with
   | error p =>
    rw [hq] at hw
    obtain ⟨ev, e, er, rfl, he, gh, j, hj, rfl⟩ := hw
    obtain ⟨a1, m1, c1, a2, m2, c2, a3, m3, c3, rfl, b_⟩ := he.form
    refine wz.Bc.l.x.i.b.a.B.a.a.z ?_
    exact ⟨_, e, _, rfl, ⟨_, rfl, b_⟩, gh, j, hj, rfl⟩
   | ok q =>
    obtain ⟨e, j⟩ := q
    rw [hq] at hw
    obtain ⟨ev, rfl, he, rfl, ik, cE⟩ := hw
    obtain ⟨a1, m1, c1, a2, m2, c2, a3, m3, c3, rfl, b_⟩ := he.form
    refine wz.Bc.l.x.i.b.a.B.a.a.z ?_
    exact ⟨_, rfl, ⟨_, rfl, b_⟩, rfl, oM, cE⟩
  | false =>
   rw [h3] at hr
   simp only [Bool.false_eq_true, if_false] at hr ⊢
   refine wz.G.a.c.d.j.o.b.z ?_
   refine aG 2 rfl rfl rfl (L2 hb m lv b hX g1 (i + 1) hg hs hlt oM 6 (posOf l i)) ?_
   rintro v g2 r' hw hle
   rw [← hr] at hw
   cases hq : bt l .expr i with
   | error p =>
    rw [hq] at hw
    obtain ⟨ev, e, er, rfl, he, gh, j, hj, rfl⟩ := hw
    obtain ⟨a1, m1, c1, a2, m2, c2, a3, m3, c3, rfl, b_⟩ := he.form
    refine wz.Bc.l.x.i.b.a.B.a.a.z ?_
    exact ⟨_, e, _, rfl, ⟨_, rfl, b_⟩, gh, j, hj, rfl⟩
   | ok q =>
    obtain ⟨e, j⟩ := q
    rw [hq] at hw
    obtain ⟨ev, rfl, he, rfl, ik, cE⟩ := hw
    obtain ⟨a1, m1, c1, a2, m2, c2, a3, m3, c3, rfl, b_⟩ := he.form
    refine wz.Bc.l.x.i.b.a.B.a.a.z ?_
    exact ⟨_, rfl, ⟨_, rfl, b_⟩, rfl, oM, cE⟩
 | false =>
 rw [h2] at hr
 simp only [Bool.false_eq_true, if_false] at hr ⊢
 refine wz.a.c.o.b.a.z ?_
 refine aG 2 rfl rfl rfl (sG g1 l hb lv hs b i 0 4 kC) ?_
 rintro v g1 r' ⟨rfl, rfl, rfl⟩ _
 rw [show df l i 4 kC = cA l i kC from rfl]
 cases h3 : cA l i kC with
 | true =>
  have hlt := cF h3
  rw [h3] at hr
  simp only [if_true] at hr ⊢
  have dA : bt l .expr i = m_ l (posOf l i) (i + 1) := hr
  refine wz.G.a.c.b.Ac.g.c.t.b.a.z ?_
  refine aG 2 rfl rfl rfl (Vi hb m lv b hX g1 (i + 1) hg hs hlt oM (posOf l i)) ?_
  rintro v g2 r' hw hle
  rw [← dA] at hw
  cases hq : bt l .expr i with
  | error p =>
   rw [hq] at hw
   obtain ⟨ev, e, er, rfl, he, gh, j, hj, rfl⟩ := hw
   obtain ⟨a1, m1, c1, a2, m2, c2, a3, m3, c3, rfl, b_⟩ := he.form
   refine wz.Bc.l.x.i.b.a.B.a.a.z ?_
   exact ⟨_, e, _, rfl, ⟨_, rfl, b_⟩, gh, j, hj, rfl⟩
  | ok q =>
   obtain ⟨e, j⟩ := q
   rw [hq] at hw
   obtain ⟨ev, rfl, he, rfl, ik, cE⟩ := hw
   obtain ⟨a1, m1, c1, a2, m2, c2, a3, m3, c3, rfl, b_⟩ := he.form
   refine wz.Bc.l.x.i.b.a.B.a.a.z ?_
   exact ⟨_, rfl, ⟨_, rfl, b_⟩, rfl, oM, cE⟩
 | false =>
 rw [h3] at hr
 simp only [Bool.false_eq_true, if_false] at hr ⊢
 have dA : bt l .expr i = qW l i := hr
 refine wz.a.c.d.y.j.o.b.a.z ?_
 refine aG 2 rfl rfl rfl (Vl hb m lv b (fun g i => Vu hb bI m lv b hX g i) g1 i hg hs hi hm) ?_
 rintro v g2 r' hw hle
 rw [← dA] at hw
 cases hq : bt l .expr i with
 | error p =>
  rw [hq] at hw
  obtain ⟨ev, e, er, rfl, he, gh, j, hj, rfl⟩ := hw
  obtain ⟨a1, m1, c1, a2, m2, c2, a3, m3, c3, rfl, b_⟩ := he.form
  refine wz.Bc.i.b.a.B.a.a.z ?_
  exact ⟨_, e, _, rfl, ⟨_, rfl, b_⟩, gh, j, hj, rfl⟩
 | ok q =>
  obtain ⟨e, j⟩ := q
  rw [hq] at hw
  obtain ⟨ev, rfl, he, rfl, ik, cE⟩ := hw
  obtain ⟨a1, m1, c1, a2, m2, c2, a3, m3, c3, rfl, b_⟩ := he.form
  refine wz.Bc.i.b.a.B.a.a.z ?_
  exact ⟨_, rfl, ⟨_, rfl, b_⟩, rfl, oM, cE⟩
end
theorem Mf {l : List Tok} (hb : TB l) (bI : KW l) (lv : Value) (b : Nat) : ∀ m : Nat, ∀ g i, fN g → cg g lv l → i ≤ l.length → l.length - i < m → cR prog 100 [ptr b 0] g (dS b lv i 0) (lM l i b lv (bt l .expr i))
 | 0 => fun _ _ _ _ _ h => by omega
 | m + 1 => fun g i => VH hb bI m lv b (Mf hb bI lv b m) g i
theorem VI {l : List Tok} (hb : TB l) (bI : KW l) (lv : Value) (b : Nat) (g : ab) (i : Nat) (hg : fN g) (hs : cg g lv l) (hi : i ≤ l.length) : cR prog 100 [ptr b 0] g (dS b lv i 0) (lM l i b lv (bt l .expr i)) := Mf hb bI lv b _ g i hg hs hi (Nat.lt_succ_self _)
def pk : ER → Ex
 | .ok (t, _) => t
 | .error _ => pQ
def Mg : ER → Int
 | .ok (_, j) => j
 | .error _ => 0
def Mh : ER → Int
 | .ok _ => 0
 | .error _ => 3
def Mi : ER → Int
 | .ok _ => 0
 | .error p => p
def VJ (r : ER) (v : Value) (g' : ab) : Prop := ∃ tv, v = .tuple #[tv, .int .i64 (Mg r), .agg #[.int .i64 (Mh r), .int .i64 (Mi r)]] ∧ cT g' tv (pk r)
theorem VK (g : ab) (lv : Value) (b i : Nat) (tv : Value) (t : Ex) (ht : cT g tv t) : lB prog 99 [ptr b 0, tv, .nilIface] g (dS b lv i 0) (.tuple #[tv, .int .i64 i, .agg #[.int .i64 0, .int .i64 0]]) := by
 obtain ⟨a1, m1, c1, a2, m2, c2, a3, m3, c3, rfl, ht⟩ := ht.form
 refine aw func99 rfl ntmps99 rfl fun E hE => ?_
 refine aS ?_
 refine aP rfl rfl rfl (fun b4 => ?_)
 refine aj rfl (fun b6 => ?_)
 refine wz.a.z ?_
 refine aj rfl (fun b8 => ?_)
 refine wz.Bh.K.a.c.e.b.z ?_
 refine aO rfl rfl (VF g) ?_
 refine wz.e.d.j.o.b.z ?_
 refine bO [1, 0] mixed (fun hG => ?_)
 refine wz.P.z ?_; refine ⟨_, (bP 0 rfl rfl rL), ?_⟩; refine wz.R.z ?_; refine ⟨_, (ag rfl), ?_⟩; refine wz.S.z ?_; refine ⟨_, (ag rfl), ?_⟩; refine wz.X.z ?_; refine ⟨_, (aI rfl), ?_⟩; refine wz.Z.z ?_; refine ⟨_, (a7 1 rfl rfl rfl), ?_⟩; refine wz.Ad.z ?_; refine ⟨_, (et rfl rL), ?_⟩
 refine wz.i.d.F.f.b.q.Ae.f.b.a.AM.f.b.B.Ao.z ?_
 exact eO [_] rfl (ay 1 rfl rfl rL) (.tmp rfl) (ay 0 rfl rfl rL) sC ⟨rfl, rfl, rfl⟩
theorem VL (g : ab) (lv : Value) (b j : Nat) (p : Int) (tv er : Value) (t : Ex) (ht : cT g tv t) (he : p_ er) : lB prog 99 [ptr b 0, tv, er] g (dS b lv j p) (.tuple #[Mj, .int .i64 0, .agg #[.int .i64 3, .int .i64 p]]) := by
 obtain ⟨a1, m1, c1, a2, m2, c2, a3, m3, c3, rfl, ht⟩ := ht.form
 refine aw func99 rfl ntmps99 rfl fun E hE => ?_
 refine aS ?_
 refine aP rfl rfl rfl (fun b4 => ?_)
 refine aj rfl (fun b6 => ?_)
 refine wz.a.z ?_
 refine aj rfl (fun b8 => ?_)
 refine wz.Bh.K.a.c.e.b.z ?_
 refine aO rfl rfl (VG g er he) ?_
 refine wz.e.t.b.z ?_
 refine bO [1, 0] mixed (fun hG => ?_)
 refine wz.P.z ?_; refine ⟨_, (et rfl rL), ?_⟩; refine wz.R.z ?_; refine ⟨_, (ag rfl), ?_⟩; refine wz.S.z ?_; refine ⟨_, (ag rfl), ?_⟩; refine wz.X.z ?_; refine ⟨_, (aI rfl), ?_⟩; refine wz.Z.z ?_; refine ⟨_, (a7 1 rfl rfl rfl), ?_⟩; refine wz.Ad.z ?_; refine ⟨_, (et rfl rL), ?_⟩
 refine wz.l.i.d.F.f.b.q.Ae.f.b.a.AM.f.b.B.Ao.z ?_
 exact eO [_] rfl (ay 1 rfl rfl rL) (.tmp rfl) (ay 0 rfl rfl rL) sC ⟨rfl, rfl, rfl⟩
theorem wX {l : List Tok} (hb : TB l) (bI : KW l) (g : ab) (hg : fN g) (v : Value) (i : Int) (hs : cg g v l) : bK prog 70 [v, .int .i64 i] g (VJ (bt l .expr (idxOf l.length i))) := by
 have hi : idxOf l.length i ≤ l.length := by unfold idxOf; split <;> omega
 refine aw func70 rfl ntmps70 rfl fun E hE => ?_
 refine aS ?_
 refine aj rfl (fun b4 => ?_)
 refine wz.a.z ?_
 refine aj rfl (fun b6 => ?_)
 refine wz.a.a.c.b.z ?_
 refine jN (lent := []) (kept := _) rfl rfl (List.Perm.refl _) (TY g l v hs i) ?_
 rintro w g1 own' ⟨rfl, b, rfl, rfl⟩ _
 refine wz.a.a.c.b.a.z ?_
 refine aG 0 rfl rfl rfl (VI hb bI v b g1 _ hg hs hi) ?_
 rintro w g2 r' hw hle
 cases hq : bt l .expr (idxOf l.length i) with
 | error p =>
  rw [hq] at hw
  obtain ⟨ev, e, er, rfl, he, gh, j, hj, rfl⟩ := hw
  refine wz.a.a.z ?_
  refine eo 0 rfl rfl rfl (VL g2 v b j p _ _ e he gh) ?_
  refine wz.i.b.B.a.V.a.a.a.z ?_
  exact eO [] rfl (ay 2 rfl rfl rL) (.tmp rfl) (ay 1 rfl rfl rL) sM ⟨⟨_, rfl, FX _⟩, rfl⟩
 | ok q =>
  obtain ⟨t, j⟩ := q
  rw [hq] at hw
  obtain ⟨ev, rfl, he, rfl, ik, cE⟩ := hw
  have VM := he
  obtain ⟨a1, m1, c1, a2, m2, c2, a3, m3, c3, rfl, b_⟩ := VM.form
  refine wz.a.a.z ?_
  refine eo 0 rfl rfl rfl (VK g2 v b j _ t he) ?_
  refine wz.i.b.B.a.V.a.a.a.z ?_
  exact eO [] rfl (ay 2 rfl rfl rL) (.tmp rfl) (ay 1 rfl rfl rL) sM ⟨⟨_, rfl, ⟨_, rfl, b_⟩⟩, rfl⟩
instance : VN prog 33 := ⟨kR⟩
theorem Mk (s : Bytes) : TB (kV s) := by
 obtain ⟨h1, h2⟩ := ux s
 refine ⟨oM, fun t ht => ?_⟩
 obtain ⟨a1, a2, a3, a4⟩ := h2 t ht
 exact ⟨oM, oM, oM⟩
theorem Ml (s : Bytes) : KW (kV s) := fun t ht => ((ux s).2 t ht).1
def ints (l : List Int) : List Value := l.map (Value.int .i64)
theorem me {g : ab} {ks : List Ex} {xa : List Value} {b off : Nat} (ht : dp g ks xa) (hx : ∀ k x, xa[k]? = some x → g b (off + k) = some x) {i : Nat} (h : i < ks.length) :
  ∃ c, cJ g ks[i] c ∧ ∀ own, Rd g own b (off + i * 11) c := by
 obtain ⟨c, h1, h2⟩ := aL.get (fun _ _ h => h.one.1) (mw.1 ht) i h
 exact ⟨c, h1, fun own => nc fun j x hj => by rw [Nat.add_assoc]; exact hx _ _ (h2 j x hj)⟩
end Go.Proofs.YtlnjfkfojkgiiaaGreatDoor

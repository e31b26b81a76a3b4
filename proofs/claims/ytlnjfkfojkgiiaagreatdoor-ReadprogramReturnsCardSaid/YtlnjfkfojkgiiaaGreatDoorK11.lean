/- Programs in plain words: how deep an expression is, the first arm with too many variables, the first limit that a program passes; what is read keeps types to annotations. No program in sight. -/
import Derived.Test.YtlnjfkfojkgiiaaGreatDoorK10
open Go Go.aZ Go.Th Go.Proofs Tryz
set_option maxRecDepth 10000
set_option maxHeartbeats 4000000
attribute [local irreducible] wpList Code.wp ah bodyPost Go.aZ.Ends Exit.then Exit.inBlock dJ Wq Kq
namespace Go.Th
mutual
def jK : Ex → Nat
 | .mk _ _ _ _ ks ra _ => max (hJ ks) (nT ra)
def hJ : List Ex → Nat
 | [] => 0
 | a :: r => max (1 + jK a) (hJ r)
def rZ : Ar → Nat
 | .mk _ _ _ b => jK b
def nT : List Ar → Nat
 | [] => 0
 | a :: r => max (1 + rZ a) (nT r)
end
mutual
def lp : Ex → Bool
 | .mk _ _ _ _ ks ra t => decide (40 < cu t) || (iN ks || qH ra)
def iN : List Ex → Bool
 | [] => false
 | a :: r => lp a || iN r
def wq : Ar → Bool
 | .mk _ _ _ b => lp b
def qH : List Ar → Bool
 | [] => false
 | a :: r => wq a || qH r
end
def kv : List Ar → Option Int
 | [] => none
 | a :: r => if 4 < a.vars.length then some a.pos else kv r
mutual
def hO : Ex → Option Int
 | .mk _ _ _ _ ks ra _ => (kv ra).or ((gU ks).or (qI ra))
def gU : List Ex → Option Int
 | [] => none
 | a :: r => (hO a).or (gU r)
def wu : Ar → Option Int
 | .mk _ _ _ b => hO b
def qI : List Ar → Option Int
 | [] => none
 | a :: r => (wu a).or (qI r)
end
theorem zp : ∀ (x y : List Ex), hJ (x ++ y) = max (hJ x) (hJ y)
 | [], y => by simp [hJ]
 | a :: x, y => by simp only [List.cons_append, hJ, zp x y]; omega
theorem JU : ∀ x : List Ar, nT x = hJ (x.map Ar.body)
 | [] => by simp [nT, hJ]
 | .mk p c v b :: x => by simp only [List.map_cons, nT, hJ, JU x, rZ, Ar.body]
theorem JV (e : Ex) : jK e = hJ (aY e) := by
 cases e; simp only [aY, Ex.kids, Ex.aK, jK, zp, JU]
theorem JW {l : List Ex} {i : Nat} (h : i < l.length) : hJ (l.take (i + 1)) = max (hJ (l.take i)) (1 + jK l[i]) := by
 rw [List.take_succ_eq_append_getElem h, zp]
 simp [hJ]
theorem JX (l : List Ex) (i : Nat) : hJ (l.take i) ≤ hJ l := by
 have := zp (l.take i) (l.drop i)
 rw [List.take_append_drop] at this
 omega
mutual
theorem zq : ∀ e : Ex, jK e ≤ aN e
 | .mk _ _ _ _ ks ra _ => by
  have h1 := JY ks
  have h2 := JZ ra
  simp only [jK, aN]; omega
theorem JY : ∀ l : List Ex, hJ l ≤ cd l + 1
 | [] => by simp [hJ]
 | a :: r => by
  have h1 := zq a
  have h2 := JY r
  simp only [hJ, cd]; omega
theorem SZ : ∀ a : Ar, rZ a + 1 ≤ hY a
 | .mk _ _ _ b => by
  have h1 := zq b
  simp only [rZ, hY]; omega
theorem JZ : ∀ l : List Ar, nT l ≤ bZ l
 | [] => by simp [nT]
 | a :: r => by
  have h1 := SZ a
  have h2 := JZ r
  simp only [nT, bZ]; omega
end
theorem J0 : ∀ (x y : List Ex), iN (x ++ y) = (iN x || iN y)
 | [], y => by simp [iN]
 | a :: x, y => by simp only [List.cons_append, iN, J0 x y, Bool.or_assoc]
theorem J1 : ∀ x : List Ar, qH x = iN (x.map Ar.body)
 | [] => by simp [qH, iN]
 | .mk p c v b :: x => by simp only [List.map_cons, qH, iN, J1 x, wq, Ar.body]
theorem J2 (e : Ex) : lp e = (decide (40 < cu e.ty) || iN (aY e)) := by
 cases e; simp only [aY, Ex.kids, Ex.aK, Ex.ty, lp, J0, J1]; rfl
theorem S6 {l : List Ex} {i : Nat} (h : i < l.length) : iN (l.drop i) = (lp l[i] || iN (l.drop (i + 1))) := by
 rw [List.drop_eq_getElem_cons h, iN]
theorem J3 : ∀ (x y : List Ex), gU (x ++ y) = (gU x).or (gU y)
 | [], y => by simp [gU]
 | a :: x, y => by simp only [List.cons_append, gU, J3 x y, Option.or_assoc]
theorem J4 : ∀ x : List Ar, qI x = gU (x.map Ar.body)
 | [] => by simp [qI, gU]
 | .mk p c v b :: x => by simp only [List.map_cons, qI, gU, J4 x, wu, Ar.body]
theorem J5 (e : Ex) : hO e = (kv e.aK).or (gU (aY e)) := by
 cases e; simp only [aY, Ex.kids, Ex.aK, hO, J3, J4]
theorem J6 {l : List Ex} {i : Nat} (h : i < l.length) : gU (l.drop i) = (hO l[i]).or (gU (l.drop (i + 1))) := by
 rw [List.drop_eq_getElem_cons h, gU]
theorem J7 {l : List Ar} {i : Nat} (h : i < l.length) : kv (l.drop i) = if 4 < l[i].vars.length then some l[i].pos else kv (l.drop (i + 1)) := by
 rw [List.drop_eq_getElem_cons h, kv]
def kT (e : Ex) : Bool := decide (40 < jK e) || lp e
def lq : List Cn → Option Int
 | [] => none
 | c :: r => if 4 < c.fields.length then some c.pos else lq r
def l0 : Nat → List Da → Option Int
 | _, [] => none
 | i, d :: r => if 8 ≤ i ∨ 4 < d.params.length ∨ 6 < d.cons.length then some d.pos else (lq d.cons).or (l0 (i + 1) r)
theorem J8 {l : List Cn} {i : Nat} (h : i < l.length) : lq (l.drop i) = if 4 < l[i].fields.length then some l[i].pos else lq (l.drop (i + 1)) := by
 rw [List.drop_eq_getElem_cons h, lq]
theorem J9 {l : List Da} {i : Nat} (h : i < l.length) : l0 i (l.drop i) = if 8 ≤ i ∨ 4 < l[i].params.length ∨ 6 < l[i].cons.length then some l[i].pos else (lq l[i].cons).or (l0 (i + 1) (l.drop (i + 1))) := by
 rw [List.drop_eq_getElem_cons h, l0]
def EX (l : List Bi) (i : Nat) : Int := match l[i]? with
 | some b => b.pos
 | none => 0
def jL (p : Pg) : Option Int := (l0 0 p.al).or (if 16 < p.binds.length then some (EX p.binds 16) else none)
def oW (l : List Ty) : Bool := l.any fun t => decide (40 < cu t)
def l3 (l : List Cn) : Bool := l.any fun c => oW c.fields
def kx : List Da → Option Int
 | [] => none
 | d :: r => if l3 d.cons then some d.pos else kx r
theorem J_ {l : List Da} {i : Nat} (h : i < l.length) : kx (l.drop i) = if l3 l[i].cons then some l[i].pos else kx (l.drop (i + 1)) := by
 rw [List.drop_eq_getElem_cons h, kx]
theorem Ka {l : List Cn} {i : Nat} (h : i < l.length) : l3 (l.drop i) = (oW l[i].fields || l3 (l.drop (i + 1))) := by
 rw [List.drop_eq_getElem_cons h, l3, List.any_cons]; rfl
theorem S7 {l : List Ty} {i : Nat} (h : i < l.length) : oW (l.drop i) = (decide (40 < cu l[i]) || oW (l.drop (i + 1))) := by
 rw [List.drop_eq_getElem_cons h, oW, List.any_cons]; rfl
def iz : List Bi → Option (Int × Int)
 | [] => none
 | b :: r => if decide (40 < cu b.sig) || kT b.body then some (4, b.pos) else ((hO b.body).map fun q => (5, q)).or (iz r)
theorem Kb {l : List Bi} {i : Nat} (h : i < l.length) : iz (l.drop i) = if decide (40 < cu l[i].sig) || kT l[i].body then some (4, l[i].pos) else ((hO l[i].body).map fun q => (5, q)).or (iz (l.drop (i + 1))) := by
 rw [List.drop_eq_getElem_cons h, iz]
def fH (p : Pg) : Int × Int := match jL p with
 | some q => (5, q)
 | none => match kx p.al with
  | some q => (4, q)
  | none => (iz p.binds).getD (0, 0)
inductive dP (M : Nat) : Ex → Prop where
 | mk (e : Ex) (h1 : e.kind ≠ 9 → cu e.ty = 0) (h2 : cu e.ty ≤ M) (hc : ∀ c ∈ aY e, dP M c) : dP M e
theorem dP.p1 {M : Nat} {e : Ex} (h : dP M e) : e.kind ≠ 9 → cu e.ty = 0 := by cases h; assumption
theorem dP.p2 {M : Nat} {e : Ex} (h : dP M e) : cu e.ty ≤ M := by cases h; assumption
theorem dP.p3 {M : Nat} {e : Ex} (h : dP M e) : ∀ c ∈ aY e, dP M c := by cases h; assumption
theorem pR : cu bX = 0 := by simp [bX, cu, eX]
theorem dP.leaf (M : Nat) (k p : Int) (n : Bytes) (m : Int) : dP M (cN k p n m) := .mk _ (fun _ => pR) (by show cu bX ≤ M; rw [pR]; omega) (fun c h => by simp [aY, cN, Ex.kids, Ex.aK] at h)
theorem dP.kids {M : Nat} (k p : Int) (n : Bytes) {ks : List Ex} (h : ∀ c ∈ ks, dP M c) : dP M (bC k p n ks) := .mk _ (fun _ => pR) (by show cu bX ≤ M; rw [pR]; omega) (fun c hc => by simp [aY, bC, Ex.kids, Ex.aK] at hc; exact h c hc)
theorem dP.iY {M : Nat} (p : Int) {e : Ex} {t : Ty} (h : dP M e) (ht : cu t ≤ M) : dP M (h_ p e t) := .mk _ (fun hk => absurd rfl hk) ht (fun c hc => by simp [aY, h_, Ex.kids, Ex.aK] at hc; rw [hc]; exact h)
theorem dP.case {M : Nat} (p : Int) {e : Ex} {ra : List Ar} (h : dP M e) (ha : ∀ a ∈ ra, dP M a.body) : dP M (eS p e ra) := .mk _ (fun _ => pR) (by show cu bX ≤ M; rw [pR]; omega) (fun c hc => by
 simp only [aY, eS, Ex.kids, Ex.aK, List.mem_append, List.mem_singleton, List.mem_map] at hc
 rcases hc with rfl | ⟨a, h1, rfl⟩
 ·exact h
 ·exact ha a h1)
theorem EY (l : List Tok) : ∀ (N : Nat) (q : TQ) (i : Nat) (t : Ty) (j : Nat), dD l q i < N → a_ l q i = .ok (t, j) → match q with
  | .args _ acc => cu t ≤ max (eX acc) (1 + (j - i))
  | _ => cu t ≤ j - i
 | 0, _, _, _, _, h, _ => by omega
 | N + 1, q, i, t, j, hN, h => by
  have ih := EY l N
  have r7 := fun q i x h => nU l _ q i x (Nat.lt_succ_self _) h
  cases q with
  | atom =>
   rw [nV] at h
   simp only
   split at h
   ·cases h
   ·rename_i tk ht
    have hi := (List.getElem?_eq_some_iff.1 ht).1
    split at h
    ·cases h; simp [fY, cu, eX]
    ·split at h
     ·cases h; simp [bJ, cu, eX]
     ·split at h
      ·split at h
       ·cases h
       ·rename_i y k h1
        have i1 := ih .whole (i + 1) y k (by simp only [dD, TQ.ck] at *; omega) h1
        split at h
        ·cases h; simp only at *; omega
        ·cases h
      ·cases h
  | args n acc =>
   rw [nQ] at h
   simp only
   split at h
   ·rename_i hs
    have hi := r8 hs
    split at h
    ·cases h
    ·rename_i y k h1
     split at h
     ·rename_i ky
      have i0 := ih .atom i y k (by simp only [dD, TQ.ck] at *; omega) h1
      have i1 := ih (.args n (acc ++ [y])) k t j (by simp only [dD, TQ.ck] at *; omega) h
      have i2 := r7 _ _ _ h
      simp only [wk, eX] at i0 i1 i2
      omega
     ·cases h
   ·cases h
    have e : cu (bJ n acc) = eX acc := uw _
    rw [e]; omega
  | fA =>
   rw [oX] at h
   simp only
   split at h
   ·rename_i tk ht
    have hi := (List.getElem?_eq_some_iff.1 ht).1
    split at h
    ·have i1 := ih (.args tk.text []) (i + 1) t j (by simp only [dD, TQ.ck] at *; omega) h
     have i2 := r7 _ _ _ h
     simp only [eX] at i1 i2
     by_cases hj : j = i + 1
     ·subst hj
      rw [nQ] at h
      split at h
      ·split at h
       ·cases h
       ·split at h
        ·have := r7 _ _ _ h; simp only at this; omega
        ·cases h
      ·cases h
       have e : cu (bJ tk.text []) = eX [] := uw _
       rw [e]; simp [eX]
     ·omega
    ·exact ih .atom i t j (by simp only [dD, TQ.ck] at *; omega) h
   ·exact ih .atom i t j (by simp only [dD, TQ.ck] at *; omega) h
  | whole =>
   rw [qJ] at h
   simp only
   split at h
   ·cases h
   ·rename_i a k h1
    have i1 := ih .fA i a k (by simp only [dD, TQ.ck] at *; omega) h1
    have i2 := r7 _ _ _ h1
    simp only at i1 i2
    split at h
    ·rename_i hm
     have hj := cF hm
     split at h
     ·split at h
      ·cases h
      ·rename_i b m h2
       have i3 := ih .whole (k + 1) b m (by simp only [dD, TQ.ck] at *; omega) h2
       have i4 := r7 _ _ _ h2
       cases h
       have e : cu (cZ a b) = eX [a, b] := uw _
       rw [e]
       simp only [eX] at *
       omega
     ·cases h
    ·cases h; exact i1
theorem EZ {l : List Tok} {q : TQ} {i : Nat} {t : Ty} {j : Nat} (hq : ∀ n acc, q ≠ .args n acc) (h : a_ l q i = .ok (t, j)) : cu t ≤ j - i := by
 have := EY l _ q i t j (Nat.lt_succ_self _) h
 cases q with
 | args n acc => exact absurd rfl (hq n acc)
 | _ => exact this
theorem Kc {l : List Tok} {f : EQ → Nat → ER} {M : Nat} {k p : Int} {i : Nat} {e : Ex} {j : Nat} (hf : ∀ i e j, f .expr i = .ok (e, j) → dP M e) (h : j8 l f k p i = .ok (e, j)) : dP M e := by
 unfold j8 at h
 split at h
 ·cases h
 ·split at h
  ·split at h
   ·cases h
   ·rename_i a k1 h1
    have i1 := hf _ _ _ h1
    split at h
    ·split at h
     ·cases h
     ·rename_i b m h2
      have i2 := hf _ _ _ h2
      cases h
      exact .kids _ _ _ (fun c hc => by
       simp only [List.mem_cons, List.not_mem_nil, or_false] at hc
       rcases hc with rfl | rfl
       ·exact i1
       ·exact i2)
    ·cases h
  ·cases h
def EQ.wf (M : Nat) : EQ → Prop
 | .apps x => dP M x
 | .aK _ x acc => dP M x ∧ ∀ a ∈ acc, dP M a.body
 | _ => True
theorem Kd (l : List Tok) : ∀ (N : Nat) (q : EQ) (i : Nat) (e : Ex) (j : Nat), fB l q i < N → q.wf l.length → bt l q i = .ok (e, j) → dP l.length e
 | 0, _, _, _, _, h, _, _ => by omega
 | N + 1, q, i, e, j, hN, hw, h => by
  have ih := Kd l N
  rw [zt] at h
  have hf : ∀ q' i' e' j', q'.wf l.length → iZ l (bt l) q i q' i' = .ok (e', j') → dP l.length e' := fun q' i' e' j' dR hc => by
   obtain ⟨h1, h2⟩ := E0 hc
   exact ih q' i' e' j' oM dR h2
  have one : ∀ {x : Ex}, dP l.length x → ∀ c ∈ [x], dP l.length c := fun hx c hc => by rw [List.mem_singleton.1 hc]; exact hx
  cases q with
  | expr =>
   simp only [dM] at h
   split at h
   ·split at h
    ·cases h
    ·split at h
     ·split at h
      ·cases h
      ·rename_i b k h1
       have i1 := hf .expr _ _ _ trivial h1
       cases h; exact .kids _ _ _ (one i1)
     ·cases h
   ·split at h
    ·split at h
     ·exact Kc (fun i e j hh => hf .expr i e j trivial hh) h
     ·exact Kc (fun i e j hh => hf .expr i e j trivial hh) h
    ·split at h
     ·split at h
      ·cases h
      ·rename_i e1 j1 h1
       split at h
       ·exact hf (.aK _ _ _) _ _ _ ⟨hf .expr _ _ _ trivial h1, fun a ha => by cases ha⟩ h
       ·cases h
     ·split at h
      ·cases h
      ·rename_i e1 j1 h1
       exact hf (.apps _) _ _ _ (hf .atom _ _ _ trivial h1) h
  | apps x =>
   simp only [dM] at h
   split at h
   ·split at h
    ·cases h
    ·rename_i a j1 h1
     have i1 := hf .atom _ _ _ trivial h1
     exact hf (.apps _) _ _ _ (.kids _ _ _ (fun c hc => by
      simp only [List.mem_cons, List.not_mem_nil, or_false] at hc
      rcases hc with rfl | rfl
      ·exact hw
      ·exact i1)) h
   ·cases h; exact hw
  | aK p x acc =>
   simp only [dM] at h
   split at h
   ·cases h
   ·split at h
    ·split at h
     ·cases h
     ·rename_i b m h1
      have i1 := hf .expr _ _ _ trivial h1
      have Ke : ∀ cn, ∀ a ∈ acc ++ [Ar.mk (posOf l i) cn (lowers (l.drop (i + 1))) b], dP l.length a.body := fun cn a ha => by
       rcases List.mem_append.1 ha with h | h
       ·exact hw.2 a h
       ·rw [List.mem_singleton.1 h]; exact i1
      split at h
      ·exact hf (.aK _ _ _) _ _ _ ⟨hw.1, Ke _⟩ h
      ·split at h
       ·cases h
        exact .case _ hw.1 (Ke _)
       ·cases h
    ·cases h
  | atom =>
   simp only [dM] at h
   split at h
   ·cases h
   ·rename_i t ht
    split at h
    ·cases h; exact .leaf _ _ _ _ _
    ·split at h
     ·cases h; exact .leaf _ _ _ _ _
     ·split at h
      ·cases h; exact .leaf _ _ _ _ _
      ·split at h
       ·cases h; exact .leaf _ _ _ _ _
       ·split at h
        ·split at h
         ·cases h
         ·rename_i x1 j1 h1
          split at h
          ·cases h; exact .kids _ _ _ (one (hf .expr _ _ _ trivial h1))
          ·cases h
        ·split at h
         ·split at h
          ·cases h
          ·rename_i x1 j1 h1
           have i1 := hf .expr _ _ _ trivial h1
           split at h
           ·split at h
            ·cases h
            ·rename_i y k h2
             have i2 := EZ (fun n acc => by simp) h2
             split at h
             ·rename_i hm
              have := cF hm
              cases h; exact .iY _ i1 oM
             ·cases h
           ·split at h
            ·cases h; exact i1
            ·cases h
         ·cases h
theorem S_ {l : List Tok} {i : Nat} {e : Ex} {j : Nat} (h : bt l .expr i = .ok (e, j)) : dP l.length e := Kd l _ .expr i e j (Nat.lt_succ_self _) trivial h
end Go.Th
namespace Go.Proofs.YtlnjfkfojkgiiaaGreatDoor
def Kf (T : TypeId) (s : Bytes) (g : ab) (v : Value) (g' : ab) (own' : List aA) : Prop := g' = g ∧ match scan s with
 | .ok l => ∃ sv, v = .tuple #[sv, .agg #[.int .i64 0, .int .i64 0]] ∧ own' = [.row T 3 sv l.length (l.flatMap jM)]
 | .bad e p => v = .tuple #[.slice none 0 0, .agg #[.int .i64 e, .int .i64 p]] ∧ own' = []
theorem Ta (g : ab) (s : Bytes) (hs : s.length ≤ 9223372036854775807) : aZ.Spec prog 142 [str s] g [] (Kf 118 s g) := by
 refine aw func142 rfl ntmps142 rfl fun E hE => ?_
 refine wz.a.c.z ?_
 refine aj rfl (fun b => ?_)
 refine wz.b.a.AI.a.c.e.b.z ?_
 refine an rfl (fun E1 => ?_) (fun E1 => ?_)
 ·refine wz.l.i.b.Br.a.K.c.z ?_
  refine cB [] rfl (.tmp rfl) (ay 0 rfl rfl rL) sM ⟨rfl, ?_⟩
  have : 4000 < s.length := by omega
  simp [scan, this]
 ·have hle : s.length ≤ 4000 := by omega
  refine wz.p.b.a.c.e.b.a.c.d.j.z ?_; refine fW 118 3 ?_
  refine aX (ι := Nat × List Tok × Value) (fun p => [(0, str s), (3, ptr b 0), (4, p.2.2), (5, .int .i64 p.1)]) (fun _ => g)
   (fun p => [.row 118 3 p.2.2 p.2.1.length (p.2.1.flatMap jM), .ae b 33 [.int .i64 0, .int .i64 0]])
   (fun p => p.1 ≤ s.length ∧ p.2.1.length ≤ p.1 ∧ ed 0 (s.drop 0) = pre p.2.1 (ed p.1 (s.drop p.1))) (fun p => s.length - p.1) (0, [], .slice none 0 0) ⟨sM, sM, by simp [pre_nil]⟩ ⟨rfl, rfl, rfl, rfl, trivial⟩ rfl rfl ?_
  rintro ⟨i, l, v⟩ ⟨hi, hl, hinv⟩
  simp only at hi hl hinv
  try dsimp only
  refine wz.b.a.AI.a.a.c.e.z ?_
  refine an rfl (fun hlt => ?_) (fun hlt => ?_)
  ·have af : i < s.length := by omega
   refine wz.a.a.c.p.d.j.z ?_
   refine nd (j := i) rfl rfl rfl rfl af ?_
   refine wz.b.a.E.a.c.b.a.z ?_
   refine zu [(0, str s), (3, ptr b 0), (4, v), (5, .int .i64 i), (7, .int .i64 (i + cW (s.drop i) : Nat))] (ee s[i] = false ∧ s[i].toNat ≠ 35) ?_ ?_
   ·rintro ⟨hw, hc⟩
    have l4 := E2 (s.drop i)
    have Tb : 1 ≤ cW (s.drop i) := by rw [drop_cons af]; exact wv _ _
    rw [List.length_drop] at l4
    have lr : ((s.drop i).take (cW (s.drop i))).length ≤ 9223372036854775807 := by rw [List.length_take, List.length_drop]; omega
    refine wz.a.a.a.c.z ?_
    refine nW (p := i) (q := i + cW (s.drop i)) rfl rfl ⟨_, _, rfl, rfl⟩ ⟨_, _, rfl, rfl⟩ oM oM ?_
    rw [wx]
    refine aO rfl rfl (Tc g _ lr) ?_
    refine wz.b.a.a.c.e.b.a.z ?_
    refine an rfl (fun hk => ?_) (fun hk => ?_)
    ·refine wz.l.x.l.x.l.i.b.Cj.a.K.a.c.z ?_
     refine cB [] rfl (.tmp rfl) (ay 1 rfl rfl rL) sM ⟨rfl, ?_⟩
     rw [wy hle, hinv, Kg af hw hc hk]
     exact ⟨rfl, rfl⟩
    ·refine wz.a.a.a.a.a.c.d.j.z ?_
     refine nW (p := i) (q := i + cW (s.drop i)) rfl rfl ⟨_, _, rfl, rfl⟩ ⟨_, _, rfl, rfl⟩ oM oM ?_
     rw [wx]
     refine wz.K.a.z ?_
     refine bu rfl rfl rL rL rL rL rL (fun b2 => ?_)
     refine cV 1 0 rfl rfl rfl rfl rfl rL rL rfl mL oM (fun v' _ => ?_)
     refine wz.d.y.N.a.a.r.b.a.z ?_; refine fF (own' := [_, _]) (List.sublist_cons_self _ _) ?_
     refine aM (i + cW (s.drop i), l ++ [⟨kindOf ((s.drop i).take (cW (s.drop i))), (s.drop i).take (cW (s.drop i)), i⟩], v') ⟨nM, nM, ?_⟩ nM ⟨rfl, rfl, rfl, rfl, trivial⟩ rfl ?_
     ·simp only
      rw [hinv, Kh af hw hc hk]
     ·simp [jM, dO]
   ·intro K hK
    refine wz.a.a.a.c.p.z ?_
    refine bw rfl rfl (fun a1 => ?_) (fun a1 => ?_)
    ·have hw : ee s[i] = true := by simp [ee]; omega
     refine wz.d.D.m.U.C.b.a.E.a.c.t.b.a.a.h.h.a.a.h.h.a.a.h.h.z ?_
     exact aM (i + 1, l, v) ⟨nM, nM, by simp only; rw [hinv, qK af hw]⟩ nM ⟨rfl, rfl, rfl, rfl, trivial⟩ rfl rfl
    refine wz.a.a.u.u.z ?_
    refine bw rfl rfl (fun a2 => ?_) (fun a2 => ?_)
    ·have hw : ee s[i] = true := by simp [ee]; omega
     refine wz.d.D.m.U.C.b.a.E.a.c.t.b.a.a.h.h.a.a.h.h.z ?_
     exact aM (i + 1, l, v) ⟨nM, nM, by simp only; rw [hinv, qK af hw]⟩ nM ⟨rfl, rfl, rfl, rfl, trivial⟩ rfl rfl
    refine wz.a.a.u.u.z ?_
    refine bw rfl rfl (fun a3 => ?_) (fun a3 => ?_)
    ·have hw : ee s[i] = true := by simp [ee]; omega
     refine wz.d.D.m.U.C.b.a.E.a.c.t.b.a.a.h.h.z ?_
     exact aM (i + 1, l, v) ⟨nM, nM, by simp only; rw [hinv, qK af hw]⟩ nM ⟨rfl, rfl, rfl, rfl, trivial⟩ rfl rfl
    refine wz.b.a.a.u.u.z ?_
    refine an rfl (fun a4 => ?_) (fun a4 => ?_)
    ·have hw : ee s[i] = true := by simp [ee]; omega
     refine wz.d.D.m.U.C.b.a.E.a.c.z ?_
     exact aM (i + 1, l, v) ⟨nM, nM, by simp only; rw [hinv, qK af hw]⟩ nM ⟨rfl, rfl, rfl, rfl, trivial⟩ rfl rfl
    have hw : ee s[i] = false := by simp [ee]; omega
    refine wz.b.a.a.a.c.z ?_
    refine an rfl (fun hc => ?_) (fun hc => ?_)
    ·have iA : s[i].toNat = 35 := by omega
     refine wz.p.e.z ?_
     refine aX (ι := Nat) (fun j => [(0, str s), (3, ptr b 0), (4, v), (5, .int .i64 j)]) (fun _ => g) (fun _ => [.row 118 3 v l.length (l.flatMap jM), .ae b 33 [.int .i64 0, .int .i64 0]])
      (fun j => i ≤ j ∧ j ≤ s.length ∧ j + fR (s.drop j) = i + fR (s.drop i)) (fun j => s.length - j) i ⟨Nat.le_refl _, oM, rfl⟩ ⟨rfl, rfl, rfl, rfl, trivial⟩ rfl rfl ?_
     rintro j ⟨ky, eK, hcm⟩
     have Td : 1 ≤ fR (s.drop i) := by rw [drop_cons af]; exact zv _ iA
     refine wz.a.a.AI.a.a.c.e.z ?_
     refine bw rfl rfl (fun hj => ?_) (fun hj => ?_)
     ·have dr : j < s.length := by omega
      refine wz.k.u.u.z ?_
      refine nd (j := j) rfl rfl rfl rfl dr ?_
      refine wz.b.a.u.z ?_
      refine an rfl (fun hn => ?_) (fun hn => ?_)
      ·have bG := Te dr oM
       refine wz.d.y.N.a.E.a.r.p.d.j.z ?_
       exact aM (j + 1) ⟨oM, oM, oM⟩ oM ⟨rfl, rfl, rfl, rfl, trivial⟩ rfl rfl
      ·have bG := Tf dr oM
       refine wz.d.D.m.U.C.d.D.m.m.C.z ?_
       refine aM (j, l, v) ⟨nM, nM, ?_⟩ nM ⟨rfl, rfl, rfl, rfl, trivial⟩ rfl rfl
       simp only
       rw [hinv, E3 af hw iA, show i + fR (s.drop i) = j by omega]
     ·have bG := Tg (s := s) (k := j) oM
      refine wz.d.D.m.U.C.d.D.m.m.C.o.b.a.h.h.h.h.z ?_
      refine aM (j, l, v) ⟨nM, nM, ?_⟩ nM ⟨rfl, rfl, rfl, rfl, trivial⟩ rfl rfl
      simp only
      rw [hinv, E3 af hw iA, show i + fR (s.drop i) = j by omega]
    have iA : s[i].toNat ≠ 35 := by omega
    refine wz.a.c.z ?_
    refine aO rfl rfl (E4 g _) ?_
    refine wz.b.a.z ?_
    refine fS rfl (fun dW => ?_) (fun dW => ?_)
    ·have kU := E5 af dW
     refine wz.p.z ?_
     refine aX (ι := Nat) (fun j => [(0, str s), (3, ptr b 0), (4, v), (5, .int .i64 i), (7, .int .i64 j)]) (fun _ => g) (fun _ => [.row 118 3 v l.length (l.flatMap jM), .ae b 33 [.int .i64 0, .int .i64 0]])
      (fun j => i + 1 ≤ j ∧ j ≤ s.length ∧ j + i_ (s.drop j) = i + 1 + i_ (s.drop (i + 1))) (fun j => s.length - j) (i + 1) ⟨Nat.le_refl _, oM, rfl⟩ ⟨rfl, rfl, rfl, rfl, rfl, trivial⟩ rfl rfl ?_
     rintro j ⟨ky, eK, hcm⟩
     refine wz.a.a.AI.a.a.c.e.z ?_
     refine bw rfl rfl (fun hj => ?_) (fun hj => ?_)
     ·have dr : j < s.length := by omega
      refine wz.k.u.u.z ?_
      refine nd (j := j) rfl rfl rfl rfl dr ?_
      refine wz.k.z ?_
      refine aO rfl rfl (E4 g _) ?_
      refine wz.b.a.z ?_
      refine fS rfl (fun hn => ?_) (fun hn => ?_)
      ·have bG := Ki dr hn
       refine wz.d.y.N.a.E.a.r.p.d.j.z ?_
       exact aM (j + 1) ⟨oM, oM, oM⟩ oM ⟨rfl, rfl, rfl, rfl, rfl, trivial⟩ rfl rfl
      ·have bG := Kj dr hn
       have jt : j = i + cW (s.drop i) := by omega
       subst jt
       refine wz.d.y.D.m.m.C.z ?_
       exact hK _ ⟨hw, iA⟩ ⟨rfl, rfl, rfl, rfl, rfl, trivial⟩
     ·have bG := Kk (s := s) (k := j) oM
      have jt : j = i + cW (s.drop i) := by omega
      subst jt
      refine wz.d.y.D.m.m.C.o.b.a.h.h.h.h.z ?_
      exact hK _ ⟨hw, iA⟩ ⟨rfl, rfl, rfl, rfl, rfl, trivial⟩
    ·refine wz.a.a.a.c.z ?_
     refine bw rfl rfl (fun E6 => ?_) (fun E6 => ?_)
     ·refine wz.a.a.u.AI.k.u.u.z ?_
      refine bw rfl rfl (fun nX => ?_) (fun nX => ?_)
      ·have Kl : i + 1 < s.length := by omega
       refine wz.k.u.u.z ?_
       refine nd (j := i + 1) rfl rfl rfl rfl Kl ?_
       refine wz.b.a.a.u.z ?_
       refine an rfl (fun Ti => ?_) (fun Ti => ?_)
       ·have kU := Km Kl dW oM oM
        refine wz.d.y.N.a.E.a.r.z ?_
        exact hK _ ⟨hw, iA⟩ ⟨rfl, rfl, rfl, rfl, by rw [kU]; rfl, trivial⟩
       ·have kU := zw af dW (fun _ _ => by omega)
        refine wz.d.y.j.z ?_
        exact hK _ ⟨hw, iA⟩ ⟨rfl, rfl, rfl, rfl, by rw [kU]; rfl, trivial⟩
      ·have kU := zw af dW (fun _ h2 => by omega)
       refine wz.d.y.j.o.b.a.a.h.h.h.h.z ?_
       exact hK _ ⟨hw, iA⟩ ⟨rfl, rfl, rfl, rfl, by rw [kU]; rfl, trivial⟩
     ·have kU := zw af dW (fun h1 => by omega)
      refine wz.d.y.j.o.b.a.a.h.h.h.h.a.a.h.h.h.h.z ?_
      exact hK _ ⟨hw, iA⟩ ⟨rfl, rfl, rfl, rfl, by rw [kU]; rfl, trivial⟩
  ·have dw : i = s.length := by omega
   subst dw
   refine wz.i.b.Cj.a.K.a.c.d.D.m.m.C.z ?_
   refine cB [_] rfl (.tmp rfl) (ay 1 rfl rfl rL) (List.sublist_append_left [_] [_]) ⟨rfl, ?_⟩
   rw [wy hle, hinv, List.drop_length, Kn]
   simp only [pre, List.append_nil]
   exact ⟨v, rfl, rfl⟩
end Go.Proofs.YtlnjfkfojkgiiaaGreatDoor
namespace Go.Th
def mz (l : List Tok) : Nat → List Da → Nat → Option (List Da)
 | 0, ds, i => if l.length ≤ i then some ds else none
 | f + 1, ds, i => if i < l.length then (if cA l i eC then match iL l i with
   | .ok (d, j) => mz l f (ds ++ [d]) j
   | .error _ => none
  else none) else some ds
theorem E7 {l : List Tok} {ds D : List Da} {i : Nat} (h : mz l 0 ds i = some D) : ¬ i < l.length ∧ ds = D := by
 unfold mz at h
 split at h
 ·cases h; exact ⟨oM, rfl⟩
 ·cases h
theorem Ko {l : List Tok} {f : Nat} {ds D : List Da} {i : Nat} (h : mz l f ds i = some D) (hi : ¬ i < l.length) : ds = D := by
 cases f with
 | zero => exact (E7 h).2
 | succ f => simp only [mz] at h; rw [if_neg hi] at h; cases h; rfl
theorem Kp {l : List Tok} {f : Nat} {ds D : List Da} {i : Nat} (h : mz l f ds i = some D) (hi : i < l.length) : cA l i eC = true ∧ ∃ d j f', f = f' + 1 ∧ iL l i = .ok (d, j) ∧ mz l f' (ds ++ [d]) j = some D := by
 cases f with
 | zero => exact absurd hi (E7 h).1
 | succ f =>
  simp only [mz] at h
  rw [if_pos hi] at h
  split at h
  ·rename_i hw
   split at h
   ·rename_i d j hd
    exact ⟨hw, d, j, f, rfl, hd, h⟩
   ·cases h
  ·cases h
theorem E8 {l : List Tok} : ∀ {f : Nat} {ds D : List Da} {i : Nat}, mz l f ds i = some D → ds.length ≤ D.length
 | 0, ds, D, i, h => by rw [(E7 h).2]; exact Nat.le_refl _
 | f + 1, ds, D, i, h => by
  by_cases hi : i < l.length
  ·obtain ⟨_, d, j, f', hf, _, h2⟩ := Kp h hi
   cases hf
   have := E8 h2
   simp only [List.length_append, List.length_cons, List.length_nil] at this
   omega
  ·rw [Ko h hi]; exact Nat.le_refl _
def wA : Bytes := [100, 97, 116, 97, 32, 66, 111, 111, 108, 32, 61, 32, 84, 114, 117, 101, 32, 124, 32, 70, 97, 108, 115, 101, 59, 32, 100, 97, 116, 97, 32, 79, 112, 116, 105, 111, 110, 32, 97, 32, 61, 32, 78, 111, 110, 101, 32, 124, 32, 83, 111, 109, 101, 32, 97, 59, 32, 100, 97, 116, 97, 32, 76, 105, 115, 116, 32, 97, 32, 61, 32, 78, 105, 108, 32, 124, 32, 67, 111, 110, 115, 32, 97, 32, 40, 76, 105, 115, 116, 32, 97, 41, 59, 100, 97, 116, 97, 32, 80, 97, 105, 114, 32, 97, 32, 98, 32, 61, 32, 80, 97, 105, 114, 32, 97, 32, 98, 59, 32, 100, 97, 116, 97, 32, 78, 97, 116, 32, 61, 32, 90, 101, 114, 111, 32, 124, 32, 83, 117, 99, 99, 32, 78, 97, 116, 59, 32, 100, 97, 116, 97, 32, 70, 117, 110, 32, 97, 32, 98, 32, 61, 32, 70, 117, 110, 32, 40, 97, 32, 45, 62, 32, 98, 41, 59, 32, 100, 97, 116, 97, 32, 84, 119, 111, 32, 97, 32, 61, 32, 66, 111, 116, 104, 32, 97, 32, 97, 32, 124, 32, 79, 110, 101, 32, 40, 79, 112, 116, 105, 111, 110, 32, 97, 41, 59]
def ja : List Da := (mz (kV wA) 100 [] 0).getD []
end Go.Th
namespace Go.Proofs.YtlnjfkfojkgiiaaGreatDoor
theorem Tj (s : Bytes) : TB (kV s) := by
 obtain ⟨h1, h2⟩ := ux s
 refine ⟨oM, fun t ht => ?_⟩
 obtain ⟨a1, a2, a3, a4⟩ := h2 t ht
 exact ⟨oM, oM, oM⟩
theorem Tk (s : Bytes) : KW (kV s) := fun t ht => ((ux s).2 t ht).1
theorem E9 {g : ab} {l : List Da} {xs cs : List Value} {d : Da} (h : aL (gC g) l xs) (h1 : gC g d cs) : aL (gC g) (l ++ [d]) (xs ++ cs) := aL.snoc h1 h
theorem Tl (g : ab) (s : Bytes) (hs : s.length ≤ 4000) {l : List Tok} (ez : scan s = .ok l) {f : Nat} {D : List Da} (hD : mz l f [] 0 = some D) (hn : D.length ≤ 8) (bW : ∀ d ∈ D, zi d) :
  bK prog 109 [str s] g fun v g' => ∃ pv, v = .tuple #[pv, .agg #[.int .i64 0, .int .i64 0]] ∧ ll g' pv ⟨D, []⟩ := by
 have hl : kV s = l := by unfold kV; rw [ez]
 have hb : TB l := hl ▸ Tj s
 have bI : KW l := hl ▸ Tk s
 have dh := hb.1
 refine aw func109 rfl ntmps109 rfl fun E hE => ?_
 refine aS ?_
 refine aj rfl (fun b2 => ?_)
 refine aj rfl (fun b3 => ?_)
 refine wz.a.c.b.z ?_
 refine uy rfl rfl (Ta g s oM) ?_
 rintro v g0 own' ⟨rfl, hp⟩ _
 rw [ez] at hp
 obtain ⟨sv, rfl, rfl⟩ := hp
 refine bg (fun g1 cG h1 => ?_)
 have r9 : cg g1 sv l := h1
 obtain ⟨sa, sc, rfl⟩ := aU h1
 refine wz.a.a.a.z ?_
 refine aj rfl (fun b5 => ?_)
 refine wz.c.d.j.o.b.a.v.g.c.e.b.q.a.z ?_
 refine aj rfl (fun b6 => ?_)
 refine wz.a.c.b.z ?_
 refine jN (lent := []) (kept := _) rfl rfl (List.Perm.refl _) (Tm g1 l _ r9 0) ?_
 rintro w nf own' ⟨rfl, b, rfl, rfl⟩ _
 have oY : idxOf l.length 0 = 0 := by unfold idxOf; rw [if_neg oM]; simp
 rw [oY]
 refine wz.p.e.b.a.z ?_; refine fW 60 4 ?_
 refine aX (ι := Nat × Nat × List Da × Value × List Value × ab) (fun p => [(4, .slice sa l.length sc), (7, ptr b 0), (2, ptr b2 0), (3, ptr b3 0), (5, ptr b5 0), (6, ptr b6 0)]) (fun p => p.2.2.2.2.2)
  (fun p => [.row 60 4 p.2.2.2.1 p.2.2.1.length p.2.2.2.2.1, ey b (.slice sa l.length sc) (.ak p.2.1), .ae b6 28 [p.2.2.2.1, .slice none 0 0], .ae b5 33 [.int .i64 0, .int .i64 0], .ae b3 33 [.int .i64 0, .int .i64 0], .ae b2 28 [.slice none 0 0, .slice none 0 0]])
  (fun p => ab.le nf p.2.2.2.2.2 ∧ (∃ a m c, p.2.2.2.1 = .slice a m c) ∧ p.2.1 ≤ l.length ∧ aL (gC p.2.2.2.2.2) p.2.2.1 p.2.2.2.2.1 ∧ mz l p.1 p.2.2.1 p.2.1 = some D) (fun p => p.1) (f, 0, [], .slice none 0 0, [], nf)
  ⟨ab.le_refl _, ⟨_, _, _, rfl⟩, Nat.zero_le _, rfl, hD⟩ ⟨rfl, rfl, rfl, rfl, rfl, rfl, trivial⟩ rfl rfl ?_
 rintro ⟨f1, i, ds, sd, xd, g2⟩ ⟨k1, ⟨da, dm, dc, k2⟩, k3, k4, k5⟩
 simp only at k1 k2 k3 k4 k5
 subst k2
 have uz := r9.mono k1
 have r_ := E8 k5
 try dsimp only
 refine wz.b.a.u.A.k.u.I.k.g.k.u.u.a.a.I.g.a.a.c.e.z ?_
 refine an rfl (fun hlt => ?_) (fun hlt => ?_)
 ·have af : i < l.length := by omega
  obtain ⟨hw, d, j, f2, hf, hd, k6⟩ := Kp k5 af
  subst hf
  have hp : dZ l i eC = cA l i eC := pM bI dC i
  have hdb := v_ hd
  have Tn := E8 k6
  simp only [List.length_append, List.length_cons, List.length_nil] at Tn
  refine wz.a.c.p.d.j.z ?_
  refine eo 1 rfl rfl rfl (E_ g2 l _ uz b (.ak i) eC) ?_
  rw [show RS.fV l eC (.ak i) = true from hp.trans hw]
  refine wz.t.b.z ?_
  refine fQ 6 [1, 0] mixed kR (fun hG => ?_)
  refine wz.Ar.z ?_; refine ⟨_, (aI rfl), ?_⟩; refine wz.Ax.z ?_; refine ⟨_, (a7 0 rfl rfl rfl), ?_⟩; refine wz.Ay.z ?_; refine ⟨_, (ag rfl), ?_⟩
  refine wz.BM.z ?_
  refine aG 1 rfl rfl rfl (SF hb bI g2 _ b i uz oM) ?_
  rintro w g3 r' l5 aF
  rw [hd] at l5
  obtain ⟨⟨cs, rfl, qL⟩, rfl, _, _⟩ := l5
  obtain ⟨a1, c1, a2, c2, xc, rfl, _⟩ := qL.form
  refine wz.By.f.b.z ?_
  refine bu rfl rfl rL rL rL rL rL (fun Kr => ?_)
  refine wz.Bn.f.b.z ?_
  refine cV 1 0 rfl rfl rfl rfl rfl rL rL rfl mL oM (fun v' eD => ?_)
  refine gT 1 rfl ?_
  rintro ⟨ya, ym, yc, rfl⟩
  refine wz.d.y.N.Bj.g.BX.Am.f.b.z ?_
  refine aM (f2, j, ds ++ [d], .slice ya ym yc, _, g3) ⟨ab.le_trans k1 aF, ⟨_, _, _, rfl⟩, uM, E9 (ng aF k4) qL, k6⟩ (Nat.lt_succ_self _) ⟨rfl, rfl, rfl, rfl, rfl, rfl, trivial⟩ rfl ?_
  simp [dO]
 ·have iB := Ko k5 oM
  subst iB
  refine bg (fun g3 d_ bY => ?_)
  have hV : ll g3 (.agg #[.slice da dm dc, .slice none 0 0]) ⟨ds, []⟩ := ⟨_, rfl, _, xd, _, [], rfl, bY, ng d_ k4, cP g3 20, rfl⟩
  refine wz.O.c.e.d.j.o.b.v.g.a.a.c.e.d.D.m.m.C.z ?_
  refine aO rfl rfl (SS g3 ⟨ds, []⟩ _ hV rfl hn bW) ?_
  refine wz.e.d.j.o.b.a.Ag.g.c.b.V.z ?_
  refine bO [4, 3] mixed (fun hG => ?_)
  refine wz.P.z ?_; refine ⟨_, (bP 1 rfl rfl rL), ?_⟩; refine wz.R.z ?_; refine ⟨_, (bP 2 rfl rfl rL), ?_⟩
  refine wz.i.d.F.f.b.Au.Aw.f.b.Bw.AL.z ?_
  exact cB [] rfl (ay 4 rfl rfl rL) (ay 3 rfl rfl rL) sM ⟨⟨_, rfl, hV⟩, rfl⟩
theorem To : scan wA = .ok (kV wA) := by kernel_rfl
theorem Tp : mz (kV wA) 100 [] 0 = some ja := by kernel_rfl
theorem wB : ja.length = 7 := by kernel_rfl
def Fa (d : Da) : Bool := decide (d.params.length ≤ 4) && decide (d.cons.length ≤ 6) && d.cons.all fun c => decide (c.fields.length ≤ 4) && c.fields.all fun t => decide (cu t ≤ 40)
theorem Tq {d : Da} (h : Fa d = true) : zi d := by
 simp only [Fa, Bool.and_eq_true, decide_eq_true_eq, List.all_eq_true] at h
 exact ⟨h.1.1, h.1.2, fun c hc => ⟨(h.2 c hc).1, fun t ht => (h.2 c hc).2 t ht⟩⟩
theorem Tr : ∀ d ∈ ja, zi d := fun d hd => Tq (List.all_eq_true.1 (show ja.all Fa = true by kernel_rfl) d hd)
theorem Ts (g : ab) : bK prog 80 [] g fun v g' => ∃ xd, au g' 4 v ja.length xd ∧ aL (gC g') ja xd := by
 refine aw func80 rfl ntmps80 rfl fun E hE => ?_
 refine wz.c.b.a.c.z ?_
 refine aB rfl rfl (Tl g wA (Nat.le_of_ble_eq_true kR) To Tp (by rw [wB]; decide) Tr) ?_
 rintro w g1 ⟨pv, rfl, cs, rfl, sd, xd, sb, xb, rfl, h1, h2, h3, h4⟩ hle
 obtain ⟨da, dc, rfl⟩ := aU h1
 obtain ⟨ba, bc, rfl⟩ := aU h3
 refine wz.a.a.a.z ?_
 refine aj rfl (fun b1 => ?_)
 refine aj rfl (fun b2 => ?_)
 refine wz.i.b.a.I.g.c.b.q.B.z ?_
 exact ao [] rfl rfl sM ⟨⟨xd, h1, h2⟩, rfl⟩
end Go.Proofs.YtlnjfkfojkgiiaaGreatDoor
namespace Go.aZ
open Go Go.RowKit
def Ks (p q : Int) : Int := IntKind.i64.wrap (((p % 18446744073709551616).toNat &&& (q % 18446744073709551616).toNat : Nat) : Int)
section
variable {P : Program} {E : Env} {n : Nat} {L : dz} {g : ab} {own : List aA}
variable {d : Nat} {ty : TypeId} {pos : String} {after : Array Edge}
theorem Tt {x y : Operand} {T T' : TypeId} {p q : Int} (hx : ev L x = some (.int .i64 p)) (hy : ev L y = some (.int .i64 q)) :
  cH P E n L g own ty (.binOp .and T x y T') (.int .i64 (Ks p q)) := fun a w dst pos after hF _ => by
 simp [execOp, hF.eval hx, hF.eval hy, eqGuard, binOp, Op.intBits, Ks, IntKind.bits]
 rfl
theorem Tu {x y : Operand} {T T' : TypeId} {K : IntKind} {p q : Int} (hx : ev L x = some (.int .i64 p)) (hy : ev L y = some (.int K q)) (hq : 0 ≤ q) :
  cH P E n L g own ty (.binOp .shr T x y T') (.int .i64 (p.fdiv (2 ^ min q.toNat 64))) := fun a w dst pos after hF _ => by
 have : ¬ q < 0 := by omega
 simp [execOp, hF.eval hx, hF.eval hy, eqGuard, binOp, Op.shift, this, IntKind.bits]
end
end Go.aZ
namespace Go.Proofs.YtlnjfkfojkgiiaaGreatDoor
theorem Tv (g : ab) (bits : Int) : bK prog 40 [.int .i64 bits] g fun v g' => ∃ ds xd, au g' 4 v ds.length xd ∧ aL (gC g') ds xd ∧ ds.length ≤ 8 ∧ ∀ d ∈ ds, d ∈ ja := by
 refine aw func40 rfl ntmps40 rfl fun E hE => ?_
 refine wz.c.b.a.c.z ?_
 refine aB rfl rfl (Ts g) ?_
 rintro w g1 ⟨xd, h1, h2⟩ hle
 rw [wB] at h1
 obtain ⟨b, off, cap, rfl, hx⟩ := h1.held (show 0 < 7 by omega)
 have jb : ∀ (i : Nat) (h : i < 7), ∃ cs, gC g1 (ja[i]'(by rw [wB]; exact h)) cs ∧ ∀ own, Rd g1 own b (off + i * 4) cs := fun i h => dt (fun _ _ h => h.one.1) h2 hx (by rw [wB]; exact h)
 have zx : ∀ (i : Nat) (h : i < 7), ja[i]'(by rw [wB]; exact h) ∈ ja := fun i h => List.getElem_mem _
 refine wz.b.a.c.b.a.z ?_; refine fW 60 4 ?_
 refine cD (ι := List Da × Value × List Value) (fun p => [(0, .int .i64 bits), (3, .slice (some ⟨b, off, none⟩) 7 cap), (4, p.2.1)]) (fun _ => g1)
  (fun p => [.row 60 4 p.2.1 p.1.length p.2.2]) (fun p => p.1.length ≤ 1 ∧ aL (gC g1) p.1 p.2.2 ∧ ∀ d ∈ p.1, d ∈ ja) ?_ ?_
 ·rintro ⟨ds, v, xs⟩ ⟨k1, k2, k3⟩
  simp only at k1 k2 k3
  try dsimp only
  refine wz.p.b.a.c.e.z ?_
  refine aX (ι := Nat × List Da × Value × List Value) (fun p => [(0, .int .i64 bits), (3, .slice (some ⟨b, off, none⟩) 7 cap), (4, p.2.2.1), (5, .int .i64 p.1)]) (fun _ => g1)
   (fun p => [.row 60 4 p.2.2.1 p.2.1.length p.2.2.2]) (fun p => p.1 ≤ 7 ∧ p.2.1.length ≤ 1 + p.1 ∧ aL (gC g1) p.2.1 p.2.2.2 ∧ ∀ d ∈ p.2.1, d ∈ ja) (fun p => 7 - p.1) (0, ds, v, xs) ⟨sM, uM, k2, k3⟩ ⟨rfl, rfl, rfl, rfl, trivial⟩ rfl rfl ?_
  rintro ⟨i, ds, v, xs⟩ ⟨k1, k2, k3, k4⟩
  simp only at k1 k2 k3 k4
  try dsimp only
  refine wz.b.a.A.a.a.c.e.z ?_
  refine an rfl (fun hlt => ?_) (fun hlt => ?_)
  ·have af : i < 7 := by omega
   obtain ⟨cs, e1, hr⟩ := jb i af
   have hm := zx i af
   obtain ⟨a1, c1, a2, c2, xc, rfl, _⟩ := e1.form
   refine wz.a.a.a.c.p.e.d.j.z ?_
   refine bw rfl rfl (fun Tw => ?_) (fun Tw => ?_)
   ·refine wz.k.u.u.z ?_; refine Tx rfl rfl (by simp [IntKind.wrap, IntKind.bits, IntKind.signed]; omega) ?_; refine wz.k.z ?_
    refine cX rfl (Tu (q := (i : Int)) rfl rfl oM) ?_
    refine wz.b.a.u.CR.k.z ?_
    refine an rfl (fun Tz => ?_) (fun Tz => ?_)
    ·refine wz.An.M.a.a.a.r.z ?_
     refine bu rfl rfl rL rL rL rL rL (fun zy => ?_)
     refine cV 1 0 rfl rfl rfl rfl rfl rL rL rfl mL oM (fun v' _ => ?_)
     refine wz.b.a.E.a.r.d.y.N.a.Bk.z ?_
     refine aM (i + 1, ds ++ [_], v', _) ⟨af, by simp only [List.length_append, List.length_cons, List.length_nil]; omega, E9 k3 e1, ?_⟩ uM ⟨rfl, rfl, rfl, rfl, trivial⟩ rfl ?_
     ·intro d hd
      rcases List.mem_append.1 hd with hd | hd
      ·exact k4 d hd
      ·rw [List.mem_singleton] at hd; subst hd; exact hm
     ·simp [dO]
    ·refine wz.b.a.E.a.r.d.y.j.z ?_
     exact aM (i + 1, ds, v, xs) ⟨af, uM, k3, k4⟩ uM ⟨rfl, rfl, rfl, rfl, trivial⟩ rfl rfl
   ·refine wz.b.a.E.a.r.d.y.j.o.b.a.h.h.h.h.h.h.z ?_
    exact aM (i + 1, ds, v, xs) ⟨af, uM, k3, k4⟩ uM ⟨rfl, rfl, rfl, rfl, trivial⟩ rfl rfl
  ·refine bg (fun g2 dy bj => ?_)
   obtain ⟨va, vc, rfl⟩ := aU bj
   refine wz.i.b.a.a.c.d.D.m.m.C.z ?_
   exact ao [] rfl rfl sM ⟨⟨ds, xs, bj, ng dy k3, oM, k4⟩, rfl⟩
 ·intro K hK
  obtain ⟨cs, e1, hr⟩ := jb 1 oM
  have hm := zx 1 oM
  obtain ⟨a1, c1, a2, c2, xc, rfl, _⟩ := e1.form
  refine wz.a.a.CR.a.c.z ?_
  refine bw rfl rfl (fun dh => ?_) (fun dh => ?_)
  ·refine wz.a.a.r.t.b.a.h.h.h.z ?_; refine gV (j := 1) rfl rfl rfl oM oM ?_; refine wz.An.z ?_
   refine bu rfl rfl rL rL rL rL rL (fun zy => ?_)
   refine cV 1 0 rfl rfl rfl rfl rfl rL rL rfl mL oM (fun v' _ => ?_)
   refine wz.b.a.Bk.z ?_
   exact hK ([_], v', _) _ ⟨sM, aL.snoc (l := []) e1 rfl, fun d hd => by rw [List.mem_singleton] at hd; subst hd; exact hm⟩ ⟨rfl, rfl, rfl, trivial⟩
  ·refine wz.b.a.u.CR.k.u.z ?_
   refine an rfl (fun eL => ?_) (fun eL => ?_)
   ·refine wz.a.a.r.z ?_; refine gV (j := 1) rfl rfl rfl oM oM ?_; refine wz.An.z ?_
    refine bu rfl rfl rL rL rL rL rL (fun zy => ?_)
    refine cV 1 0 rfl rfl rfl rfl rfl rL rL rfl mL oM (fun v' _ => ?_)
    refine wz.b.a.Bk.z ?_
    exact hK ([_], v', _) _ ⟨sM, aL.snoc (l := []) e1 rfl, fun d hd => by rw [List.mem_singleton] at hd; subst hd; exact hm⟩ ⟨rfl, rfl, rfl, trivial⟩
   ·refine wz.d.j.z ?_
    exact hK ([], .slice none 0 0, []) _ ⟨sM, rfl, fun d hd => by cases hd⟩ ⟨rfl, rfl, rfl, trivial⟩
abbrev c8 (b : Nat) (lv : Value) (i : Nat) : aA := .ae b 87 [lv, .int .i64 i]
theorem e_ (g : ab) (ar : List Int) (hc : ar.length ≤ 1000000) (lv : Value) (hs : au g 1 lv ar.length (ar.map (Value.int .i64))) (b i : Nat) (hi : i ≤ ar.length) (n : Int) (hn : 1 ≤ n ∧ n ≤ 1000000) :
  cR prog 41 [ptr b 0, .int .i64 n] g (c8 b lv i) fun v g' r' => g' = g ∧ ∃ (k : Int) (i' : Nat), v = .int .i64 k ∧ 0 ≤ k ∧ k < n ∧ r' = c8 b lv i' ∧ i' ≤ ar.length := by
 refine aw func41 rfl ntmps41 rfl fun E hE => ?_
 refine wz.d.T.s.Bu.Q.J.s.s.Q.J.s.s.Ab.e.e.b.a.c.z ?_
 refine an rfl (fun nh => ?_) (fun nh => ?_)
 ·refine wz.l.i.b.a.c.z ?_
  exact ao [_] rfl rfl sR ⟨_, rfl, rfl, 0, i, rfl, oM, oM, rfl, hi⟩
 ·have af : i < ar.length := by omega
  obtain ⟨b0, off, cap, rfl, hx⟩ := hs.held af
  have e1 : (ar.map (Value.int .i64))[i * 1]? = some (.int .i64 ar[i]) := by simp [af]
  have hm : 0 ≤ qM ar[i] n ∧ qM ar[i] n < n := by
   unfold qM
   rw [if_neg oM]
   exact ⟨Int.emod_nonneg _ oM, Int.emod_lt_of_pos _ oM⟩
  refine wz.Ch.Q.J.s.s.Q.J.s.s.Ab.e.b.Ac.g.a.E.v.g.a.a.c.d.j.z ?_
  refine bR rfl (bU (j := i) rfl rfl oM af) ?_
  skip
  refine bR rfl (cU rfl (eT (hx (i * 1) _ e1))) ?_
  refine wz.s.z ?_
  refine iy rfl rfl (Kt g ar[i] n oM) ?_
  refine wz.i.d.T.s.z ?_
  exact ao [_] rfl rfl sR ⟨_, rfl, rfl, qM ar[i] n, i + 1, rfl, hm.1, hm.2, rfl, oM⟩
end Go.Proofs.YtlnjfkfojkgiiaaGreatDoor

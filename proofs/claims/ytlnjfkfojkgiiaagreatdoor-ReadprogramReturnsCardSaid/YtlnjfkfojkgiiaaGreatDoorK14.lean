/- The canonical text of a program is read as this program up to positions. No program in sight. -/
import Derived.Test.YtlnjfkfojkgiiaaGreatDoorK13
import Derived.ProofKit
namespace Go.Th
def sU (c : Cn) : Bytes := 32 :: (c.name ++ eN c.fields)
def mF : List Cn → Bytes
 | [] => []
 | c :: r => [32, 124] ++ (sU c ++ mF r)
def nv : List Cn → Bytes
 | [] => []
 | c :: r => sU c ++ mF r
def nw (d : Da) : Bytes := eC ++ (32 :: (d.name ++ (eU d.params ++ (32 :: (61 :: (nv d.cons ++ [59, 10]))))))
def uJ (b : Bi) : Bytes := if b.fD then 32 :: (58 :: (32 :: cK b.sig)) else []
def l9 (b : Bi) : Bytes := dI ++ (32 :: ((if b.isRec then fy ++ [32] else []) ++ (b.name ++ (uJ b ++ (32 :: (61 :: (32 :: (bL b.body ++ [59, 10]))))))))
def o_ (p : Pg) : Bytes := p.al.flatMap nw ++ p.binds.flatMap l9
def lH (c : Cn) : List Bytes := c.name :: jg c.fields
def mG : List Cn → List Bytes
 | [] => []
 | c :: r => [124] :: (lH c ++ mG r)
def zJ : List Cn → List Bytes
 | [] => []
 | c :: r => lH c ++ mG r
def pX (d : Da) : List Bytes := eC :: d.name :: (d.params ++ ([61] :: (zJ d.cons ++ [[59]])))
def lI (b : Bi) : List Bytes := if b.fD then [58] :: dN b.sig else []
def ny (b : Bi) : List Bytes := dI :: ((if b.isRec then [fy] else []) ++ (b.name :: (lI b ++ ([61] :: (bD b.body ++ [[59]])))))
def zK (p : Pg) : List Bytes := p.al.flatMap pX ++ p.binds.flatMap ny
structure wR (c : Cn) : Prop where
 n : kindOf c.name = 2
 f : ∀ t ∈ c.fields, fr t
structure uK (d : Da) : Prop where
 n : kindOf d.name = 2
 p : ∀ s ∈ d.params, kindOf s = 1
 c : d.cons ≠ []
 a : ∀ c ∈ d.cons, wR c
structure sV (b : Bi) : Prop where
 n : kindOf b.name = 1
 s : b.fD = true → fr b.sig
 o : b.fD = false → b.sig = bX
 e : eQ b.body
structure FH (p : Pg) : Prop where
 d : ∀ d ∈ p.al, uK d
 b : ∀ b ∈ p.binds, sV b
def pf (c : Cn) : Cn := ⟨0, c.name, c.fields⟩
def l_ (d : Da) : Da := ⟨0, d.name, d.params, d.cons.map pf⟩
def lJ (b : Bi) : Bi := ⟨0, b.isRec, b.name, b.fD, b.sig, bV b.body⟩
def nz (p : Pg) : Pg := ⟨p.al.map l_, p.binds.map lJ⟩
theorem Lg {s : Bytes} (hs : ∀ r, apart r → apart (s ++ r)) : ∀ (l : List Ty) (r : Bytes), apart r → apart ((eN l ++ s) ++ r)
 | [], r, h => by simpa [eN] using hs r h
 | a :: l, r, _ => by rw [oZ]; exact zL dC
theorem Lh {s : Bytes} {ws : List Bytes} (h : aT s ws) (hs : ∀ r, apart r → apart (s ++ r)) : ∀ (l : List Ty), (∀ t ∈ l, fr t) → aT (eN l ++ s) (jg l ++ ws)
 | [], _ => by simpa [eN, jg] using h
 | a :: l, hg => by
  have ih := Lh h hs l (fun t ht => hg t (List.mem_cons_of_mem _ ht))
  rw [oZ, FI]
  have ha : aT (lu a) (ke a) := by
   unfold lu ke
   split
   ·exact aT.paren (zM (hg a (List.mem_cons_self ..)))
   ·exact zM (hg a (List.mem_cons_self ..))
  have := (aT.append ha ih (Lg hs l)).space
  simpa using this
theorem Li {s : Bytes} {ws : List Bytes} (h : aT s ws) (hs : ∀ r, apart r → apart (s ++ r)) {c : Cn} (hc : wR c) : aT (sU c ++ s) (lH c ++ ws) := by
 have h1 := Lh h hs c.fields hc.f
 have h2 := (aT.cons (w := c.name) (by rw [hc.n]; decide) h1 (Lg hs c.fields)).space
 simpa [sU, lH] using h2
theorem Lj {s : Bytes} (hs : ∀ r, apart r → apart (s ++ r)) : ∀ (l : List Cn) (r : Bytes), apart r → apart ((mF l ++ s) ++ r)
 | [], r, h => by simpa [mF] using hs r h
 | a :: l, r, _ => zL dC
theorem Lk {s : Bytes} {ws : List Bytes} (h : aT s ws) (hs : ∀ r, apart r → apart (s ++ r)) : ∀ (l : List Cn), (∀ c ∈ l, wR c) → aT (mF l ++ s) (mG l ++ ws)
 | [], _ => by simpa [mF, mG] using h
 | c :: l, hg => by
  have ih := Lk h hs l (fun t ht => hg t (List.mem_cons_of_mem _ ht))
  have h1 := Li ih (Lj hs l) (hg c (List.mem_cons_self ..))
  have h2 := (aT.mark (m := [124]) dC dC h1).space
  simpa [mF, mG] using h2
theorem aT.nl {s : Bytes} {ws : List Bytes} (h : aT s ws) : aT (10 :: s) ws := fun i r us hr hu => by
 rw [List.cons_append]
 exact Ll (u := [10]) (Lm dC Ln) (fun j => h j r us hr hu)
theorem Lo {s : Bytes} {ws : List Bytes} (h : aT s ws) : aT ([59, 10] ++ s) ([59] :: ws) := aT.mark (m := [59]) dC dC h.nl
theorem FJ (s : Bytes) : ∀ r, apart r → apart (([59, 10] ++ s) ++ r) := fun _ _ => zL dC
theorem Uj {s : Bytes} {ws : List Bytes} (h : aT s ws) {d : Da} (hd : uK d) : aT (nw d ++ s) (pX d ++ ws) := by
 obtain ⟨p, n, ps, cs⟩ := d
 obtain ⟨h1, h2, h3, h4⟩ := hd
 simp only at h1 h2 h3 h4
 cases cs with
 | nil => exact absurd rfl h3
 | cons c r =>
  have k0 := Lk (Lo h) (FJ s) r (fun x hx => h4 x (List.mem_cons_of_mem _ hx))
  have k1 := Li k0 (Lj (FJ s) r) (h4 c (List.mem_cons_self ..))
  have k2 := (aT.mark (m := [61]) dC dC k1).space
  have k3 := FK k2 (jx dC) ps h2
  have k4 := aT.kg (w := eC) dC (aT.cons (w := n) (by rw [h1]; decide) k3.1 k3.2)
  simpa [nw, pX, nv, zJ] using k4
theorem Uk {s : Bytes} {ws : List Bytes} (h : aT s ws) {b : Bi} (hb : sV b) : aT (l9 b ++ s) (ny b ++ ws) := by
 obtain ⟨p, r, n, hs, sg, e⟩ := b
 obtain ⟨h1, h2, _, h4⟩ := hb
 simp only at h1 h2 h4
 have k1 := aT.append (Ul h4) (Lo h) (FJ s)
 have k2 : aT (32 :: ([61] ++ (32 :: (bL e ++ ([59, 10] ++ s))))) ([61] :: (bD e ++ ([59] :: ws))) := (aT.kg (w := [61]) dC k1).space
 have k3 : aT (uJ ⟨p, r, n, hs, sg, e⟩ ++ (32 :: ([61] ++ (32 :: (bL e ++ ([59, 10] ++ s)))))) (lI ⟨p, r, n, hs, sg, e⟩ ++ ([61] :: (bD e ++ ([59] :: ws)))) ∧ ∀ q, apart q → apart ((uJ ⟨p, r, n, hs, sg, e⟩ ++ (32 :: ([61] ++ (32 :: (bL e ++ ([59, 10] ++ s)))))) ++ q) := by
  cases hs with
  | true =>
   have := (aT.kg (w := [58]) dC (aT.append (zM (h2 rfl)) k2 (jx dC))).space
   exact ⟨by simpa [uJ, lI] using this, jx dC⟩
  | false => exact ⟨by simpa [uJ, lI] using k2, jx dC⟩
 have k4 := aT.cons (w := n) (by rw [h1]; decide) k3.1 k3.2
 cases r with
 | true =>
  have k5 := aT.kg (w := dI) dC (aT.kg (w := fy) dC k4)
  simpa [l9, ny] using k5
 | false =>
  have k5 := aT.kg (w := dI) dC k4
  simpa [l9, ny] using k5
theorem Lp {s : Bytes} {ws : List Bytes} (h : aT s ws) : ∀ (l : List Da), (∀ d ∈ l, uK d) → aT (l.flatMap nw ++ s) (l.flatMap pX ++ ws)
 | [], _ => by simpa using h
 | d :: l, hg => by
  have := Uj (Lp h l (fun t ht => hg t (List.mem_cons_of_mem _ ht))) (hg d (List.mem_cons_self ..))
  simpa using this
theorem Lq {s : Bytes} {ws : List Bytes} (h : aT s ws) : ∀ (l : List Bi), (∀ d ∈ l, sV d) → aT (l.flatMap l9 ++ s) (l.flatMap ny ++ ws)
 | [], _ => by simpa using h
 | d :: l, hg => by
  have := Uk (Lq h l (fun t ht => hg t (List.mem_cons_of_mem _ ht))) (hg d (List.mem_cons_self ..))
  simpa using this
theorem Um {p : Pg} (h : FH p) : aT (o_ p) (zK p) := by
 have := Lp (Lq aT.nil p.binds h.b) p.al h.d
 simpa [o_, zK] using this
/-! Reading. -/
theorem Lr {l : List Tok} {m : Bytes} : ∀ (vs : List Bytes) (i : Nat) (ws : List (Int × Bytes)), (∀ v ∈ vs, kindOf v = 1) → bS l i (bq vs ++ (5, m) :: ws) → lowers (l.drop i) = vs
 | [], i, ws, _, h => by
  obtain ⟨t, h1, h2, h3, _⟩ := fT (k := 5) (w := m) (ws := ws) h
  have hi := (List.getElem?_eq_some_iff.1 h1)
  rw [List.drop_eq_getElem_cons hi.1, hi.2]
  simp [lowers, h2]
 | v :: vs, i, ws, hv, h => by
  obtain ⟨t, h1, h2, h3, h4⟩ := fT (k := kindOf v) (w := v) (ws := bq vs ++ (5, m) :: ws) h
  have hi := (List.getElem?_eq_some_iff.1 h1)
  rw [List.drop_eq_getElem_cons hi.1, hi.2]
  simp only [lowers, h2, hv v (List.mem_cons_self ..), if_true, h3]
  rw [Lr vs (i + 1) ws (fun x hx => hv x (List.mem_cons_of_mem _ hx)) h4]
theorem Un (ws : List (Int × Bytes)) : pg ((5, [124]) :: ws) := fun k w r e => by cases e; decide
theorem Uo (ws : List (Int × Bytes)) : pg ((5, [59]) :: ws) := fun k w r e => by cases e; decide
theorem Ls {l : List Tok} {c : Cn} (hc : wR c) {ws : List (Int × Bytes)} (hs : pg ws) {j : Nat} (h : bS l j (bq (lH c) ++ ws)) :
  nameAt l j 2 = some c.name ∧ a_ l (.args c.name []) (j + 1) = .ok (bJ c.name c.fields, j + (lH c).length) ∧ bS l (j + (lH c).length) ws := by
 have h0 : bS l j ((kindOf c.name, c.name) :: (bq (jg c.fields) ++ ws)) := h
 rw [hc.n] at h0
 refine ⟨uL h0, ?_, ?_⟩
 ·rw [zN l c.name ws hs c.fields hc.f (fun a ha => FL (hc.f a ha)) [] (j + 1) (gK h0)]
  simp only [List.nil_append, lH, List.length_cons]
  congr 2
  omega
 ·have := jh h
  rwa [ij] at this
theorem Lt {l : List Tok} {ws : List (Int × Bytes)} : ∀ (r : List Cn) (c : Cn) (acc : List Cn) (j : Nat), (∀ x ∈ c :: r, wR x) → bS l j (bq (lH c ++ mG r) ++ (5, [59]) :: ws) →
  ∃ cs, oT l acc j = .ok (acc ++ cs, j + (lH c ++ mG r).length + 1) ∧ cs.map pf = (c :: r).map pf
 | [], c, acc, j, hg, h => by
  have h' : bS l j (bq (lH c) ++ (5, [59]) :: ws) := by simpa [mG] using h
  obtain ⟨h1, h2, h3⟩ := Ls (hg c (List.mem_cons_self ..)) (Uo ws) h'
  refine ⟨[⟨posOf l j, c.name, c.fields⟩], ?_, rfl⟩
  rw [EH, h1]
  simp only [h2]
  rw [if_neg (by unfold bB; rw [ma h3 (.inr dC)]; decide), if_pos (kD h3)]
  simp only [mG, List.append_nil]
  rfl
 | c2 :: r, c, acc, j, hg, h => by
  have h' : bS l j (bq (lH c) ++ (5, [124]) :: (bq (lH c2 ++ mG r) ++ (5, [59]) :: ws)) := by
   rw [mG, jS, gX, show kindOf [124] = 5 by decide] at h
   simpa using h
  obtain ⟨h1, h2, h3⟩ := Ls (hg c (List.mem_cons_self ..)) (Un _) h'
  obtain ⟨cs, h4, h5⟩ := Lt r c2 (acc ++ [⟨posOf l j, c.name, c.fields⟩]) (j + (lH c).length + 1) (fun x hx => hg x (List.mem_cons_of_mem _ hx)) (gK h3)
  refine ⟨⟨posOf l j, c.name, c.fields⟩ :: cs, ?_, by rw [List.map_cons, h5]; rfl⟩
  rw [EH, h1]
  simp only [h2]
  rw [if_pos (kD h3)]
  have e : (bJ c.name c.fields).args = c.fields := rfl
  rw [e, h4]
  simp only [List.append_assoc, List.singleton_append, mG, List.length_append, List.length_cons]
  congr 2
  omega
theorem Up {l : List Tok} {d : Da} (hd : uK d) {i : Nat} {ws : List (Int × Bytes)} (h : bS l i (bq (pX d) ++ ws)) : ∃ d', iL l i = .ok (d', i + (pX d).length) ∧ l_ d' = l_ d := by
 obtain ⟨p, n, ps, cs⟩ := d
 obtain ⟨h1, h2, h3, h4⟩ := hd
 simp only at h1 h2 h3 h4
 cases cs with
 | nil => exact absurd rfl h3
 | cons c r =>
  have k0 : bS l i ((4, eC) :: (2, n) :: (bq ps ++ (5, [61]) :: (bq (lH c ++ mG r) ++ (5, [59]) :: ws))) := by
   have e1 : kindOf eC = 4 := by decide
   have e2 : kindOf [61] = 5 := by decide
   have e3 : kindOf [59] = 5 := by decide
   simpa [pX, zJ, gX, jS, e1, e2, e3, h1, bq] using h
  have k1 := gK k0
  have k2 := gK k1
  have k3 := jh k2
  rw [ij] at k3
  have kh := Lr ps (i + 2) _ h2 k2
  obtain ⟨cs, e4, e5⟩ := Lt r c [] (i + 2 + ps.length + 1) h4 (gK k3)
  refine ⟨⟨posOf l i, n, ps, cs⟩, ?_, by simp only [l_, e5]⟩
  unfold iL
  rw [if_pos (show cA l i eC = true from n8 k0), uL k1]
  simp only
  rw [kh, if_pos (kD k3), e4]
  simp only [List.nil_append]
  congr 2
  simp only [pX, zJ, List.length_cons, List.length_append, List.length_nil]
  omega
theorem Lu {l : List Tok} {e : Ex} (he : eQ e) {k : Nat} {ws : List (Int × Bytes)} (mk : Ex → Bi) (h : bS l k (bq ([61] :: (bD e ++ [[59]])) ++ ws)) : ∃ y, nb l mk k = .ok (mk y, k + (bD e).length + 2) ∧ bV y = bV e := by
 have k0 : bS l k ((5, [61]) :: (bq (bD e) ++ (5, [59]) :: ws)) := by
  have e2 : kindOf [61] = 5 := by decide
  have e3 : kindOf [59] = 5 := by decide
  simpa [gX, jS, e2, e3, bq] using h
 have k1 := gK k0
 obtain ⟨y, h1, h2⟩ := (Uq he l (k + 1) _).1 (uN _ dC) k1
 have k2 := jh k1
 rw [ij] at k2
 refine ⟨y, ?_, h2⟩
 unfold nb
 rw [if_pos (kD k0), h1]
 simp only
 rw [if_pos (kD k2)]
 congr 2
 omega
theorem Lv {l : List Tok} {b : Bi} (hb : sV b) {pos : Int} {j : Nat} {ws : List (Int × Bytes)} (h : bS l j (bq (b.name :: (lI b ++ ([61] :: (bD b.body ++ [[59]])))) ++ ws)) :
  ∃ y, pP l pos b.isRec j = .ok (⟨pos, b.isRec, b.name, b.fD, b.sig, y⟩, j + (lI b).length + (bD b.body).length + 3) ∧ bV y = bV b.body := by
 obtain ⟨p, r, n, hs, sg, e⟩ := b
 obtain ⟨h1, h2, h3, h4⟩ := hb
 simp only at h1 h2 h3 h4 h ⊢
 have k0 : bS l j ((1, n) :: (bq (lI ⟨p, r, n, hs, sg, e⟩) ++ (bq ([61] :: (bD e ++ [[59]])) ++ ws))) := by
  rw [gX, h1, jS] at h
  simpa using h
 have k1 := gK k0
 unfold pP
 rw [uL k0]
 simp only
 cases hs with
 | true =>
  have e1 : kindOf [58] = 5 := by decide
  have k2 : bS l (j + 1) ((5, [58]) :: (bq (dN sg) ++ (bq ([61] :: (bD e ++ [[59]])) ++ ws))) := by simpa [lI, gX, e1] using k1
  have k3 := gK k2
  have e2 : bq ([61] :: (bD e ++ [[59]])) ++ ws = (5, [61]) :: (bq (bD e ++ [[59]]) ++ ws) := by rw [gX, show kindOf [61] = 5 by decide]; rfl
  have k4 := ((FL (h2 rfl)) l (j + 1 + 1) _).1 (by rw [e2]; exact ⟨(fun k w r e => by cases e; decide), (fun k w r e => by cases e; decide)⟩) k3
  have k5 := jh k3
  rw [ij] at k5
  rw [if_pos (kD k2), show j + 2 = j + 1 + 1 by omega, k4]
  simp only
  obtain ⟨y, q1, q2⟩ := Lu h4 (fun e => ⟨pos, r, n, true, sg, e⟩) k5
  refine ⟨y, ?_, q2⟩
  rw [q1]
  simp only [lI, if_true, List.length_cons]
  congr 2
  omega
 | false =>
  have k2 : bS l (j + 1) (bq ([61] :: (bD e ++ [[59]])) ++ ws) := by simpa [lI, bq] using k1
  have zO : bS l (j + 1) ((5, [61]) :: (bq (bD e ++ [[59]]) ++ ws)) := by
   rw [gX, show kindOf [61] = 5 by decide] at k2
   exact k2
  rw [if_neg (by unfold bB; rw [ma zO (.inr dC)]; decide)]
  obtain ⟨y, q1, q2⟩ := Lu h4 (fun e => ⟨pos, r, n, false, bX, e⟩) k2
  refine ⟨y, ?_, q2⟩
  rw [q1, h3 rfl]
  simp only [lI]
  congr 2
  simp
  omega
theorem Ur {l : List Tok} {b : Bi} (hb : sV b) {i : Nat} {ws : List (Int × Bytes)} (h : bS l i (bq (ny b) ++ ws)) : cA l i eC = false ∧ ∃ b', jo l i = .ok (b', i + (ny b).length) ∧ lJ b' = lJ b := by
 have e1 : kindOf dI = 4 := by decide
 have k0 : bS l i ((4, dI) :: (bq ((if b.isRec then [fy] else []) ++ (b.name :: (lI b ++ ([61] :: (bD b.body ++ [[59]]))))) ++ ws)) := by
  rw [ny, gX, e1] at h
  exact h
 refine ⟨ma k0 (.inr dC), ?_⟩
 have k1 := gK k0
 unfold jo
 rw [if_pos (show cA l i dI = true from n8 k0)]
 cases hr : b.isRec with
 | true =>
  rw [hr] at k1
  have e2 : kindOf fy = 4 := by decide
  have k2 : bS l (i + 1) ((4, fy) :: (bq (b.name :: (lI b ++ ([61] :: (bD b.body ++ [[59]])))) ++ ws)) := by
   simp only [if_true, List.singleton_append] at k1
   rw [gX, e2] at k1
   exact k1
  obtain ⟨y, q1, q2⟩ := Lv (pos := posOf l i) hb (gK k2)
  rw [if_pos (show cA l (i + 1) fy = true from n8 k2)]
  rw [hr] at q1
  refine ⟨_, by rw [show i + 2 = i + 1 + 1 by omega, q1]; congr 2; simp only [ny, hr, if_true, List.length_cons, List.length_append]; simp; omega, by simp only [lJ, q2, hr]⟩
 | false =>
  rw [hr] at k1
  have k2 : bS l (i + 1) (bq (b.name :: (lI b ++ ([61] :: (bD b.body ++ [[59]])))) ++ ws) := by simpa using k1
  have k3 : bS l (i + 1) ((1, b.name) :: (bq (lI b ++ ([61] :: (bD b.body ++ [[59]]))) ++ ws)) := by
   rw [gX, hb.n] at k2
   exact k2
  obtain ⟨y, q1, q2⟩ := Lv (pos := posOf l i) hb k2
  rw [if_neg (by unfold cA; rw [ma k3 (.inl dC)]; decide)]
  rw [hr] at q1
  refine ⟨_, by rw [q1]; congr 2; simp only [ny, hr, List.length_cons, List.length_append]; simp; omega, by simp only [lJ, q2, hr]⟩
theorem Lx {l : List Tok} : ∀ (bs : List Bi) (P : Pg) (i : Nat), (∀ b ∈ bs, sV b) → bS l i (bq (bs.flatMap ny)) → ∃ n9, mH l P i = .ok ⟨P.al, P.binds ++ n9⟩ ∧ n9.map lJ = bs.map lJ
 | [], P, i, _, h => ⟨[], by
  have h0 := Ly (l := l) (i := i) (by simpa [bq] using h)
  rw [uO, if_neg (by rw [List.getElem?_eq_none_iff] at h0; omega), List.append_nil], rfl⟩
 | b :: bs, P, i, hg, h => by
  rw [List.flatMap_cons, jS] at h
  obtain ⟨h1, b', h2, h3⟩ := Ur (hg b (List.mem_cons_self ..)) h
  have hk := jh h
  rw [ij] at hk
  obtain ⟨n9, h4, h5⟩ := Lx bs ⟨P.al, P.binds ++ [b']⟩ _ (fun x hx => hg x (List.mem_cons_of_mem _ hx)) hk
  have hi : i < l.length := by
   have h0 : bS l i ((kindOf dI, dI) :: _) := h
   obtain ⟨t, ht, _⟩ := fT h0
   exact (List.getElem?_eq_some_iff.1 ht).1
  refine ⟨b' :: n9, ?_, by rw [List.map_cons, h3, h5]; rfl⟩
  rw [uO, if_pos hi, if_neg (by rw [h1]; decide), h2]
  simp only
  rw [h4]
  simp
theorem LA {l : List Tok} (bs : List Bi) (hb : ∀ b ∈ bs, sV b) : ∀ (ds : List Da) (P : Pg) (i : Nat), (∀ d ∈ ds, uK d) → bS l i (bq (ds.flatMap pX ++ bs.flatMap ny)) → ∃ zP n9, mH l P i = .ok ⟨P.al ++ zP, P.binds ++ n9⟩ ∧ zP.map l_ = ds.map l_ ∧ n9.map lJ = bs.map lJ
 | [], P, i, _, h => by
  obtain ⟨n9, h1, h2⟩ := Lx bs P i hb (by simpa using h)
  exact ⟨[], n9, by rw [h1, List.append_nil], rfl, h2⟩
 | d :: ds, P, i, hg, h => by
  rw [List.flatMap_cons, List.append_assoc, jS] at h
  obtain ⟨d', h2, h3⟩ := Up (hg d (List.mem_cons_self ..)) h
  have hk := jh h
  rw [ij] at hk
  obtain ⟨zP, n9, h4, h5, h6⟩ := LA bs hb ds ⟨P.al ++ [d'], P.binds⟩ _ (fun x hx => hg x (List.mem_cons_of_mem _ hx)) hk
  have h0 : bS l i ((4, eC) :: _) := h
  have hi : i < l.length := by
   obtain ⟨t, ht, _⟩ := fT h0
   exact (List.getElem?_eq_some_iff.1 ht).1
  refine ⟨d' :: zP, n9, ?_, by rw [List.map_cons, h3, h5]; rfl, h6⟩
  rw [uO, if_pos hi, if_pos (show cA l i eC = true from n8 h0), h2]
  simp only
  rw [h4]
  simp
theorem Us {l : List Tok} {p : Pg} (hp : FH p) (h : kt l = bq (zK p)) : ∃ q, mH l ⟨[], []⟩ 0 = .ok q ∧ nz q = nz p := by
 have h0 : bS l 0 (bq (zK p)) := by unfold bS; rw [List.drop_zero, h]
 obtain ⟨ds, bs, h1, h2, h3⟩ := LA p.binds hp.b p.al ⟨[], []⟩ 0 hp.d h0
 exact ⟨_, h1, by simp only [nz, List.nil_append, h2, h3]⟩
/-! Limits do not see positions. -/
mutual
theorem FM : ∀ e : Ex, jK (bV e) = jK e
 | .mk _ _ _ _ ks ra _ => by simp only [bV, jK, LB ks, LC ra]
theorem LB : ∀ l : List Ex, hJ (ku l) = hJ l
 | [] => rfl
 | a :: r => by simp only [ku, hJ, FM a, LB r]
theorem Ut : ∀ a : Ar, rZ (jJ a) = rZ a
 | .mk _ _ _ b => by simp only [jJ, rZ, FM b]
theorem LC : ∀ l : List Ar, nT (gB l) = nT l
 | [] => rfl
 | a :: r => by simp only [gB, nT, Ut a, LC r]
end
mutual
theorem FN : ∀ e : Ex, lp (bV e) = lp e
 | .mk _ _ _ _ ks ra _ => by simp only [bV, lp, LD ks, LF ra]
theorem LD : ∀ l : List Ex, iN (ku l) = iN l
 | [] => rfl
 | a :: r => by simp only [ku, iN, FN a, LD r]
theorem Uu : ∀ a : Ar, wq (jJ a) = wq a
 | .mk _ _ _ b => by simp only [jJ, wq, FN b]
theorem LF : ∀ l : List Ar, qH (gB l) = qH l
 | [] => rfl
 | a :: r => by simp only [gB, qH, Uu a, LF r]
end
theorem some_or {α : Type} (a b : Option α) : (a.or b).isSome = (a.isSome || b.isSome) := by cases a <;> simp
theorem LG (a : Ar) (r : List Ar) : (kv (a :: r)).isSome = (decide (4 < a.vars.length) || (kv r).isSome) := by
 rw [kv]
 by_cases h : 4 < a.vars.length
 ·simp [h]
 ·rw [if_neg h]; simp [h]
theorem LH : ∀ l : List Ar, (kv (gB l)).isSome = (kv l).isSome
 | [] => rfl
 | .mk _ _ vs _ :: r => by
  rw [gB, jJ, LG, LG, LH r]
  rfl
mutual
theorem FO : ∀ e : Ex, (hO (bV e)).isSome = (hO e).isSome
 | .mk _ _ _ _ ks ra _ => by simp only [bV, hO, some_or, LH, LI ks, LJ ra]
theorem LI : ∀ l : List Ex, (gU (ku l)).isSome = (gU l).isSome
 | [] => rfl
 | a :: r => by simp only [ku, gU, some_or, FO a, LI r]
theorem Uv : ∀ a : Ar, (wu (jJ a)).isSome = (wu a).isSome
 | .mk _ _ _ b => by simp only [jJ, wu, FO b]
theorem LJ : ∀ l : List Ar, (qI (gB l)).isSome = (qI l).isSome
 | [] => rfl
 | a :: r => by simp only [gB, qI, some_or, Uv a, LJ r]
end
theorem LK : ∀ l : List Cn, (lq (l.map pf)).isSome = (lq l).isSome
 | [] => rfl
 | c :: r => by
  simp only [List.map_cons, lq, pf]
  split
  ·rfl
  ·exact LK r
theorem LL : ∀ (l : List Da) (i : Nat), (l0 i (l.map l_)).isSome = (l0 i l).isSome
 | [], _ => rfl
 | c :: r, i => by
  simp only [List.map_cons, l0, l_, List.length_map]
  split
  ·rfl
  ·simp only [some_or, LK, LL r]
theorem Uw (l : List Cn) : l3 (l.map pf) = l3 l := by
 unfold l3
 rw [List.any_map]
 rfl
theorem LM : ∀ l : List Da, (kx (l.map l_)).isSome = (kx l).isSome
 | [] => rfl
 | c :: r => by
  simp only [List.map_cons, kx, l_, Uw]
  split
  ·rfl
  ·exact LM r
theorem Ux (e : Ex) : kT (bV e) = kT e := by simp only [kT, FM, FN]
theorem LN : ∀ l : List Bi, (iz (l.map lJ)).isSome = (iz l).isSome
 | [] => rfl
 | c :: r => by
  simp only [List.map_cons, iz, lJ, Ux]
  split
  ·rfl
  ·simp only [some_or, Option.isSome_map, FO, LN r]
theorem deepBs_cod : ∀ (l : List Bi) (x : Int × Int), iz l = some x → x.1 ≠ 0
 | [], _, h => by cases h
 | b :: r, x, h => by
  simp only [iz] at h
  split at h
  ·cases h; exact (by decide : (4 : Int) ≠ 0)
  ·cases hw : hO b.body with
   | none => rw [hw] at h; exact deepBs_cod r x (by simpa using h)
   | some q => rw [hw] at h; simp at h; subst h; exact (by decide : (5 : Int) ≠ 0)
theorem LO (p : Pg) : (fH p).1 = 0 ↔ (jL p).isSome = false ∧ (kx p.al).isSome = false ∧ (iz p.binds).isSome = false := by
 unfold fH
 cases h1 : jL p with
 | some q => simp
 | none =>
  cases h2 : kx p.al with
  | some q => simp
  | none =>
   cases h3 : iz p.binds with
   | none => simp
   | some x => simpa using deepBs_cod _ _ h3
theorem LP (p : Pg) : (fH (nz p)).1 = 0 ↔ (fH p).1 = 0 := by
 rw [LO, LO]
 have h1 : (jL (nz p)).isSome = (jL p).isSome := by
  unfold jL
  rw [some_or, some_or]
  simp only [nz, LL, List.length_map]
  congr 1
  split <;> rfl
 rw [h1]
 simp only [nz, LM, LN]
theorem Uy {p q : Pg} (h : nz q = nz p) : p.al.length = q.al.length ∧ p.binds.length = q.binds.length := by
 have h1 := congrArg (fun x => x.al.length) h
 have h2 := congrArg (fun x => x.binds.length) h
 simp only [nz, List.length_map] at h1 h2
 exact ⟨h1.symm, h2.symm⟩
end Go.Th

/- The frame of a law: from a contract to the statement's call; over any program. -/
namespace Go.aZ
open Go Go.RowKit Go.ChangeShapes Go.WideShapes Go.ChangeAt
def uP (w : World) : ab := fun b o => w.cell? ⟨b, o, none⟩
theorem Uz (w : World) : Holds (uP w) [] w := ⟨fun _ _ _ h => h, sM, by simp [cI], by simp [cI]⟩
theorem UA {P : Program} {f : FuncId} {cq : List Value} {v : Value} {W : World} (h : Pure P f cq (uP W) v) : Calls P f cq.toArray W fun e w' => e = .returned v ∧ Below W.heap.size W w' :=
 (h W (Uz W)).mono fun e w' ⟨v', g', own', he, ⟨h1, _, _⟩, hI⟩ => ⟨by rw [he, h1], ⟨hI.2.os, hI.2.tape, hI.2.output, hI.2.size, fun b hb => hI.2.kept b hb (by simp [cI])⟩⟩
theorem UB {P : Program} {H : Type} {enc : TypeId × Value → H} {W : World} {t e : TypeId} {k : IntKind} {a : Option Addr} {len cap : Nat} {d : DataW H} {ps : List MemPlace} (ht : P.underlying t = some (.slice e)) (he : P.underlying e = some (.int k)) (hc : P.cellsOf e = 1)
  (h : DataW.Trod enc P W 0 (fun _ => true) true t (.slice a len cap) d ps) : ∃ l : List Int, l.length = len ∧ au (uP W) 1 (.slice a len cap) l.length (l.map (Value.int k)) ∧ ∀ n ∈ l, (Lit.int k n).wf = true := by
 obtain ⟨fuel, hf⟩ := h
 rcases open_ints ht he hc hf with ⟨hcs, _⟩ | ⟨x, l, c, zs, hcs, _, hl, hm, hz, _, LQ, UC⟩
 ·simp [Value.cells] at hcs
  obtain ⟨rfl, rfl, rfl⟩ := hcs
  exact ⟨[], rfl, ⟨rfl, .inl ⟨⟨_, _, rfl⟩, rfl⟩⟩, sM⟩
 ·simp [Value.cells] at hcs
  obtain ⟨rfl, rfl, rfl⟩ := hcs
  simp at hz
  refine ⟨zs.take len, nM, ⟨sM, ?_⟩, fun n hn => UC n (List.mem_of_mem_take hn)⟩
  rcases Nat.eq_zero_or_pos len with h0 | h0
  ·subst h0; exact .inl ⟨⟨_, _, rfl⟩, sM⟩
  ·obtain ⟨b, off, spot⟩ := x
   have gA := LQ 0 oM
   have UD : spot = none := by simpa [Addr.add] using World.cell?_spot gA
   subst UD
   have hlen : (zs.take len).length = len := by simp; omega
   refine .inr ⟨b, off, cap, by rw [hlen], oM, hm, fun j v hv => ?_⟩
   simp only [List.getElem?_map, Option.map_eq_some_iff] at hv
   obtain ⟨z, kX, rfl⟩ := hv
   rw [List.getElem?_take] at kX
   split at kX
   ·obtain ⟨hj, hzj⟩ := List.getElem?_eq_some_iff.1 kX
    have := LQ j hj
    rw [List.getD_eq_getElem?_getD, kX] at this
    simpa [uP, pY] using this
   ·cases kX
end Go.aZ


/- Expressions in plain words: what is read moves on; the reading without guards. No program in sight. -/
import Derived.Test.YtlnjfkfojkgiiaaGreatDoorK5
namespace Go.Th
theorem E0 {l : List Tok} {f : EQ → Nat → ER} {q q' : EQ} {i i' : Nat} {x : Ex × Nat} (h : iZ l f q i q' i' = .ok x) : fB l q' i' < fB l q i ∧ f q' i' = .ok x := by
 unfold iZ at h
 split at h
 ·rename_i hlt; exact ⟨hlt, h⟩
 ·cases h
def EQ.wW : EQ → Bool
 | .apps _ => false
 | _ => true
theorem nU (l : List Tok) : ∀ (N : Nat) (q : TQ) (i : Nat) (x : Ty × Nat), dD l q i < N → a_ l q i = .ok x → i ≤ x.2
 | 0, _, _, _, h, _ => by omega
 | N + 1, q, i, x, hN, h => by
  have ih := nU l N
  cases q with
  | atom =>
   rw [nV] at h
   split at h
   ·cases h
   ·rename_i t ht
    have hi := (List.getElem?_eq_some_iff.1 ht).1
    split at h
    ·cases h; simp
    ·split at h
     ·cases h; simp
     ·split at h
      ·split at h
       ·cases h
       ·rename_i y j h1
        have i1 := ih .whole (i + 1) (y, j) (by simp only [dD, TQ.ck] at *; omega) h1
        split at h
        ·cases h; simp only at *; omega
        ·cases h
      ·cases h
  | args n acc =>
   rw [nQ] at h
   split at h
   ·rename_i hs
    have hi := r8 hs
    split at h
    ·cases h
    ·rename_i y j h1
     split at h
     ·rename_i ky
      have i1 := ih _ j x (by simp only [dD, TQ.ck] at *; omega) h
      omega
     ·cases h
   ·cases h; simp
  | fA =>
   rw [oX] at h
   split at h
   ·rename_i t ht
    have hi := (List.getElem?_eq_some_iff.1 ht).1
    split at h
    ·have i1 := ih _ (i + 1) x (by simp only [dD, TQ.ck] at *; omega) h
     omega
    ·exact ih _ i x (by simp only [dD, TQ.ck] at *; omega) h
   ·exact ih _ i x (by simp only [dD, TQ.ck] at *; omega) h
  | whole =>
   rw [qJ] at h
   split at h
   ·cases h
   ·rename_i a j h1
    have i1 := ih _ i (a, j) (by simp only [dD, TQ.ck] at *; omega) h1
    simp only at i1
    split at h
    ·rename_i hm
     have hj := cF hm
     split at h
     ·split at h
      ·cases h
      ·rename_i b k h2
       have i2 := ih _ (j + 1) (b, k) (by simp only [dD, TQ.ck] at *; omega) h2
       cases h
       simp only at *; omega
     ·cases h
    ·cases h; exact i1
theorem Rv {l : List Tok} {f : EQ → Nat → ER} {k p : Int} {i : Nat} {e : Ex} {j : Nat} (hf : ∀ q i e j, f q i = .ok (e, j) → i ≤ j) (h : j8 l f k p i = .ok (e, j)) : i < j := by
 unfold j8 at h
 split at h
 ·cases h
 ·split at h
  ·split at h
   ·cases h
   ·rename_i a k1 h1
    have i1 := hf _ _ _ _ h1
    split at h
    ·split at h
     ·cases h
     ·rename_i b m h2
      have i2 := hf _ _ _ _ h2
      cases h
      omega
    ·cases h
  ·cases h
theorem IZ (l : List Tok) : ∀ (N : Nat) (q : EQ) (i : Nat) (e : Ex) (j : Nat), fB l q i < N → bt l q i = .ok (e, j) → i ≤ j ∧ (q.wW = true → i < j)
 | 0, _, _, _, _, h, _ => by omega
 | N + 1, q, i, e, j, hN, h => by
  have ih := IZ l N
  rw [zt] at h
  have hf : ∀ q' i' e' j', iZ l (bt l) q i q' i' = .ok (e', j') → i' ≤ j' ∧ (q'.wW = true → i' < j') := fun q' i' e' j' hc => by
   obtain ⟨h1, h2⟩ := E0 hc
   exact ih q' i' e' j' oM h2
  have gF : ∀ q' i' e' j', iZ l (bt l) q i q' i' = .ok (e', j') → i' ≤ j' := fun q' i' e' j' hc => (hf q' i' e' j' hc).1
  cases q with
  | expr =>
   simp only [dM] at h
   suffices hh : i < j from ⟨oM, fun _ => hh⟩
   split at h
   ·split at h
    ·cases h
    ·split at h
     ·split at h
      ·cases h
      ·rename_i b k h1
       have i1 := gF _ _ _ _ h1
       cases h; omega
     ·cases h
   ·split at h
    ·split at h
     ·have := Rv gF h; omega
     ·have := Rv gF h; omega
    ·split at h
     ·split at h
      ·cases h
      ·rename_i e1 j1 h1
       have i1 := gF _ _ _ _ h1
       split at h
       ·have i2 := gF _ _ _ _ h; omega
       ·cases h
     ·split at h
      ·cases h
      ·rename_i e1 j1 h1
       have i1 := (hf _ _ _ _ h1).2 rfl
       have i2 := gF _ _ _ _ h
       omega
  | apps x =>
   simp only [dM] at h
   suffices hh : i ≤ j from ⟨hh, fun hm => by cases hm⟩
   split at h
   ·split at h
    ·cases h
    ·rename_i a j1 h1
     have i1 := gF _ _ _ _ h1
     have i2 := gF _ _ _ _ h
     omega
   ·cases h; omega
  | aK p x acc =>
   simp only [dM] at h
   suffices hh : i < j from ⟨oM, fun _ => hh⟩
   split at h
   ·cases h
   ·split at h
    ·split at h
     ·cases h
     ·rename_i b m h1
      have i1 := gF _ _ _ _ h1
      split at h
      ·have i2 := gF _ _ _ _ h; omega
      ·split at h
       ·cases h; omega
       ·cases h
    ·cases h
  | atom =>
   simp only [dM] at h
   suffices hh : i < j from ⟨oM, fun _ => hh⟩
   split at h
   ·cases h
   ·split at h
    ·cases h; omega
    ·split at h
     ·cases h; omega
     ·split at h
      ·cases h; omega
      ·split at h
       ·cases h; omega
       ·split at h
        ·split at h
         ·cases h
         ·rename_i x1 j1 h1
          have i1 := gF _ _ _ _ h1
          split at h
          ·cases h; omega
          ·cases h
        ·split at h
         ·split at h
          ·cases h
          ·rename_i x1 j1 h1
           have i1 := gF _ _ _ _ h1
           split at h
           ·split at h
            ·cases h
            ·rename_i y k h2
             have i2 := nU l _ _ _ _ (Nat.lt_succ_self _) h2
             simp only at i2
             split at h
             ·cases h; omega
             ·cases h
           ·split at h
            ·cases h; omega
            ·cases h
         ·cases h
theorem jH {l : List Tok} {q : EQ} {i : Nat} {e : Ex} {j : Nat} (h : bt l q i = .ok (e, j)) : i ≤ j := (IZ l _ q i e j (Nat.lt_succ_self _) h).1
theorem vW {l : List Tok} {q : EQ} {i : Nat} {e : Ex} {j : Nat} (hq : q.wW = true) (h : bt l q i = .ok (e, j)) : i < j := (IZ l _ q i e j (Nat.lt_succ_self _) h).2 hq
theorem Rw {l : List Tok} {q : EQ} {i : Nat} (hi : i < l.length) (k p : Int) {j : Nat} (hj : i < j) : j8 l (iZ l (bt l) q i) k p j = j8 l (bt l) k p j := by
 unfold j8
 rw [qA hi oM]
 cases nameAt l j 1 with
 | none => rfl
 | some n =>
  simp only
  cases h : bt l .expr (j + 2) with
  | error p => rfl
  | ok x =>
   obtain ⟨a, m⟩ := x
   have := jH h
   simp only
   rw [qA hi oM]
theorem jy (l : List Tok) (q : EQ) (i : Nat) : bt l q i = dM l (bt l) q i := by
 rw [zt]
 cases q with
 | expr =>
  simp only [dM]
  cases h1 : bB l i [92] with
  | true =>
   have hi := cF h1
   simp only [if_true]
   rw [qA hi oM]
  | false =>
   simp only [Bool.false_eq_true, if_false]
   cases h2 : cA l i dI with
   | true =>
    have hi := cF h2
    simp only [if_true]
    rw [Rw hi _ _ oM, Rw hi _ _ oM]
   | false =>
    simp only [Bool.false_eq_true, if_false]
    cases h3 : cA l i kC with
    | true =>
     have hi := cF h3
     simp only [if_true]
     rw [qA hi oM]
     cases h : bt l .expr (i + 1) with
     | error p => rfl
     | ok x =>
      obtain ⟨a, m⟩ := x
      have := jH h
      simp only
      rw [qA hi oM]
    | false =>
     simp only [Bool.false_eq_true, if_false]
     rw [Ru dC]
     cases h : bt l .atom i with
     | error p => rfl
     | ok x =>
      obtain ⟨a, m⟩ := x
      have := jH h
      simp only
      unfold iZ
      rw [if_pos (by simp only [fB, EQ.ck]; omega)]
 | apps x =>
  simp only [dM]
  cases h1 : mu l i with
  | false => rfl
  | true =>
   have hi : i < l.length := by
    unfold mu at h1
    cases ht : l[i]? with
    | none => rw [ht] at h1; cases h1
    | some t => exact (List.getElem?_eq_some_iff.1 ht).1
   simp only [if_true]
   rw [Ru (by simp [EQ.ck])]
   cases h : bt l .atom i with
   | error p => rfl
   | ok x =>
    obtain ⟨a, m⟩ := x
    have := vW rfl h
    simp only
    rw [qA hi this]
 | aK p x acc =>
  simp only [dM]
  cases h1 : nameAt l i 2 with
  | none => rfl
  | some c =>
   have hi : i < l.length := by
    unfold nameAt at h1
    cases ht : l[i]? with
    | none => rw [ht] at h1; cases h1
    | some t => exact (List.getElem?_eq_some_iff.1 ht).1
   simp only
   rw [qA hi oM]
   cases h : bt l .expr (i + 1 + (lowers (l.drop (i + 1))).length + 1) with
   | error p => rfl
   | ok x =>
    obtain ⟨a, m⟩ := x
    have := jH h
    simp only
    rw [qA hi oM]
 | atom =>
  simp only [dM]
  cases h1 : l[i]? with
  | none => rfl
  | some t =>
   have hi := (List.getElem?_eq_some_iff.1 h1).1
   simp only
   rw [qA hi oM]
end Go.Th

/- Types in plain words: the canonical text of a type, its tokens, and that they are read back. No program in sight. -/
namespace Go.Th
inductive fr : Ty → Prop where
 | name (n : Bytes) (h : kindOf n = 1) : fr (fY n)
 | bQ (n : Bytes) (az : List Ty) (h : kindOf n = 2) (ha : ∀ a ∈ az, fr a) : fr (bJ n az)
 | arrow (a b : Ty) (ha : fr a) (hb : fr b) : fr (cZ a b)
def jc (t : Ty) : Bool := decide (t.kind = 4) && decide (t.name = eg) && decide (t.args.length = 2)
def lA (t : Ty) : Bool := decide (t.kind = 4) && decide (0 < t.args.length)
mutual
def cK : Ty → Bytes
 | .mk k n _ _ az => if k = 5 then n else if n = eg then Rx az else n ++ eN az
def eN : List Ty → Bytes
 | [] => []
 | a :: r => 32 :: ((if lA a then 40 :: (cK a ++ [41]) else cK a) ++ eN r)
def Rx : List Ty → Bytes
 | [] => []
 | a :: r => (if jc a then 40 :: (cK a ++ [41]) else cK a) ++ Ry r
def Ry : List Ty → Bytes
 | [] => []
 | b :: _ => [32, 45, 62, 32] ++ cK b
end
mutual
def dN : Ty → List Bytes
 | .mk k n _ _ az => if k = 5 then [n] else if n = eg then Rz az else n :: jg az
def jg : List Ty → List Bytes
 | [] => []
 | a :: r => (if lA a then [40] :: (dN a ++ [[41]]) else dN a) ++ jg r
def Rz : List Ty → List Bytes
 | [] => []
 | a :: r => (if jc a then [40] :: (dN a ++ [[41]]) else dN a) ++ RA r
def RA : List Ty → List Bytes
 | [] => []
 | b :: _ => eg :: dN b
end
def lu (t : Ty) : Bytes := if lA t then 40 :: (cK t ++ [41]) else cK t
def ke (t : Ty) : List Bytes := if lA t then [40] :: (dN t ++ [[41]]) else dN t
def ni (t : Ty) : Bytes := if jc t then 40 :: (cK t ++ [41]) else cK t
def vS (t : Ty) : List Bytes := if jc t then [40] :: (dN t ++ [[41]]) else dN t
theorem Fp (n : Bytes) : cK (fY n) = n := by simp [fY, cK]
theorem yQ (n : Bytes) : dN (fY n) = [n] := by simp [fY, dN]
theorem sk {n : Bytes} (h : kindOf n = 2) : n ≠ eg := by
 intro e; subst e
 have : kindOf eg = 5 := by decide
 omega
theorem uA {n : Bytes} (az : List Ty) (h : n ≠ eg) : cK (bJ n az) = n ++ eN az := by simp [bJ, cK, h]
theorem I0 {n : Bytes} (az : List Ty) (h : n ≠ eg) : dN (bJ n az) = n :: jg az := by simp [bJ, dN, h]
theorem uB (a b : Ty) : cK (cZ a b) = ni a ++ ([32, 45, 62, 32] ++ cK b) := by simp [cZ, bJ, cK, Rx, Ry, ni]
theorem RB (a b : Ty) : dN (cZ a b) = vS a ++ (eg :: dN b) := by simp [cZ, bJ, dN, Rz, RA, vS]
theorem oZ (a : Ty) (r : List Ty) : eN (a :: r) = 32 :: (lu a ++ eN r) := by simp [eN, lu]
theorem FI (a : Ty) (r : List Ty) : jg (a :: r) = ke a ++ jg r := by simp [jg, ke]
theorem jS (a b : List Bytes) : bq (a ++ b) = bq a ++ bq b := by simp [bq]
theorem gX (a : Bytes) (b : List Bytes) : bq (a :: b) = (kindOf a, a) :: bq b := rfl
def aT (s : Bytes) (ws : List Bytes) : Prop := ∀ i r us, apart r → (∀ j, ui (ed j r) us) → ui (ed i (s ++ r)) (bq ws ++ us)
theorem aT.word {w : Bytes} (h : kindOf w ≠ 0) : aT w [w] := fun _ _ _ hr hu => aDR h hr (hu _)
theorem aT.space {s : Bytes} {ws : List Bytes} (h : aT s ws) : aT (32 :: s) ws := fun i r us hr hu => by
 rw [List.cons_append]
 exact Ll (u := [32]) (Lm dC Ln) (fun j => h j r us hr hu)
theorem aT.nil : aT [] [] := fun i _ _ _ hu => hu i
theorem aT.append {s s' : Bytes} {ws I1 : List Bytes} (h : aT s ws) (h' : aT s' I1) (hs : ∀ r, apart r → apart (s' ++ r)) : aT (s ++ s') (ws ++ I1) := fun i r us hr hu => by
 rw [List.append_assoc, jS, List.append_assoc]
 exact h i (s' ++ r) (bq I1 ++ us) (hs r hr) (fun j => h' j r us hr hu)
theorem aT.mark {m s : Bytes} {ws : List Bytes} (hm : l7 m = true) (hk : kindOf m ≠ 0) (h : aT s ws) : aT (m ++ s) (m :: ws) := fun i r us hr hu => by
 rw [List.append_assoc, gX, List.cons_append]
 have h0 := h (i + m.length) r us hr hu
 -- a mark is read whatever follows
 obtain ⟨l, h1, h2⟩ := h0
 have key : ed i (m ++ (s ++ r)) = match ed (i + m.length) (s ++ r) with
   | .error e => .error e
   | .ok l => .ok (⟨kindOf m, m, i⟩ :: l) := by
  rcases Rq hm with rfl | ⟨c, hc, rfl⟩
  ·have := Ee (c := 45) (r := 62 :: (s ++ r)) i dC dC
   have e1 : cW (45 :: 62 :: (s ++ r)) = 2 := by simp [rJ, show inner 45 = false by decide]
   rw [e1] at this
   simp only [List.take_succ_cons, List.take_zero, List.drop_succ_cons, List.drop_zero] at this
   exact this hk
  ·have hh : ∀ c ∈ kA, ee c = false ∧ c.toNat ≠ 35 ∧ inner c = false ∧ c.toNat ≠ 45 := by decide
   obtain ⟨h1, h2, h3, h4⟩ := hh c hc
   have := Ee (c := c) (r := s ++ r) i h1 h2
   have e1 : cW (c :: (s ++ r)) = 1 := by rw [rJ, if_neg (by simp [h3]), if_neg h4]
   rw [e1] at this
   simp only [List.take_succ_cons, List.take_zero, List.drop_succ_cons, List.drop_zero] at this
   exact this hk
 rw [key, h1]
 exact ⟨_, rfl, by rw [← h2]; rfl⟩
theorem jx {c : UInt8} {s : Bytes} (h : inner c = false) : ∀ r, apart r → apart ((c :: s) ++ r) := fun _ _ => zL h
theorem RC : ∀ r, apart r → apart ([] ++ r) := fun _ h => h
theorem aT.paren {s : Bytes} {ws : List Bytes} (h : aT s ws) : aT (40 :: (s ++ [41])) ([40] :: (ws ++ [[41]])) :=
 aT.mark (m := [40]) dC dC (h.append (aT.word (w := [41]) dC) (jx dC))
theorem zM {t : Ty} (h : fr t) : aT (cK t) (dN t) := by
 induction h with
 | name n h => rw [Fp, yQ]; exact aT.word oM
 | bQ n az h ha ih =>
  rw [uA az (sk h), I0 az (sk h)]
  have key : ∀ az : List Ty, (∀ a ∈ az, aT (cK a) (dN a)) → aT (eN az) (jg az) ∧ ∀ r, apart r → apart (eN az ++ r) := by
   intro az
   induction az with
   | nil => intro _; exact ⟨by simp only [eN, jg]; exact aT.nil, by simp only [eN]; exact RC⟩
   | cons a r oG =>
    intro hh
    have i1 := oG (fun x hx => hh x (List.mem_cons_of_mem _ hx))
    have i2 := hh a (List.mem_cons_self ..)
    rw [oZ, FI]
    refine ⟨aT.space (aT.append ?_ i1.1 i1.2), jx dC⟩
    unfold lu ke
    split
    ·exact i2.paren
    ·exact i2
  have := key az ih
  exact aT.append (ws := [n]) (aT.word oM) this.1 this.2
 | arrow a b ha hb iha nq =>
  rw [uB, RB]
  show aT (ni a ++ (32 :: (eg ++ (32 :: cK b)))) _
  refine aT.append ?_ (aT.space ?_) (jx dC)
  ·unfold ni vS
   split
   ·exact iha.paren
   ·exact iha
  ·exact aT.append (ws := [eg]) (aT.word (w := eg) dC) (aT.space nq) (jx dC)
def bS (l : List Tok) (i : Nat) (ws : List (Int × Bytes)) : Prop := (kt l).drop i = ws
theorem fT {l : List Tok} {i : Nat} {k : Int} {w : Bytes} {ws : List (Int × Bytes)} (h : bS l i ((k, w) :: ws)) : ∃ t, l[i]? = some t ∧ t.kind = k ∧ t.text = w ∧ bS l (i + 1) ws := by
 have h0 : (kt l)[i]? = some (k, w) := by
  have : ((kt l).drop i)[0]? = some (k, w) := by rw [h]; rfl
  rwa [List.getElem?_drop, Nat.add_zero] at this
 have h1 : bS l (i + 1) ws := by
  have : ((kt l).drop i).drop 1 = ws := by rw [h]; rfl
  rwa [List.drop_drop] at this
 unfold kt at h0
 rw [List.getElem?_map, Option.map_eq_some_iff] at h0
 obtain ⟨t, h2, h3⟩ := h0
 simp only [Prod.mk.injEq] at h3
 exact ⟨t, h2, h3.1, h3.2, h1⟩
theorem jh {l : List Tok} {i : Nat} {us ws : List (Int × Bytes)} (h : bS l i (us ++ ws)) : bS l (i + us.length) ws := by
 unfold bS at *
 rw [← List.drop_drop, h, List.drop_left]
theorem ij (ws : List Bytes) : (bq ws).length = ws.length := by simp [bq]
def pg (ws : List (Int × Bytes)) : Prop := ∀ k w r, ws = (k, w) :: r → k ≠ 1 ∧ k ≠ 2 ∧ ¬ (k = 5 ∧ w = [40])
def yR (ws : List (Int × Bytes)) : Prop := pg ws ∧ ∀ k w r, ws = (k, w) :: r → ¬ (k = 5 ∧ w = eg)
theorem aDT {l : List Tok} {i : Nat} {ws : List (Int × Bytes)} (h : bS l i ws) (hs : pg ws) : gH l i = false := by
 unfold gH
 cases hl : l[i]? with
 | none => rfl
 | some t =>
  cases ws with
  | nil =>
   have hi := (List.getElem?_eq_some_iff.1 hl).1
   have : (kt l).length ≤ i := List.drop_eq_nil_iff.1 h
   simp [kt] at this
   omega
  | cons x r =>
   obtain ⟨k, w⟩ := x
   obtain ⟨t', h1, h2, h3, _⟩ := fT h
   rw [hl] at h1; cases h1
   obtain ⟨a, b, c⟩ := hs k w r rfl
   simp only [kQ, h2, h3]
   simp only [Bool.or_eq_false_iff, Bool.and_eq_false_iff, decide_eq_false_iff_not]
   refine ⟨⟨a, b⟩, ?_⟩
   by_cases h5 : k = 5
   ·exact .inr fun e => c ⟨h5, e⟩
   ·exact .inl h5
theorem aDU {l : List Tok} {i : Nat} {ws : List (Int × Bytes)} {m : Bytes} (h : bS l i ws) (hs : ∀ k w r, ws = (k, w) :: r → ¬ (k = 5 ∧ w = m)) : bB l i m = false := by
 unfold bB df
 cases hl : l[i]? with
 | none => rfl
 | some t =>
  cases ws with
  | nil =>
   have hi := (List.getElem?_eq_some_iff.1 hl).1
   have : (kt l).length ≤ i := List.drop_eq_nil_iff.1 h
   simp [kt] at this
   omega
  | cons x r =>
   obtain ⟨k, w⟩ := x
   obtain ⟨t', h1, h2, h3, _⟩ := fT h
   rw [hl] at h1; cases h1
   have := hs k w r rfl
   simp only [h2, h3, Bool.and_eq_false_iff, decide_eq_false_iff_not]
   by_cases h5 : k = 5
   ·exact .inr fun e => this ⟨h5, e⟩
   ·exact .inl h5
theorem kD {l : List Tok} {i : Nat} {ws : List (Int × Bytes)} {m : Bytes} (h : bS l i ((5, m) :: ws)) : bB l i m = true := by
 obtain ⟨t, h1, h2, h3, _⟩ := fT h
 unfold bB df
 rw [h1]
 simp [h2, h3]
theorem yS (ws : List (Int × Bytes)) : yR ((5, [41]) :: ws) :=
 ⟨fun k w r e => by cases e; decide, fun k w r e => by cases e; decide⟩
theorem aDV (ws : List (Int × Bytes)) : pg ((5, eg) :: ws) := fun k w r e => by cases e; decide
theorem I2 {l : List Tok} {i : Nat} {t : Ty} {n : Nat} {us ws : List (Int × Bytes)} (hn : us.length = n) (h : bS l i ((5, [40]) :: (us ++ (5, [41]) :: ws))) (hw : bS l (i + 1) (us ++ (5, [41]) :: ws) → a_ l .whole (i + 1) = .ok (t, i + 1 + n)) :
  a_ l .atom i = .ok (t, i + (n + 2)) := by
 obtain ⟨x, h1, h2, h3, h4⟩ := fT h
 rw [nV, h1]
 simp only [h2, h3]
 rw [if_neg dC, if_neg dC, if_pos sM, hw h4]
 simp only
 have h5 := jh h4
 rw [hn] at h5
 rw [if_pos (kD h5)]
 congr 2; omega
theorem Eh (ws : List Bytes) (us : List (Int × Bytes)) : bq ([40] :: (ws ++ [[41]])) ++ us = (5, [40]) :: (bq ws ++ (5, [41]) :: us) := by
 rw [gX, jS]
 have e1 : kindOf [40] = 5 := by decide
 have e2 : bq [[41]] = [(5, [41])] := by decide
 rw [e1, e2]
 simp
def RD (t : Ty) : Prop := ∀ l i ws,
 (yR ws → bS l i (bq (dN t) ++ ws) → a_ l .whole i = .ok (t, i + (dN t).length)) ∧
 (jc t = false → pg ws → bS l i (bq (dN t) ++ ws) → a_ l .fA i = .ok (t, i + (dN t).length)) ∧
 (bS l i (bq (ke t) ++ ws) → a_ l .atom i = .ok (t, i + (ke t).length))
theorem RE {l : List Tok} {i j : Nat} {t : Ty} {ws : List (Int × Bytes)} (h : a_ l .fA i = .ok (t, j)) (hj : bS l j ws) (hs : yR ws) : a_ l .whole i = .ok (t, j) := by
 rw [qJ, h]
 simp only
 rw [if_neg (by rw [aDU hj hs.2]; decide)]
theorem aDW {t : Ty} (h : fr t) : ∃ w r, ke t = w :: r ∧ (kindOf w = 1 ∨ kindOf w = 2 ∨ w = [40]) := by
 unfold ke
 by_cases hp : lA t = true
 ·rw [if_pos hp]; exact ⟨_, _, rfl, .inr (.inr rfl)⟩
 ·rw [if_neg hp]
  cases h with
  | name n h => rw [yQ]; exact ⟨_, _, rfl, .inl h⟩
  | bQ n az h ha => rw [I0 az (sk h)]; exact ⟨_, _, rfl, .inr (.inl h)⟩
  | arrow a b ha hb => exact absurd (by simp [lA, cZ, bJ, Ty.kind, Ty.args]) hp
theorem aDX {l : List Tok} {i : Nat} {w : Bytes} {ws : List (Int × Bytes)} (h : bS l i ((kindOf w, w) :: ws)) (hw : kindOf w = 1 ∨ kindOf w = 2 ∨ w = [40]) : gH l i = true := by
 obtain ⟨x, h1, h2, h3, _⟩ := fT h
 unfold gH
 rw [h1]
 simp only [kQ, h2, h3]
 rcases hw with h | h | rfl
 ·simp [h]
 ·simp [h]
 ·decide
theorem zN (l : List Tok) (n : Bytes) (ws : List (Int × Bytes)) (hs : pg ws) : ∀ (az : List Ty), (∀ a ∈ az, fr a) → (∀ a ∈ az, RD a) → ∀ acc i, bS l i (bq (jg az) ++ ws) → a_ l (.args n acc) i = .ok (bJ n (acc ++ az), i + (jg az).length)
 | [], _, _, acc, i, h => by
  simp only [jg] at h ⊢
  rw [nQ, if_neg (by rw [aDT h hs]; decide)]
  simp
 | a :: r, hg, hr, acc, i, h => by
  rw [FI] at h ⊢
  have h0 : bS l i (bq (ke a) ++ (bq (jg r) ++ ws)) := by rw [← List.append_assoc, ← jS]; exact h
  obtain ⟨w, rr, e1, e2⟩ := aDW (hg a (List.mem_cons_self ..))
  have bG : gH l i = true := by
   refine aDX (w := w) (ws := bq rr ++ (bq (jg r) ++ ws)) ?_ e2
   rw [e1] at h0; exact h0
  have ha := (hr a (List.mem_cons_self ..) l i (bq (jg r) ++ ws)).2.2 h0
  have h1 := jh h0
  rw [ij] at h1
  rw [nQ, if_pos bG, ha]
  simp only
  rw [if_pos (by rw [e1]; simp), zN l n ws hs r (fun x hx => hg x (List.mem_cons_of_mem _ hx)) (fun x hx => hr x (List.mem_cons_of_mem _ hx)) (acc ++ [a]) _ h1]
  simp only [List.append_assoc, List.singleton_append, List.length_append, Nat.add_assoc]
theorem FL {t : Ty} (h : fr t) : RD t := by
 induction h with
 | name n h =>
  intro l i ws
  have oa : bS l i (bq (dN (fY n)) ++ ws) → a_ l .atom i = .ok (fY n, i + 1) ∧ a_ l .fA i = .ok (fY n, i + 1) ∧ bS l (i + 1) ws := by
   intro hk
   rw [yQ] at hk
   obtain ⟨x, h1, h2, h3, h4⟩ := fT (k := kindOf n) (w := n) (ws := ws) hk
   have ha : a_ l .atom i = .ok (fY n, i + 1) := by rw [nV, h1]; simp only [h2, h, h3, if_true]
   refine ⟨ha, ?_, h4⟩
   rw [oX, h1]
   simp only [h2, h]
   rw [if_neg dC]
   exact ha
  rw [yQ] at oa ⊢
  refine ⟨fun hs hk => RE (oa hk).2.1 (oa hk).2.2 hs, fun _ _ hk => (oa hk).2.1, fun hk => ?_⟩
  have e : ke (fY n) = [n] := by unfold ke; rw [if_neg (by simp [lA, fY, Ty.kind]), yQ]
  rw [e] at hk ⊢
  exact (oa hk).1
 | bQ n az h ha ih =>
  intro l i ws
  have e := I0 az (sk h)
  have oa : ∀ us, pg us → bS l i (bq (dN (bJ n az)) ++ us) → a_ l .fA i = .ok (bJ n az, i + (dN (bJ n az)).length) := by
   intro us hs hk
   rw [e] at hk ⊢
   obtain ⟨x, h1, h2, h3, h4⟩ := fT (k := kindOf n) (w := n) (ws := bq (jg az) ++ us) hk
   rw [oX, h1]
   simp only [h2, h, if_true, h3]
   rw [zN l n us hs az ha ih [] _ h4]
   simp only [List.nil_append, List.length_cons]
   congr 2; omega
  have yT : ∀ j us, yR us → bS l j (bq (dN (bJ n az)) ++ us) → (a_ l .fA j = .ok (bJ n az, j + (dN (bJ n az)).length)) → a_ l .whole j = .ok (bJ n az, j + (dN (bJ n az)).length) := by
   intro j us hs hk hh
   have := jh hk
   rw [ij] at this
   exact RE hh this hs
  have aDY : ∀ j us, pg us → bS l j (bq (dN (bJ n az)) ++ us) → a_ l .fA j = .ok (bJ n az, j + (dN (bJ n az)).length) := by
   intro j us hs hk
   rw [e] at hk ⊢
   obtain ⟨x, h1, h2, h3, h4⟩ := fT (k := kindOf n) (w := n) (ws := bq (jg az) ++ us) hk
   rw [oX, h1]
   simp only [h2, h, if_true, h3]
   rw [zN l n us hs az ha ih [] _ h4]
   simp only [List.nil_append, List.length_cons]
   congr 2; omega
  refine ⟨fun hs hk => yT i ws hs hk (oa ws hs.1 hk), fun _ hs hk => oa ws hs hk, fun hk => ?_⟩
  cases az with
  | nil =>
   have e2 : ke (bJ n []) = [n] := by unfold ke; rw [if_neg (by simp [lA, bJ, Ty.args]), e]; simp [jg]
   rw [e2] at hk ⊢
   obtain ⟨x, h1, h2, h3, h4⟩ := fT (k := kindOf n) (w := n) (ws := ws) hk
   rw [nV, h1]
   simp only [h2, h, h3]
   rw [if_neg dC]
   rfl
  | cons b bs =>
   have e2 : ke (bJ n (b :: bs)) = [40] :: (dN (bJ n (b :: bs)) ++ [[41]]) := by unfold ke; rw [if_pos (by simp [lA, bJ, Ty.args, Ty.kind])]
   rw [e2] at hk ⊢
   rw [Eh] at hk
   have := I2 (n := (dN (bJ n (b :: bs))).length) (ij _) hk (fun c_ => yT (i + 1) _ (yS _) c_ (aDY (i + 1) _ (yS _).1 c_))
   rw [this]
   simp
 | arrow a b ha hb iha nq =>
  intro l i ws
  have e := RB a b
  have yT : ∀ j us, yR us → bS l j (bq (dN (cZ a b)) ++ us) → a_ l .whole j = .ok (cZ a b, j + (dN (cZ a b)).length) := by
   intro j us hs hk
   rw [e, jS, List.append_assoc] at hk
   have h1 : a_ l .fA j = .ok (a, j + (vS a).length) := by
    unfold vS at hk ⊢
    by_cases hi : jc a = true
    ·rw [if_pos hi] at hk ⊢
     rw [Eh] at hk
     have h2 := I2 (n := (dN a).length) (ij _) hk (fun c_ => (iha l (j + 1) _).1 (yS _) c_)
     obtain ⟨x, g1, g2, g3, g4⟩ := fT hk
     rw [oX, g1]
     simp only [g2]
     rw [if_neg dC, h2]
     simp
    ·rw [if_neg hi] at hk ⊢
     exact (iha l j _).2.1 (by simpa using hi) (aDV _) hk
   have h3 := jh hk
   rw [ij] at h3
   obtain ⟨x, g1, g2, g3, g4⟩ := fT (k := 5) (w := eg) (ws := bq (dN b) ++ us) h3
   have h5 := (nq l (j + (vS a).length + 1) us).1 hs g4
   rw [qJ, h1]
   simp only
   rw [if_pos (kD (ws := bq (dN b) ++ us) h3), if_pos oM, h5]
   simp only [e, List.length_append, List.length_cons]
   congr 2; omega
  refine ⟨yT i ws, fun hn => absurd hn (by simp [jc, cZ, bJ, Ty.kind, Ty.name, Ty.args]), fun hk => ?_⟩
  have e2 : ke (cZ a b) = [40] :: (dN (cZ a b) ++ [[41]]) := by unfold ke; rw [if_pos (by simp [lA, cZ, bJ, Ty.args, Ty.kind])]
  rw [e2] at hk ⊢
  rw [Eh] at hk
  have := I2 (n := (dN (cZ a b)).length) (ij _) hk (fun c_ => yT (i + 1) _ (yS _) c_)
  rw [this]
  simp
end Go.Th

/- Expressions in plain words: the canonical text and its tokens. No program in sight. -/
namespace Go.Th
inductive eQ : Ex → Prop where
 | var (p : Int) (n : Bytes) (h : kindOf n = 1) : eQ (cN 1 p n 0)
 | bQ (p : Int) (n : Bytes) (h : kindOf n = 2) : eQ (cN 2 p n 0)
 | int (p : Int) (m : Nat) (h : m < 10) : eQ (cN 3 p [] m)
 | hole (p : Int) : eQ (cN 10 p [] 0)
 | lam (p : Int) (n : Bytes) (b : Ex) (h : kindOf n = 1) (hb : eQ b) : eQ (bC 4 p n [b])
 | app (p : Int) (f a : Ex) (hf : eQ f) (ha : eQ a) : eQ (bC 5 p [] [f, a])
 | bind (k p : Int) (n : Bytes) (a b : Ex) (hk : k = 6 ∨ k = 7) (h : kindOf n = 1) (ha : eQ a) (hb : eQ b) : eQ (bC k p n [a, b])
 | iY (p : Int) (e : Ex) (t : Ty) (he : eQ e) (ht : fr t) : eQ (h_ p e t)
 | held (p : Int) (e : Ex) (he : eQ e) : eQ (bC 11 p [] [e])
 | case (p : Int) (e : Ex) (az : List Ar) (he : eQ e) (hne : az ≠ []) (hc : ∀ a ∈ az, kindOf a.bQ = 2 ∧ ∀ v ∈ a.vars, kindOf v = 1) (ha : ∀ a ∈ az, eQ a.body) : eQ (eS p e az)
def fU (k : Int) : Bool := decide (k = 1) || decide (k = 2) || decide (k = 3) || decide (k = 10) || decide (k = 9) || decide (k = 11)
def jC (k : Int) : Bool := fU k || decide (k = 5)
def paren (s : Bytes) : Bytes := 40 :: (s ++ [41])
def parens (ws : List Bytes) : List Bytes := [40] :: (ws ++ [[41]])
def eU (vs : List Bytes) : Bytes := vs.flatMap (32 :: ·)
mutual
def bL : Ex → Bytes
 | .mk k _ n m ks az t =>
  if k = 1 then n else if k = 2 then n else if k = 3 then [UInt8.ofNat (48 + m.toNat)] else if k = 10 then [63]
  else if k = 4 then [92] ++ (n ++ ([46] ++ (32 :: oP ks)))
  else if k = 5 then RF ks
  else if k = 6 then dI ++ (32 :: (n ++ (32 :: ([61] ++ (32 :: Ei ks)))))
  else if k = 7 then dI ++ (32 :: (fy ++ (32 :: (n ++ (32 :: ([61] ++ (32 :: Ei ks)))))))
  else if k = 9 then [40] ++ (oP ks ++ (32 :: ([58] ++ (32 :: (cK t ++ [41])))))
  else if k = 11 then [123] ++ (oP ks ++ [125])
  else kC ++ (32 :: (oP ks ++ (32 :: (kP ++ (32 :: (gI az ++ (32 :: iD)))))))
def oP : List Ex → Bytes
 | [] => []
 | a :: _ => bL a
def RF : List Ex → Bytes
 | [] => []
 | f :: r => (if jC f.kind then bL f else paren (bL f)) ++ RG r
def RG : List Ex → Bytes
 | [] => []
 | a :: _ => 32 :: (if fU a.kind then bL a else paren (bL a))
def Ei : List Ex → Bytes
 | [] => []
 | a :: r => bL a ++ (32 :: (iC ++ (32 :: oP r)))
def iO : Ar → Bytes
 | .mk _ c vs b => c ++ (eU vs ++ ([46] ++ (32 :: bL b)))
def gI : List Ar → Bytes
 | [] => []
 | a :: r => iO a ++ ig r
def ig : List Ar → Bytes
 | [] => []
 | a :: r => 32 :: ([124] ++ (32 :: (iO a ++ ig r)))
end
mutual
def bD : Ex → List Bytes
 | .mk k _ n m ks az t =>
  if k = 1 then [n] else if k = 2 then [n] else if k = 3 then [[UInt8.ofNat (48 + m.toNat)]] else if k = 10 then [[63]]
  else if k = 4 then [92] :: n :: [46] :: oQ ks
  else if k = 5 then RH ks
  else if k = 6 then dI :: n :: [61] :: Ej ks
  else if k = 7 then dI :: fy :: n :: [61] :: Ej ks
  else if k = 9 then [40] :: (oQ ks ++ ([58] :: (dN t ++ [[41]])))
  else if k = 11 then [123] :: (oQ ks ++ [[125]])
  else kC :: (oQ ks ++ (kP :: (nI az ++ [iD])))
def oQ : List Ex → List Bytes
 | [] => []
 | a :: _ => bD a
def RH : List Ex → List Bytes
 | [] => []
 | f :: r => (if jC f.kind then bD f else parens (bD f)) ++ RI r
def RI : List Ex → List Bytes
 | [] => []
 | a :: _ => if fU a.kind then bD a else parens (bD a)
def Ej : List Ex → List Bytes
 | [] => []
 | a :: r => bD a ++ (iC :: oQ r)
def vT : Ar → List Bytes
 | .mk _ c vs b => c :: (vs ++ ([46] :: bD b))
def nI : List Ar → List Bytes
 | [] => []
 | a :: r => vT a ++ mV r
def mV : List Ar → List Bytes
 | [] => []
 | a :: r => [124] :: (vT a ++ mV r)
end
def nu (e : Ex) : Bytes := if jC e.kind then bL e else paren (bL e)
def lE (e : Ex) : Bytes := if fU e.kind then bL e else paren (bL e)
def rM (e : Ex) : List Bytes := if jC e.kind then bD e else parens (bD e)
def rN (e : Ex) : List Bytes := if fU e.kind then bD e else parens (bD e)
theorem sJ (p : Int) (n : Bytes) : bL (cN 1 p n 0) = n := by simp [cN, bL]
theorem sK (p : Int) (n : Bytes) : bL (cN 2 p n 0) = n := by simp [cN, bL]
theorem wM (p : Int) (m : Nat) : bL (cN 3 p [] m) = [UInt8.ofNat (48 + m)] := by simp [cN, bL]
theorem wO (p : Int) : bL (cN 10 p [] 0) = [63] := by simp [cN, bL]
theorem qT (p : Int) (n : Bytes) (b : Ex) : bL (bC 4 p n [b]) = [92] ++ (n ++ ([46] ++ (32 :: bL b))) := by simp [bC, bL, oP]
theorem pW (p : Int) (f a : Ex) : bL (bC 5 p [] [f, a]) = nu f ++ (32 :: lE a) := by simp [bC, bL, RF, RG, nu, lE]
theorem sL (p : Int) (n : Bytes) (a b : Ex) : bL (bC 6 p n [a, b]) = dI ++ (32 :: (n ++ (32 :: ([61] ++ (32 :: (bL a ++ (32 :: (iC ++ (32 :: bL b))))))))) := by simp [bC, bL, Ei, oP]
theorem sN (p : Int) (n : Bytes) (a b : Ex) : bL (bC 7 p n [a, b]) = dI ++ (32 :: (fy ++ (32 :: (n ++ (32 :: ([61] ++ (32 :: (bL a ++ (32 :: (iC ++ (32 :: bL b))))))))))) := by simp [bC, bL, Ei, oP]
theorem sO (p : Int) (e : Ex) (t : Ty) : bL (h_ p e t) = [40] ++ (bL e ++ (32 :: ([58] ++ (32 :: (cK t ++ [41]))))) := by simp [h_, bL, oP]
theorem sP (p : Int) (e : Ex) : bL (bC 11 p [] [e]) = [123] ++ (bL e ++ [125]) := by simp [bC, bL, oP]
theorem sS (p : Int) (e : Ex) (az : List Ar) : bL (eS p e az) = kC ++ (32 :: (bL e ++ (32 :: (kP ++ (32 :: (gI az ++ (32 :: iD))))))) := by simp [eS, bL, oP]
theorem I3 (p : Int) (n : Bytes) : bD (cN 1 p n 0) = [n] := by simp [cN, bD]
theorem I4 (p : Int) (n : Bytes) : bD (cN 2 p n 0) = [n] := by simp [cN, bD]
theorem I5 (p : Int) (m : Nat) : bD (cN 3 p [] m) = [[UInt8.ofNat (48 + m)]] := by simp [cN, bD]
theorem I6 (p : Int) : bD (cN 10 p [] 0) = [[63]] := by simp [cN, bD]
theorem RJ (p : Int) (n : Bytes) (b : Ex) : bD (bC 4 p n [b]) = [92] :: n :: [46] :: bD b := by simp [bC, bD, oQ]
theorem I7 (p : Int) (f a : Ex) : bD (bC 5 p [] [f, a]) = rM f ++ rN a := by simp [bC, bD, RH, RI, rM, rN]
theorem RL (p : Int) (n : Bytes) (a b : Ex) : bD (bC 6 p n [a, b]) = dI :: n :: [61] :: (bD a ++ (iC :: bD b)) := by simp [bC, bD, Ej, oQ]
theorem RM (p : Int) (n : Bytes) (a b : Ex) : bD (bC 7 p n [a, b]) = dI :: fy :: n :: [61] :: (bD a ++ (iC :: bD b)) := by simp [bC, bD, Ej, oQ]
theorem I8 (p : Int) (e : Ex) (t : Ty) : bD (h_ p e t) = [40] :: (bD e ++ ([58] :: (dN t ++ [[41]]))) := by simp [h_, bD, oQ]
theorem I9 (p : Int) (e : Ex) : bD (bC 11 p [] [e]) = [123] :: (bD e ++ [[125]]) := by simp [bC, bD, oQ]
theorem RN (p : Int) (e : Ex) (az : List Ar) : bD (eS p e az) = kC :: (bD e ++ (kP :: (nI az ++ [iD]))) := by simp [eS, bD, oQ]
theorem I_ {m : Nat} (h : m < 10) : kindOf [UInt8.ofNat (48 + m)] = 3 := by
 have : ∀ m : Fin 10, kindOf [UInt8.ofNat (48 + m.val)] = 3 := by decide
 exact this ⟨m, h⟩
theorem aDZ {m : Nat} (h : m < 10) : numOf [UInt8.ofNat (48 + m)] = m := by
 have : ∀ m : Fin 10, numOf [UInt8.ofNat (48 + m.val)] = (m.val : Int) := by decide
 exact this ⟨m, h⟩
theorem aT.cons {s : Bytes} {w : Bytes} {ws : List Bytes} (hw : kindOf w ≠ 0) (h : aT s ws) (hs : ∀ r, apart r → apart (s ++ r)) : aT (w ++ s) (w :: ws) := aT.append (ws := [w]) (aT.word hw) h hs
theorem aT.kg {s : Bytes} {w : Bytes} {ws : List Bytes} (hw : kindOf w ≠ 0) (h : aT s ws) : aT (w ++ (32 :: s)) (w :: ws) := aT.cons hw h.space (jx dC)
theorem aT.RO {s : Bytes} {ws : List Bytes} (h : aT s ws) : aT (Go.Th.paren s) (Go.Th.parens ws) := aT.paren h
theorem FK {s : Bytes} {ws : List Bytes} (h : aT s ws) (hs : ∀ r, apart r → apart (s ++ r)) : ∀ (vs : List Bytes), (∀ v ∈ vs, kindOf v = 1) → aT (eU vs ++ s) (vs ++ ws) ∧ ∀ r, apart r → apart ((eU vs ++ s) ++ r)
 | [], _ => by simpa [eU] using ⟨h, hs⟩
 | v :: vs, hv => by
  have ih := FK h hs vs (fun x hx => hv x (List.mem_cons_of_mem _ hx))
  have e : eU (v :: vs) ++ s = 32 :: (v ++ (eU vs ++ s)) := by simp [eU]
  rw [e]
  exact ⟨aT.space (aT.cons (by rw [hv v (List.mem_cons_self ..)]; decide) ih.1 ih.2), jx dC⟩
theorem Ul {e : Ex} (h : eQ e) : aT (bL e) (bD e) := by
 induction h with
 | var p n h => rw [sJ, I3]; exact aT.word oM
 | bQ p n h => rw [sK, I4]; exact aT.word oM
 | int p m h => rw [wM, I5]; exact aT.word (by rw [I_ h]; decide)
 | hole p => rw [wO, I6]; exact aT.word dC
 | lam p n b h hb ih =>
  rw [qT, RJ]
  exact aT.mark dC dC (aT.cons oM (aT.kg (w := [46]) dC ih) (jx dC))
 | app p f a hf ha rG iha =>
  rw [pW, I7]
  refine aT.append ?_ (aT.space ?_) (jx dC)
  ·unfold nu rM
   split
   ·exact rG
   ·exact rG.RO
  ·unfold lE rN
   split
   ·exact iha
   ·exact iha.RO
 | bind k p n a b hk h ha hb iha nq =>
  have h2 : aT (n ++ (32 :: ([61] ++ (32 :: (bL a ++ (32 :: (iC ++ (32 :: bL b)))))))) (n :: [61] :: (bD a ++ (iC :: bD b))) :=
   aT.kg oM (aT.kg dC (aT.append iha (aT.space (aT.kg dC nq)) (jx dC)))
  rcases hk with rfl | rfl
  ·rw [sL, RL]
   exact aT.kg dC h2
  ·rw [sN, RM]
   exact aT.kg dC (aT.kg dC h2)
 | iY p e t he ht ih =>
  rw [sO, I8]
  exact aT.mark dC dC (aT.append ih (aT.space (aT.kg dC (aT.append (zM ht) (aT.word dC) (jx dC)))) (jx dC))
 | held p e he ih =>
  rw [sP, I9]
  exact aT.mark dC dC (aT.append ih (aT.word dC) (jx dC))
 | case p e az he hne hc ha ihe ihs =>
  rw [sS, RN]
  have RP : ∀ a ∈ az, aT (iO a) (vT a) := by
   intro a hm
   have i1 := ihs a hm
   have i2 := hc a hm
   obtain ⟨q, c, vs, b⟩ := a
   simp only [iO, vT]
   simp only [Ar.body, Ar.bQ, Ar.vars] at i1 i2
   have i3 := FK (aT.kg (w := [46]) dC i1) (jx dC) vs i2.2
   exact aT.cons oM i3.1 i3.2
  have key : ∀ az : List Ar, (∀ a ∈ az, aT (iO a) (vT a)) → aT (ig az) (mV az) ∧ ∀ r, apart r → apart (ig az ++ r) := by
   intro az
   induction az with
   | nil => intro _; exact ⟨by simp only [ig, mV]; exact aT.nil, by simp only [ig]; exact RC⟩
   | cons a r oG =>
    intro hh
    have i1 := oG (fun x hx => hh x (List.mem_cons_of_mem _ hx))
    have i2 := hh a (List.mem_cons_self ..)
    simp only [ig, mV]
    exact ⟨aT.space (aT.kg dC (aT.append i2 i1.1 i1.2)), jx dC⟩
  have hall : aT (gI az) (nI az) := by
   cases az with
   | nil => exact absurd rfl hne
   | cons a r =>
    have i1 := key r (fun x hx => RP x (List.mem_cons_of_mem _ hx))
    simp only [gI, nI]
    exact aT.append (RP a (List.mem_cons_self ..)) i1.1 i1.2
  exact aT.kg dC (aT.append ihe (aT.space (aT.kg dC (aT.append hall (aT.space (aT.word dC)) (jx dC)))) (jx dC))
end Go.Th


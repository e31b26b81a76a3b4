/- Expressions in plain words: the canonical text's tokens are read back. No program in sight. -/
import Derived.Test.YtlnjfkfojkgiiaaGreatDoorK6
open Go Go.aZ Go.Th Go.Proofs Tryz
set_option maxRecDepth 10000
set_option maxHeartbeats 4000000
attribute [local irreducible] wpList Code.wp ah bodyPost Go.aZ.Ends Exit.then Exit.inBlock dJ Wq Kq
namespace Go.Th
mutual
def bV : Ex → Ex
 | .mk k _ n m ks az t => .mk k 0 n m (ku ks) (gB az) t
def ku : List Ex → List Ex
 | [] => []
 | a :: r => bV a :: ku r
def jJ : Ar → Ar
 | .mk _ c vs b => .mk 0 c vs (bV b)
def gB : List Ar → List Ar
 | [] => []
 | a :: r => jJ a :: gB r
end
theorem rO (k p : Int) (n : Bytes) (m : Int) : bV (cN k p n m) = cN k 0 n m := by simp [cN, bV, ku, gB]
theorem Ek (k p : Int) (n : Bytes) (a : Ex) : bV (bC k p n [a]) = bC k 0 n [bV a] := by simp [bC, bV, ku, gB]
theorem yU (k p : Int) (n : Bytes) (a b : Ex) : bV (bC k p n [a, b]) = bC k 0 n [bV a, bV b] := by simp [bC, bV, ku, gB]
theorem RQ (p : Int) (a : Ex) (t : Ty) : bV (h_ p a t) = h_ 0 (bV a) t := by simp [h_, bV, ku, gB]
theorem RR (p : Int) (a : Ex) (az : List Ar) : bV (eS p a az) = eS 0 (bV a) (gB az) := by simp [eS, bV, ku, gB]
def rP (ws : List (Int × Bytes)) : Prop := ∀ k w r, ws = (k, w) :: r → k ≠ 1 ∧ k ≠ 2 ∧ k ≠ 3 ∧ ¬ (k = 5 ∧ (w = [63] ∨ w = [40] ∨ w = [123]))
theorem Ly {l : List Tok} {i : Nat} (h : bS l i []) : l[i]? = none := by
 have : (kt l).length ≤ i := List.drop_eq_nil_iff.1 h
 simp [kt] at this
 exact List.getElem?_eq_none oM
theorem aD0 {l : List Tok} {i : Nat} {ws : List (Int × Bytes)} (h : bS l i ws) (hs : rP ws) : mu l i = false := by
 unfold mu
 cases ws with
 | nil => rw [Ly h]
 | cons x r =>
  obtain ⟨k, w⟩ := x
  obtain ⟨t', h1, h2, h3, _⟩ := fT h
  obtain ⟨a, b, c, d⟩ := hs k w r rfl
  rw [h1]
  simp only [kS, h2, h3]
  simp only [a, b, c, decide_false, Bool.false_or, Bool.and_eq_false_iff, Bool.or_eq_false_iff, decide_eq_false_iff_not]
  by_cases h5 : k = 5
  ·exact .inr ⟨⟨fun e => d ⟨h5, .inl e⟩, fun e => d ⟨h5, .inr (.inl e)⟩⟩, fun e => d ⟨h5, .inr (.inr e)⟩⟩
  ·exact .inl h5
theorem ma {l : List Tok} {i : Nat} {k : Int} {w : Bytes} {ws : List (Int × Bytes)} {k' : Int} {m : Bytes} (h : bS l i ((k, w) :: ws)) (hs : k ≠ k' ∨ w ≠ m) : df l i k' m = false := by
 obtain ⟨t, h1, h2, h3, _⟩ := fT h
 unfold df
 rw [h1]
 simp only [h2, h3, Bool.and_eq_false_iff, decide_eq_false_iff_not]
 exact hs
theorem n8 {l : List Tok} {i : Nat} {k : Int} {w : Bytes} {ws : List (Int × Bytes)} (h : bS l i ((k, w) :: ws)) : df l i k w = true := by
 obtain ⟨t, h1, h2, h3, _⟩ := fT h
 unfold df
 rw [h1]
 simp [h2, h3]
theorem uL {l : List Tok} {i : Nat} {k : Int} {w : Bytes} {ws : List (Int × Bytes)} (h : bS l i ((k, w) :: ws)) : nameAt l i k = some w := by
 obtain ⟨t, h1, h2, h3, _⟩ := fT h
 unfold nameAt
 rw [h1]
 simp [h2, h3]
theorem gK {l : List Tok} {i : Nat} {k : Int} {w : Bytes} {ws : List (Int × Bytes)} (h : bS l i ((k, w) :: ws)) : bS l (i + 1) ws := (fT h).choose_spec.2.2.2
theorem RT {l : List Tok} : ∀ (vs : List Bytes) (i : Nat) (ws : List (Int × Bytes)), (∀ v ∈ vs, kindOf v = 1) → bS l i (bq vs ++ (5, [46]) :: ws) → lowers (l.drop i) = vs
 | [], i, ws, _, h => by
  obtain ⟨t, h1, h2, h3, _⟩ := fT (k := 5) (w := [46]) (ws := ws) h
  have hi := (List.getElem?_eq_some_iff.1 h1)
  rw [List.drop_eq_getElem_cons hi.1, hi.2]
  simp [lowers, h2]
 | v :: vs, i, ws, hv, h => by
  obtain ⟨t, h1, h2, h3, h4⟩ := fT (k := kindOf v) (w := v) (ws := bq vs ++ (5, [46]) :: ws) h
  have hi := (List.getElem?_eq_some_iff.1 h1)
  rw [List.drop_eq_getElem_cons hi.1, hi.2]
  simp only [lowers, h2, hv v (List.mem_cons_self ..), if_true, h3]
  rw [RT vs (i + 1) ws (fun x hx => hv x (List.mem_cons_of_mem _ hx)) h4]
def yV (w : Bytes) : Prop := kindOf w = 1 ∨ kindOf w = 2 ∨ kindOf w = 3 ∨ w = [63] ∨ w = [40] ∨ w = [123]
theorem Ja {e : Ex} (h : eQ e) (hk : jC e.kind = true) : ∃ w r, bD e = w :: r ∧ yV w := by
 induction h with
 | var p n h => rw [I3]; exact ⟨_, _, rfl, .inl h⟩
 | bQ p n h => rw [I4]; exact ⟨_, _, rfl, .inr (.inl h)⟩
 | int p m h => rw [I5]; exact ⟨_, _, rfl, .inr (.inr (.inl (I_ h)))⟩
 | hole p => rw [I6]; exact ⟨_, _, rfl, .inr (.inr (.inr (.inl rfl)))⟩
 | lam p n b h hb ih => exact absurd hk (by simp [bC, Ex.kind, jC, fU])
 | app p f a hf ha rG iha =>
  rw [I7]
  unfold rM
  by_cases h : jC f.kind = true
  ·rw [if_pos h]
   obtain ⟨w, r, e1, e2⟩ := rG h
   rw [e1]
   exact ⟨_, _, rfl, e2⟩
  ·rw [if_neg h]
   exact ⟨_, _, rfl, .inr (.inr (.inr (.inr (.inl rfl))))⟩
 | bind k p n a b c_ h ha hb iha nq => exact absurd hk (by rcases c_ with rfl | rfl <;> simp [bC, Ex.kind, jC, fU])
 | iY p e t he ht ih => rw [I8]; exact ⟨_, _, rfl, .inr (.inr (.inr (.inr (.inl rfl))))⟩
 | held p e he ih => rw [I9]; exact ⟨_, _, rfl, .inr (.inr (.inr (.inr (.inr rfl))))⟩
 | case p e az he hne hc ha ihe ihs => exact absurd hk (by simp [eS, Ex.kind, jC, fU])
theorem aD1 {e : Ex} (h : eQ e) : ∃ w r, rN e = w :: r ∧ yV w := by
 unfold rN
 by_cases hk : fU e.kind = true
 ·rw [if_pos hk]; exact Ja h (by simp [jC, hk])
 ·rw [if_neg hk]; exact ⟨_, _, rfl, .inr (.inr (.inr (.inr (.inl rfl))))⟩
theorem aD2 {l : List Tok} {i : Nat} {w : Bytes} {ws : List (Int × Bytes)} (h : bS l i ((kindOf w, w) :: ws)) (hw : yV w) : mu l i = true := by
 obtain ⟨x, h1, h2, h3, _⟩ := fT h
 unfold mu
 rw [h1]
 simp only [kS, h2, h3]
 rcases hw with h | h | h | rfl | rfl | rfl
 ·simp [h]
 ·simp [h]
 ·simp [h]
 ·decide
 ·decide
 ·decide
theorem aD3 {w : Bytes} (hw : yV w) : (kindOf w ≠ 5 ∨ w ≠ [92]) ∧ kindOf w ≠ 4 := by
 rcases hw with h | h | h | rfl | rfl | rfl
 ·exact ⟨.inl oM, oM⟩
 ·exact ⟨.inl oM, oM⟩
 ·exact ⟨.inl oM, oM⟩
 ·decide
 ·decide
 ·decide
def uj (e : Ex) : Prop := ∀ l i ws,
 (rP ws → bS l i (bq (bD e) ++ ws) → ∃ y, bt l .expr i = .ok (y, i + (bD e).length) ∧ bV y = bV e) ∧
 (fU e.kind = true → bS l i (bq (bD e) ++ ws) → ∃ y, bt l .atom i = .ok (y, i + (bD e).length) ∧ bV y = bV e) ∧
 (jC e.kind = true → bS l i (bq (bD e) ++ ws) → ∃ y0 j0 y, bt l .atom i = .ok (y0, j0) ∧ bt l (.apps y0) j0 = bt l (.apps y) (i + (bD e).length) ∧ bV y = bV e)
theorem aD4 {l : List Tok} {i : Nat} {ws : List (Int × Bytes)} (h : bS l i ws) (hs : rP ws) (y : Ex) : bt l (.apps y) i = .ok (y, i) := by
 rw [jy]
 simp only [dM]
 rw [if_neg (by rw [aD0 h hs]; decide)]
theorem RU {l : List Tok} {i n : Nat} {e y0 y : Ex} {j0 : Nat} {w : Bytes} {us ws : List (Int × Bytes)} (hw : yV w) (h : bS l i ((kindOf w, w) :: us)) (hn : bS l (i + n) ws) (hs : rP ws)
  (h0 : bt l .atom i = .ok (y0, j0)) (h1 : bt l (.apps y0) j0 = bt l (.apps y) (i + n)) (h2 : bV y = bV e) : ∃ y, bt l .expr i = .ok (y, i + n) ∧ bV y = bV e := by
 have yO := aD3 hw
 refine ⟨y, ?_, h2⟩
 rw [jy]
 simp only [dM]
 rw [if_neg (by unfold bB; rw [ma h yO.1]; decide), if_neg (by unfold cA; rw [ma h (.inl yO.2)]; decide), if_neg (by unfold cA; rw [ma h (.inl yO.2)]; decide), h0]
 simp only
 rw [h1, aD4 hn hs]
theorem RV (ws : List Bytes) (us : List (Int × Bytes)) : bq (parens ws) ++ us = (5, [40]) :: (bq ws ++ (5, [41]) :: us) := Eh ws us
theorem uN {m : Bytes} (ws : List (Int × Bytes)) (h : m ≠ [63] ∧ m ≠ [40] ∧ m ≠ [123]) : rP ((5, m) :: ws) := fun k w r e => by
 cases e
 exact ⟨dC, dC, dC, fun hh => by rcases hh.2 with e | e | e; exact h.1 e; exact h.2.1 e; exact h.2.2 e⟩
theorem Jb {m : Bytes} (ws : List (Int × Bytes)) : rP ((4, m) :: ws) := fun k w r e => by
 cases e
 exact ⟨dC, dC, dC, fun hh => absurd hh.1 dC⟩
theorem RW {l : List Tok} {i : Nat} {e : Ex} {n : Nat} {us ws : List (Int × Bytes)} (hn : us.length = n) (h : bS l i ((5, [40]) :: (us ++ (5, [41]) :: ws)))
  (hw : bS l (i + 1) (us ++ (5, [41]) :: ws) → ∃ y, bt l .expr (i + 1) = .ok (y, i + 1 + n) ∧ bV y = bV e) : ∃ y, bt l .atom i = .ok (y, i + (n + 2)) ∧ bV y = bV e := by
 obtain ⟨x, h1, h2, h3, h4⟩ := fT h
 obtain ⟨y, oF, pz⟩ := hw h4
 refine ⟨y, ?_, pz⟩
 rw [jy]
 simp only [dM]
 rw [h1]
 simp only [h2, h3]
 have h5 := jh h4
 rw [hn] at h5
 rw [if_neg dC, if_neg dC, if_neg dC, if_neg dC, if_neg dC, if_pos sM, oF]
 simp only
 rw [if_neg (by unfold bB; rw [ma h5 (.inr dC)]; decide), if_pos (kD h5)]
 congr 2; omega
theorem aD5 {f : Ex} (h : uj f) {l : List Tok} {i : Nat} {ws : List (Int × Bytes)} (hk : bS l i (bq (rM f) ++ ws)) : ∃ y0 j0 y, bt l .atom i = .ok (y0, j0) ∧ bt l (.apps y0) j0 = bt l (.apps y) (i + (rM f).length) ∧ bV y = bV f := by
 unfold rM at hk ⊢
 by_cases hf : jC f.kind = true
 ·rw [if_pos hf] at hk ⊢
  exact (h l i ws).2.2 hf hk
 ·rw [if_neg hf] at hk ⊢
  rw [RV] at hk
  obtain ⟨y, h1, h2⟩ := RW (n := (bD f).length) (ij _) hk (fun c_ => (h l (i + 1) _).1 (uN _ dC) c_)
  refine ⟨y, _, y, h1, ?_, h2⟩
  simp [parens]
theorem aD6 {f : Ex} (h : uj f) {l : List Tok} {i : Nat} {ws : List (Int × Bytes)} (hk : bS l i (bq (rN f) ++ ws)) : ∃ y, bt l .atom i = .ok (y, i + (rN f).length) ∧ bV y = bV f := by
 unfold rN at hk ⊢
 by_cases hf : fU f.kind = true
 ·rw [if_pos hf] at hk ⊢
  exact (h l i ws).2.1 hf hk
 ·rw [if_neg hf] at hk ⊢
  rw [RV] at hk
  obtain ⟨y, h1, h2⟩ := RW (n := (bD f).length) (ij _) hk (fun c_ => (h l (i + 1) _).1 (uN _ dC) c_)
  exact ⟨y, by simpa [parens] using h1, h2⟩
theorem vU {e : Ex} (hg : eQ e) (hk : fU e.kind = true) (h : ∀ l i ws, bS l i (bq (bD e) ++ ws) → ∃ y, bt l .atom i = .ok (y, i + (bD e).length) ∧ bV y = bV e) : uj e := by
 intro l i ws
 have hC : bS l i (bq (bD e) ++ ws) → ∃ y0 j0 y, bt l .atom i = .ok (y0, j0) ∧ bt l (.apps y0) j0 = bt l (.apps y) (i + (bD e).length) ∧ bV y = bV e := by
  intro hh
  obtain ⟨y, h1, h2⟩ := h l i ws hh
  exact ⟨y, _, y, h1, rfl, h2⟩
 refine ⟨fun hs hh => ?_, fun _ hh => h l i ws hh, fun _ hh => hC hh⟩
 obtain ⟨y0, j0, y, h1, h2, h3⟩ := hC hh
 obtain ⟨w, r, e1, e2⟩ := Ja hg (by simp [jC, hk])
 have hn := jh hh
 rw [ij] at hn
 rw [e1] at hh
 exact RU (us := bq r ++ ws) e2 hh hn hs h1 h2 h3
theorem RX {k p : Int} {n : Bytes} {a b : Ex} (h : kindOf n = 1) (ha : uj a) (hb : uj b) {l : List Tok} {i : Nat} {ws : List (Int × Bytes)} (hs : rP ws) (hk : bS l i (bq (n :: [61] :: (bD a ++ (iC :: bD b))) ++ ws)) :
  ∃ y, j8 l (bt l) k p i = .ok (y, i + (n :: [61] :: (bD a ++ (iC :: bD b))).length) ∧ bV y = bC k 0 n [bV a, bV b] := by
 have e0 : bq (n :: [61] :: (bD a ++ (iC :: bD b))) ++ ws = (1, n) :: (5, [61]) :: (bq (bD a) ++ ((4, iC) :: (bq (bD b) ++ ws))) := by
  rw [gX, gX, jS, gX, h, show kindOf [61] = 5 by decide, show kindOf iC = 4 by decide]; simp
 rw [e0] at hk
 have h1 := gK hk
 have h2 := gK h1
 obtain ⟨ya, ra, ea⟩ := (ha l (i + 1 + 1) _).1 (Jb _) h2
 have h3 := jh h2
 rw [ij] at h3
 have h4 := gK h3
 obtain ⟨yb, rb, eb⟩ := (hb l _ _).1 hs h4
 refine ⟨bC k p n [ya, yb], ?_, by rw [yU, ea, eb]⟩
 unfold j8
 rw [uL hk]
 simp only
 rw [if_pos (kD h1), ra]
 simp only
 rw [if_pos (by unfold cA; exact n8 h3), rb]
 simp only [List.length_cons, List.length_append]
 congr 2; omega
theorem RY {l : List Tok} {p : Int} {e : Ex} {ws : List (Int × Bytes)} : ∀ (az : List Ar), az ≠ [] → (∀ a ∈ az, kindOf a.bQ = 2 ∧ ∀ v ∈ a.vars, kindOf v = 1) → (∀ a ∈ az, uj a.body) → ∀ (acc : List Ar) (i : Nat), bS l i (bq (nI az) ++ (4, iD) :: ws) →
  ∃ ys, bt l (.aK p e acc) i = .ok (eS p e (acc ++ ys), i + (nI az).length + 1) ∧ gB ys = gB az
 | [], hne, _, _, _, _, _ => absurd rfl hne
 | .mk q c vs b :: r, _, hc, hr, acc, i, h => by
  have gA := hc _ (List.mem_cons_self ..)
  have RZ := hr _ (List.mem_cons_self ..)
  simp only [Ar.bQ, Ar.vars, Ar.body] at gA RZ
  simp only [nI, vT] at h ⊢
  have e0 : bq (c :: (vs ++ [46] :: bD b) ++ mV r) ++ (4, iD) :: ws = (2, c) :: (bq vs ++ (5, [46]) :: (bq (bD b) ++ (bq (mV r) ++ (4, iD) :: ws))) := by
   rw [jS, gX, jS, gX, gA.1, show kindOf [46] = 5 by decide]; simp
  rw [e0] at h
  have h1 := gK h
  have hl := RT vs (i + 1) _ gA.2 h1
  have h2 := jh h1
  rw [ij] at h2
  have h3 := gK h2
  have bG : rP (bq (mV r) ++ (4, iD) :: ws) := by
   cases r with
   | nil => simp only [mV]; exact Jb _
   | cons a r => simp only [mV]; exact uN _ dC
  obtain ⟨y, r1, r2⟩ := (RZ l _ _).1 bG h3
  have h4 := jh h3
  rw [ij] at h4
  rw [jy]
  simp only [dM]
  rw [uL h]
  simp only
  rw [hl, if_pos (kD h2), r1]
  simp only
  cases r with
  | nil =>
   simp only [mV] at h4 ⊢
   rw [if_neg (by unfold bB; rw [ma h4 (.inl dC)]; decide), if_pos (by unfold cA; exact n8 h4)]
   refine ⟨[.mk (posOf l i) c vs y], ?_, by simp [gB, jJ, r2]⟩
   simp only [List.length_cons, List.length_append, List.append_nil]
   congr 2; omega
  | cons a r' =>
   have h5 : bS l (i + 1 + vs.length + 1 + (bD b).length) ((5, [124]) :: (bq (nI (a :: r')) ++ (4, iD) :: ws)) := h4
   obtain ⟨ys, i1, i2⟩ := RY (l := l) (p := p) (e := e) (ws := ws) (a :: r') sM (fun x hx => hc x (List.mem_cons_of_mem _ hx)) (fun x hx => hr x (List.mem_cons_of_mem _ hx)) (acc ++ [.mk (posOf l i) c vs y]) _ (gK h5)
   rw [if_pos (kD h5), i1]
   refine ⟨.mk (posOf l i) c vs y :: ys, ?_, ?_⟩
   ·have e3 : mV (a :: r') = [124] :: nI (a :: r') := by simp [mV, nI]
    rw [e3]
    simp only [List.append_assoc, List.singleton_append, List.length_append, List.length_cons]
    congr 2; omega
   ·rw [show gB (.mk (posOf l i) c vs y :: ys) = .mk 0 c vs (bV y) :: gB ys by simp [gB, jJ], i2, r2]
    simp [gB, jJ]
theorem Uq {e : Ex} (h : eQ e) : uj e := by
 induction h with
 | var p n h =>
  refine vU (.var p n h) rfl fun l i ws hk => ?_
  rw [I3] at hk ⊢
  obtain ⟨x, h1, h2, h3, h4⟩ := fT (k := kindOf n) (w := n) (ws := ws) hk
  refine ⟨cN 1 x.pos n 0, ?_, by rw [rO, rO]⟩
  rw [jy]; simp only [dM]; rw [h1]; simp only [h2, h, h3, if_true]; rfl
 | bQ p n h =>
  refine vU (.bQ p n h) rfl fun l i ws hk => ?_
  rw [I4] at hk ⊢
  obtain ⟨x, h1, h2, h3, h4⟩ := fT (k := kindOf n) (w := n) (ws := ws) hk
  refine ⟨cN 2 x.pos n 0, ?_, by rw [rO, rO]⟩
  rw [jy]; simp only [dM]; rw [h1]; simp only [h2, h, h3]
  rw [if_neg dC, if_pos sM]; rfl
 | int p m h =>
  refine vU (.int p m h) rfl fun l i ws hk => ?_
  rw [I5] at hk ⊢
  obtain ⟨x, h1, h2, h3, h4⟩ := fT (k := kindOf _) (w := _) (ws := ws) hk
  refine ⟨cN 3 x.pos [] m, ?_, by rw [rO, rO]⟩
  rw [jy]; simp only [dM]; rw [h1]; simp only [h2, I_ h, h3]
  rw [if_neg dC, if_neg dC, if_pos sM, aDZ h]; rfl
 | hole p =>
  refine vU (.hole p) rfl fun l i ws hk => ?_
  rw [I6] at hk ⊢
  obtain ⟨x, h1, h2, h3, h4⟩ := fT (k := 5) (w := [63]) (ws := ws) hk
  refine ⟨cN 10 x.pos [] 0, ?_, by rw [rO, rO]⟩
  rw [jy]; simp only [dM]; rw [h1]; simp only [h2, h3]
  rw [if_neg dC, if_neg dC, if_neg dC, if_pos sM]; rfl
 | lam p n b h hb ih =>
  intro l i ws
  refine ⟨fun hs hk => ?_, fun hh => absurd hh (by simp [bC, Ex.kind, fU]), fun hh => absurd hh (by simp [bC, Ex.kind, jC, fU])⟩
  rw [RJ] at hk ⊢
  have e0 : bq ([92] :: n :: [46] :: bD b) ++ ws = (5, [92]) :: (1, n) :: (5, [46]) :: (bq (bD b) ++ ws) := by
   rw [gX, gX, gX, h, show kindOf [92] = 5 by decide, show kindOf [46] = 5 by decide]; rfl
  rw [e0] at hk
  have h1 := gK hk
  have h2 := gK h1
  have h3 := gK h2
  obtain ⟨y, r1, r2⟩ := (ih l _ ws).1 hs h3
  refine ⟨bC 4 (posOf l i) n [y], ?_, by rw [Ek, Ek, r2]⟩
  rw [jy]; simp only [dM]
  rw [if_pos (kD hk), uL h1]
  simp only
  rw [if_pos (kD h2), r1]
  simp only [List.length_cons]
  congr 2; omega
 | app p f a hf ha rG iha =>
  intro l i ws
  have hC : bS l i (bq (bD (bC 5 p [] [f, a])) ++ ws) → ∃ y0 j0 y, bt l .atom i = .ok (y0, j0) ∧ bt l (.apps y0) j0 = bt l (.apps y) (i + (bD (bC 5 p [] [f, a])).length) ∧ bV y = bV (bC 5 p [] [f, a]) := by
   intro hk
   rw [I7] at hk ⊢
   rw [jS, List.append_assoc] at hk
   obtain ⟨y0, j0, y, r1, r2, r3⟩ := aD5 rG hk
   have h1 := jh hk
   rw [ij] at h1
   obtain ⟨ya, s1, s2⟩ := aD6 iha h1
   obtain ⟨w, r, e1, e2⟩ := aD1 ha
   have bG : mu l (i + (rM f).length) = true := by
    rw [e1] at h1
    exact aD2 (ws := bq r ++ ws) h1 e2
   refine ⟨y0, j0, bC 5 y.pos [] [y, ya], r1, ?_, by rw [yU, yU, r3, s2]⟩
   rw [r2, jy]
   simp only [dM]
   rw [if_pos bG, s1]
   simp only [List.length_append, Nat.add_assoc]
  refine ⟨fun hs hk => ?_, fun hh => absurd hh (by simp [bC, Ex.kind, fU]), fun _ hk => hC hk⟩
  obtain ⟨y0, j0, y, h1, h2, h3⟩ := hC hk
  obtain ⟨w, r, e1, e2⟩ := Ja (.app p f a hf ha) (by simp [bC, Ex.kind, jC])
  have hn := jh hk
  rw [ij] at hn
  rw [e1] at hk
  exact RU (us := bq r ++ ws) e2 hk hn hs h1 h2 h3
 | bind k p n a b c_ h ha hb iha nq =>
  intro l i ws
  refine ⟨fun hs hk => ?_, fun hh => absurd hh (by rcases c_ with rfl | rfl <;> simp [bC, Ex.kind, fU]), fun hh => absurd hh (by rcases c_ with rfl | rfl <;> simp [bC, Ex.kind, jC, fU])⟩
  rcases c_ with rfl | rfl
  ·rw [RL] at hk ⊢
   have fb : bS l i ((4, dI) :: (bq (n :: [61] :: (bD a ++ (iC :: bD b))) ++ ws)) := hk
   obtain ⟨y, r1, r2⟩ := RX (k := 6) (p := posOf l i) h iha nq hs (gK fb)
   refine ⟨y, ?_, by rw [r2, yU]⟩
   rw [jy]; simp only [dM]
   have hn : bS l (i + 1) ((kindOf n, n) :: (bq ([61] :: (bD a ++ (iC :: bD b))) ++ ws)) := gK fb
   rw [if_neg (by unfold bB; rw [ma fb (.inl dC)]; decide), if_pos (by unfold cA; exact n8 fb), if_neg (by unfold cA; rw [ma hn (.inl oM)]; decide), r1]
   simp only [List.length_cons, List.length_append]
   congr 2; omega
  ·rw [RM] at hk ⊢
   have fb : bS l i ((4, dI) :: (4, fy) :: (bq (n :: [61] :: (bD a ++ (iC :: bD b))) ++ ws)) := hk
   have ob := gK fb
   obtain ⟨y, r1, r2⟩ := RX (k := 7) (p := posOf l i) h iha nq hs (gK ob)
   refine ⟨y, ?_, by rw [r2, yU]⟩
   rw [jy]; simp only [dM]
   rw [if_neg (by unfold bB; rw [ma fb (.inl dC)]; decide), if_pos (by unfold cA; exact n8 fb), if_pos (by unfold cA; exact n8 ob), r1]
   simp only [List.length_cons, List.length_append]
   congr 2; omega
 | iY p e t he ht ih =>
  refine vU (.iY p e t he ht) rfl fun l i ws hk => ?_
  rw [I8] at hk ⊢
  have e0 : bq ([40] :: (bD e ++ [58] :: (dN t ++ [[41]]))) ++ ws = (5, [40]) :: (bq (bD e) ++ (5, [58]) :: (bq (dN t) ++ (5, [41]) :: ws)) := by
   rw [gX, jS, gX, jS, show kindOf [40] = 5 by decide, show kindOf [58] = 5 by decide, show bq [[41]] = [(5, [41])] by decide]; simp
  rw [e0] at hk
  obtain ⟨x, h1, h2, h3, h4⟩ := fT hk
  obtain ⟨y, r1, r2⟩ := (ih l _ _).1 (uN _ dC) h4
  have h5 := jh h4
  rw [ij] at h5
  have h6 := gK h5
  have h7 := (FL ht l _ _).1 (yS ws) h6
  have h8 := jh h6
  rw [ij] at h8
  refine ⟨h_ x.pos y t, ?_, by rw [RQ, RQ, r2]⟩
  rw [jy]; simp only [dM]; rw [h1]; simp only [h2, h3]
  rw [if_neg dC, if_neg dC, if_neg dC, if_neg dC, if_neg dC, if_pos sM, r1]
  simp only
  rw [if_pos (kD h5), h7]
  simp only
  rw [if_pos (kD h8)]
  simp only [List.length_cons, List.length_append, List.length_nil]
  congr 2; omega
 | held p e he ih =>
  refine vU (.held p e he) rfl fun l i ws hk => ?_
  rw [I9] at hk ⊢
  have e0 : bq ([123] :: (bD e ++ [[125]])) ++ ws = (5, [123]) :: (bq (bD e) ++ (5, [125]) :: ws) := by
   rw [gX, jS, show kindOf [123] = 5 by decide, show bq [[125]] = [(5, [125])] by decide]; simp
  rw [e0] at hk
  obtain ⟨x, h1, h2, h3, h4⟩ := fT hk
  obtain ⟨y, r1, r2⟩ := (ih l _ _).1 (uN _ dC) h4
  have h5 := jh h4
  rw [ij] at h5
  refine ⟨bC 11 x.pos [] [y], ?_, by rw [Ek, Ek, r2]⟩
  rw [jy]; simp only [dM]; rw [h1]; simp only [h2, h3]
  rw [if_neg dC, if_neg dC, if_neg dC, if_neg dC, if_pos sM, r1]
  simp only
  rw [if_pos (kD h5)]
  simp only [List.length_cons, List.length_append, List.length_nil]
  congr 2; omega
 | case p e az he hne hc ha ihe ihs =>
  intro l i ws
  refine ⟨fun hs hk => ?_, fun hh => absurd hh (by simp [eS, Ex.kind, fU]), fun hh => absurd hh (by simp [eS, Ex.kind, jC, fU])⟩
  rw [RN] at hk ⊢
  have e0 : bq (kC :: (bD e ++ kP :: (nI az ++ [iD]))) ++ ws = (4, kC) :: (bq (bD e) ++ (4, kP) :: (bq (nI az) ++ (4, iD) :: ws)) := by
   rw [gX, jS, gX, jS, show kindOf kC = 4 by decide, show kindOf kP = 4 by decide, show bq [iD] = [(4, iD)] by decide]; simp
  rw [e0] at hk
  have h1 := gK hk
  obtain ⟨y, r1, r2⟩ := (ihe l _ _).1 (Jb _) h1
  have h2 := jh h1
  rw [ij] at h2
  have h3 := gK h2
  obtain ⟨ys, s1, s2⟩ := RY (p := posOf l i) (e := y) az hne hc ihs [] _ h3
  refine ⟨eS (posOf l i) y ys, ?_, by rw [RR, RR, r2, s2]⟩
  rw [jy]; simp only [dM]
  rw [if_neg (by unfold bB; rw [ma hk (.inl dC)]; decide), if_neg (by unfold cA; rw [ma hk (.inr dC)]; decide), if_pos (by unfold cA; exact n8 hk), r1]
  simp only
  rw [if_pos (by unfold cA; exact n8 h2), s1]
  simp only [List.nil_append, List.length_cons, List.length_append, List.length_nil]
  congr 2; omega
mutual
def aN : Ex → Nat
 | .mk _ _ _ _ ks az _ => 1 + cd ks + bZ az
def cd : List Ex → Nat
 | [] => 0
 | a :: r => aN a + cd r
def hY : Ar → Nat
 | .mk _ _ vs b => 1 + vs.length + aN b
def bZ : List Ar → Nat
 | [] => 0
 | a :: r => hY a + bZ r
end
theorem aD7 (e : Ex) : 1 ≤ aN e := by cases e; simp only [aN]; omega
theorem R0 : ∀ l : List Ex, l.length ≤ cd l
 | [] => by simp [cd]
 | a :: r => by have := aD7 a; have := R0 r; simp only [cd, List.length_cons]; omega
theorem F2 : ∀ l : List Ar, l.length ≤ bZ l
 | [] => by simp [bZ]
 | .mk _ _ _ _ :: r => by have := F2 r; simp only [bZ, hY, List.length_cons]; omega
theorem R1 : ∀ {l : List Ex} {a : Ex}, a ∈ l → aN a ≤ cd l
 | b :: r, a, h => by
  simp only [cd]
  rcases List.mem_cons.1 h with rfl | h
  ·omega
  ·have := R1 h; omega
theorem F1 : ∀ {l : List Ar} {a : Ar}, a ∈ l → hY a ≤ bZ l
 | b :: r, a, h => by
  simp only [bZ]
  rcases List.mem_cons.1 h with rfl | h
  ·omega
  ·have := F1 h; omega
theorem Jc : ∀ (x y : List Ar), bZ (x ++ y) = bZ x + bZ y
 | [], y => by simp [bZ]
 | a :: x, y => by simp only [List.cons_append, bZ, Jc x y]; omega
def aY (e : Ex) : List Ex := e.kids ++ e.aK.map Ar.body
theorem mC {e c : Ex} (h : c ∈ aY e) : aN c < aN e := by
 cases e with
 | mk k p n m ks az t =>
  simp only [aN]
  rcases List.mem_append.1 h with h | h
  ·have := R1 h; simp only [Ex.kids] at this; omega
  ·obtain ⟨a, ha, rfl⟩ := List.mem_map.1 h
   have := F1 ha
   cases a with
   | mk q c vs b => simp only [hY, Ex.aK, Ar.body] at *; omega
theorem my (e : Ex) : (aY e).length ≤ aN e := by
 cases e with
 | mk k p n m ks az t =>
  have h1 := R0 ks
  have h2 := F2 az
  simp only [aY, Ex.kids, Ex.aK, List.length_append, List.length_map, aN]
  omega
theorem MX (l : List Tok) : ∀ (N : Nat) (q : EQ) (i : Nat) (e : Ex) (j : Nat), fB l q i < N → bt l q i = .ok (e, j) → match q with
  | .expr => aN e + 1 ≤ 2 * (j - i)
  | .atom => aN e + 1 ≤ 2 * (j - i)
  | .apps x => aN e ≤ aN x + 2 * (j - i)
  | .aK _ x acc => aN e + 1 ≤ aN x + bZ acc + 1 + 2 * (j - i)
 | 0, _, _, _, _, h, _ => by omega
 | N + 1, q, i, e, j, hN, h => by
  have ih := MX l N
  have hlt : ∀ {i' : Nat} {t : Tok}, l[i']? = some t → i' < l.length := fun h => (List.getElem?_eq_some_iff.1 h).1
  rw [jy] at h
  cases q with
  | expr =>
   simp only [dM] at h
   have xm : ∀ (k p : Int) (i0 : Nat), i < l.length → i < i0 → j8 l (bt l) k p i0 = .ok (e, j) → aN e + 1 ≤ 2 * (j - i) := by
    intro k p i0 hi oY h
    unfold j8 at h
    split at h
    ·cases h
    ·split at h
     ·split at h
      ·cases h
      ·rename_i a k1 h1
       have g1 := jH h1
       have i1 := ih .expr _ _ _ (by simp only [fB, EQ.ck] at *; omega) h1
       split at h
       ·split at h
        ·cases h
        ·rename_i b m h2
         have g2 := jH h2
         have i2 := ih .expr _ _ _ (by simp only [fB, EQ.ck] at *; omega) h2
         cases h
         simp only [bC, aN, cd, bZ] at *
         omega
       ·cases h
     ·cases h
   simp only
   split at h
   ·rename_i hm
    have hi := cF hm
    split at h
    ·cases h
    ·split at h
     ·split at h
      ·cases h
      ·rename_i b k h1
       have g1 := jH h1
       have i1 := ih .expr _ _ _ (by simp only [fB, EQ.ck] at *; omega) h1
       cases h
       simp only [bC, aN, cd, bZ] at *
       omega
     ·cases h
   ·split at h
    ·rename_i hm
     have hi := cF hm
     split at h
     ·exact xm _ _ _ hi oM h
     ·exact xm _ _ _ hi oM h
    ·split at h
     ·rename_i hm
      have hi := cF hm
      split at h
      ·cases h
      ·rename_i x k h1
       have g1 := jH h1
       have i1 := ih .expr _ _ _ (by simp only [fB, EQ.ck] at *; omega) h1
       split at h
       ·have g2 := jH h
        have i2 := ih (.aK _ _ _) _ _ _ (by simp only [fB, EQ.ck] at *; omega) h
        simp only [bZ] at i1 i2
        omega
       ·cases h
     ·split at h
      ·cases h
      ·rename_i x k h1
       have g1 := vW rfl h1
       have i1 := ih .atom _ _ _ (by simp only [fB, EQ.ck] at *; omega) h1
       have g2 := jH h
       have i2 := ih (.apps _) _ _ _ (by simp only [fB, EQ.ck] at *; omega) h
       simp only at i1 i2
       omega
  | apps x =>
   simp only [dM] at h
   simp only
   split at h
   ·rename_i bG
    have hi : i < l.length := by
     unfold mu at bG
     split at bG
     ·rename_i ht; exact hlt ht
     ·cases bG
    split at h
    ·cases h
    ·rename_i a k h1
     have g1 := vW rfl h1
     have i1 := ih .atom _ _ _ (by simp only [fB, EQ.ck] at *; omega) h1
     have g2 := jH h
     have i2 := ih (.apps _) _ _ _ (by simp only [fB, EQ.ck] at *; omega) h
     simp only [bC, aN, cd, bZ] at *
     omega
   ·cases h; omega
  | aK p x acc =>
   simp only [dM] at h
   simp only
   split at h
   ·cases h
   ·rename_i c hc
    have hi : i < l.length := by
     unfold nameAt at hc
     split at hc
     ·rename_i ht; exact hlt ht
     ·cases hc
    split at h
    ·rename_i hm
     have aFJ := cF hm
     split at h
     ·cases h
     ·rename_i b k h1
      have g1 := jH h1
      have i1 := ih .expr _ _ _ (by simp only [fB, EQ.ck] at *; omega) h1
      split at h
      ·have g2 := jH h
       have i2 := ih (.aK _ _ _) _ _ _ (by simp only [fB, EQ.ck] at *; omega) h
       simp only [Jc, bZ, hY] at i1 i2
       omega
      ·split at h
       ·cases h
        simp only [eS, aN, cd, Jc, bZ, hY] at *
        omega
       ·cases h
    ·cases h
  | atom =>
   simp only [dM] at h
   simp only
   split at h
   ·cases h
   ·rename_i t ht
    have hi := hlt ht
    split at h
    ·cases h; simp [cN, aN, cd, bZ]
    ·split at h
     ·cases h; simp [cN, aN, cd, bZ]
     ·split at h
      ·cases h; simp [cN, aN, cd, bZ]
      ·split at h
       ·cases h; simp [cN, aN, cd, bZ]
       ·split at h
        ·split at h
         ·cases h
         ·rename_i x k h1
          have g1 := jH h1
          have i1 := ih .expr _ _ _ (by simp only [fB, EQ.ck] at *; omega) h1
          split at h
          ·cases h
           simp only [bC, aN, cd, bZ] at *
           omega
          ·cases h
        ·split at h
         ·split at h
          ·cases h
          ·rename_i x k h1
           have g1 := jH h1
           have i1 := ih .expr _ _ _ (by simp only [fB, EQ.ck] at *; omega) h1
           simp only at i1
           split at h
           ·split at h
            ·cases h
            ·rename_i y k2 h2
             have g2 := nU l _ _ _ _ (Nat.lt_succ_self _) h2
             simp only at g2
             split at h
             ·cases h
              simp only [h_, aN, cd, bZ] at *
              omega
             ·cases h
           ·split at h
            ·cases h; omega
            ·cases h
         ·cases h
structure Cn where
 pos : Int
 name : Bytes
 fields : List Ty
structure Da where
 pos : Int
 name : Bytes
 params : List Bytes
 cons : List Cn
structure Bi where
 pos : Int
 isRec : Bool
 name : Bytes
 fD : Bool
 sig : Ty
 body : Ex
structure Pg where
 al : List Da
 binds : List Bi
def eC : Bytes := [100, 97, 116, 97]
def od (l : List Tok) : Nat → List Cn → Nat → Except Int (List Cn × Nat)
 | 0, _, j => .error (bH l j)
 | f + 1, acc, j => match nameAt l j 2 with
  | none => .error (bH l j)
  | some c => match a_ l (.args c []) (j + 1) with
   | .error p => .error p
   | .ok (t, k) => if bB l k [124] then od l f (acc ++ [⟨posOf l j, c, t.args⟩]) (k + 1)
    else if bB l k [59] then .ok (acc ++ [⟨posOf l j, c, t.args⟩], k + 1) else .error (bH l k)
theorem Jd (l : List Tok) : ∀ (f f' : Nat) (acc : List Cn) (j : Nat), l.length < j + f → l.length < j + f' → od l f acc j = od l f' acc j
 | 0, 0, _, _, _, _ => rfl
 | 0, f' + 1, acc, j, h, _ => by
  have : nameAt l j 2 = none := by unfold nameAt; rw [List.getElem?_eq_none oM]
  simp only [od, this]
 | f + 1, 0, acc, j, _, h => by
  have : nameAt l j 2 = none := by unfold nameAt; rw [List.getElem?_eq_none oM]
  simp only [od, this]
 | f + 1, f' + 1, acc, j, h, h' => by
  simp only [od]
  cases nameAt l j 2 with
  | none => rfl
  | some c =>
   simp only
   cases hq : a_ l (.args c []) (j + 1) with
   | error p => rfl
   | ok q =>
    obtain ⟨t, k⟩ := q
    have := nU l _ _ _ _ (Nat.lt_succ_self _) hq
    simp only at this ⊢
    rw [Jd l f f' _ (k + 1) oM oM]
def oT (l : List Tok) (acc : List Cn) (j : Nat) : Except Int (List Cn × Nat) := od l (l.length + 1 - j) acc j
theorem EH (l : List Tok) (acc : List Cn) (j : Nat) : oT l acc j = match nameAt l j 2 with
  | none => .error (bH l j)
  | some c => match a_ l (.args c []) (j + 1) with
   | .error p => .error p
   | .ok (t, k) => if bB l k [124] then oT l (acc ++ [⟨posOf l j, c, t.args⟩]) (k + 1)
    else if bB l k [59] then .ok (acc ++ [⟨posOf l j, c, t.args⟩], k + 1) else .error (bH l k) := by
 unfold oT
 rw [Jd l (l.length + 1 - j) ((l.length + 1) + 1) acc j oM oM]
 show (match nameAt l j 2 with
  | none => _
  | some c => _) = _
 cases nameAt l j 2 with
 | none => rfl
 | some c =>
  simp only
  cases hq : a_ l (.args c []) (j + 1) with
  | error p => rfl
  | ok q =>
   obtain ⟨t, k⟩ := q
   simp only
   rw [Jd l (l.length + 1) (l.length + 1 - (k + 1)) _ (k + 1) oM oM]
def iL (l : List Tok) (i : Nat) : Except Int (Da × Nat) :=
 if cA l i eC then match nameAt l (i + 1) 2 with
  | none => .error (bH l (i + 1))
  | some n => if bB l (i + 2 + (lowers (l.drop (i + 2))).length) [61] then match oT l [] (i + 2 + (lowers (l.drop (i + 2))).length + 1) with
    | .error p => .error p
    | .ok (cs, k) => .ok (⟨posOf l i, n, lowers (l.drop (i + 2)), cs⟩, k)
   else .error (bH l (i + 2 + (lowers (l.drop (i + 2))).length))
 else .error (bH l i)
def nb (l : List Tok) (mk : Ex → Bi) (k : Nat) : Except Int (Bi × Nat) :=
 if bB l k [61] then match bt l .expr (k + 1) with
  | .error p => .error p
  | .ok (e, m) => if bB l m [59] then .ok (mk e, m + 1) else .error (bH l m)
 else .error (bH l k)
def pP (l : List Tok) (pos : Int) (r : Bool) (j : Nat) : Except Int (Bi × Nat) := match nameAt l j 1 with
 | none => .error (bH l j)
 | some n => if bB l (j + 1) [58] then match a_ l .whole (j + 2) with
   | .error p => .error p
   | .ok (t, k) => nb l (fun e => ⟨pos, r, n, true, t, e⟩) k
  else nb l (fun e => ⟨pos, r, n, false, bX, e⟩) (j + 1)
def jo (l : List Tok) (i : Nat) : Except Int (Bi × Nat) :=
 if cA l i dI then (if cA l (i + 1) fy then pP l (posOf l i) true (i + 2) else pP l (posOf l i) false (i + 1)) else .error (bH l i)
theorem R2 (l : List Tok) : ∀ (f : Nat) (acc : List Cn) (j : Nat) (x : List Cn × Nat), od l f acc j = .ok x → j < x.2 ∧ x.2 ≤ l.length
 | 0, _, _, _, h => by cases h
 | f + 1, acc, j, x, h => by
  simp only [od] at h
  split at h
  ·cases h
  ·split at h
   ·cases h
   ·rename_i c hc t k hq
    have h1 := nU l _ _ _ _ (Nat.lt_succ_self _) hq
    simp only at h1
    split at h
    ·have := R2 l f _ _ _ h; omega
    ·split at h
     ·rename_i hm
      have := cF hm
      cases h
      simp only; omega
     ·cases h
theorem v_ {l : List Tok} {i : Nat} {d : Da} {j : Nat} (h : iL l i = .ok (d, j)) : i < j ∧ j ≤ l.length := by
 unfold iL at h
 split at h
 ·split at h
  ·cases h
  ·split at h
   ·split at h
    ·cases h
    ·rename_i cs k hq
     have := R2 l _ _ _ _ hq
     cases h
     simp only at this; omega
   ·cases h
 ·cases h
theorem R3 {l : List Tok} {mk : Ex → Bi} {i : Nat} {d : Bi} {j : Nat} (h : nb l mk i = .ok (d, j)) : i < j ∧ j ≤ l.length := by
 unfold nb at h
 split at h
 ·split at h
  ·cases h
  ·rename_i e m hq
   have := jH hq
   split at h
   ·rename_i hm
    have := cF hm
    cases h; omega
   ·cases h
 ·cases h
theorem R4 {l : List Tok} {p : Int} {r : Bool} {i : Nat} {d : Bi} {j : Nat} (h : pP l p r i = .ok (d, j)) : i < j ∧ j ≤ l.length := by
 unfold pP at h
 split at h
 ·cases h
 ·split at h
  ·split at h
   ·cases h
   ·rename_i t k hq
    have h1 := nU l _ _ _ _ (Nat.lt_succ_self _) hq
    have h2 := R3 h
    simp only at h1; omega
  ·have h2 := R3 h; omega
theorem MY {l : List Tok} {i : Nat} {d : Bi} {j : Nat} (h : jo l i = .ok (d, j)) : i < j ∧ j ≤ l.length := by
 unfold jo at h
 split at h
 ·split at h
  ·have h2 := R4 h; omega
  ·have h2 := R4 h; omega
 ·cases h
def oe (l : List Tok) : Nat → Pg → Nat → Except Int Pg
 | 0, p, _ => .ok p
 | f + 1, p, i => if i < l.length then (if cA l i eC then match iL l i with
    | .error q => .error q
    | .ok (d, j) => oe l f ⟨p.al ++ [d], p.binds⟩ j
   else match jo l i with
    | .error q => .error q
    | .ok (b, j) => oe l f ⟨p.al, p.binds ++ [b]⟩ j) else .ok p
theorem yW (l : List Tok) : ∀ (f f' : Nat) (p : Pg) (i : Nat), l.length ≤ i + f → l.length ≤ i + f' → oe l f p i = oe l f' p i
 | 0, 0, _, _, _, _ => rfl
 | 0, f' + 1, p, i, h, _ => by simp only [oe]; rw [if_neg oM]
 | f + 1, 0, p, i, _, h => by simp only [oe]; rw [if_neg oM]
 | f + 1, f' + 1, p, i, h, h' => by
  simp only [oe]
  split
  ·split
   ·cases hq : iL l i with
    | error q => rfl
    | ok x =>
     obtain ⟨d, j⟩ := x
     have := v_ hq
     simp only
     exact yW l f f' _ _ oM oM
   ·cases hq : jo l i with
    | error q => rfl
    | ok x =>
     obtain ⟨d, j⟩ := x
     have := MY hq
     simp only
     exact yW l f f' _ _ oM oM
  ·rfl
def mH (l : List Tok) (p : Pg) (i : Nat) : Except Int Pg := oe l (l.length - i) p i
theorem uO (l : List Tok) (p : Pg) (i : Nat) : mH l p i = if i < l.length then (if cA l i eC then match iL l i with
    | .error q => .error q
    | .ok (d, j) => mH l ⟨p.al ++ [d], p.binds⟩ j
   else match jo l i with
    | .error q => .error q
    | .ok (b, j) => mH l ⟨p.al, p.binds ++ [b]⟩ j) else .ok p := by
 unfold mH
 rw [yW l (l.length - i) (l.length + 1) p i oM oM]
 simp only [oe]
 split
 ·split
  ·cases hq : iL l i with
   | error q => rfl
   | ok x =>
    obtain ⟨d, j⟩ := x
    simp only
    exact yW l _ _ _ _ oM oM
  ·cases hq : jo l i with
   | error q => rfl
   | ok x =>
    obtain ⟨d, j⟩ := x
    simp only
    exact yW l _ _ _ _ oM oM
 ·rfl
end Go.Th
namespace Go.Proofs.YtlnjfkfojkgiiaaGreatDoor
open Go Go.aZ Go.Proofs
theorem vb {a b : Bool} (h : a = true ↔ b = true) : Value.bool a = .bool b := by rw [Bool.eq_iff_iff.2 h]
theorem vi {k : IntKind} {a b : Int} (h : a = b) : Value.int k a = .int k b := by rw [h]
def qM (n m : Int) : Int := if m < 1 then 0 else n % m
theorem aD8 (a m : Int) (h : 1 ≤ m) : (if a.tmod m < 0 then a.tmod m + m else a.tmod m) = a % m := by
 rw [Int.tmod_eq_emod]
 have h1 := Int.emod_nonneg a (by omega : m ≠ 0)
 have h2 := Int.emod_lt_of_pos a (by omega : 0 < m)
 by_cases hd : 0 ≤ a ∨ m ∣ a
 ·rw [if_pos hd]; simp; omega
 ·rw [if_neg hd]
  have : (m.natAbs : Int) = m := by omega
  rw [this]
  have h3 : a % m ≠ 0 := fun h0 => hd (.inr (Int.dvd_of_emod_eq_zero h0))
  rw [if_pos oM]; omega
theorem Kt (g : ab) (a m : Int) (hm : m ≤ 9223372036854775807) : Pure prog 17 [.int .i64 a, .int .i64 m] g (.int .i64 (qM a m)) := by
 refine aw func17 rfl ntmps17 rfl fun E hE => ?_
 refine wz.b.a.a.c.e.b.a.c.z ?_
 refine an rfl (fun h => ?_) (fun h => ?_)
 ·refine wz.l.i.b.a.c.z ?_
  exact ao [] rfl rfl sM ⟨vi (by simp [qM, h]), rfl, rfl⟩
 ·have hk := aD8 a m oM
  have hb := Int.emod_lt_of_pos a (by omega : 0 < m)
  have jX := Int.emod_nonneg a (by omega : m ≠ 0)
  refine wz.b.a.a.c.e.b.a.Cg.a.a.c.d.j.z ?_
  refine an rfl (fun h2 => ?_) (fun h2 => ?_)
  ·rw [if_pos h2] at hk
   refine wz.i.b.a.a.c.b.a.E.a.a.r.z ?_
   exact ao [] rfl rfl sM ⟨vi (by simp only [qM]; rw [if_neg h]; exact hk), rfl, rfl⟩
  ·rw [if_neg h2] at hk
   refine wz.i.b.a.a.c.d.j.z ?_
   exact ao [] rfl rfl sM ⟨vi (by simp only [qM]; rw [if_neg h]; exact hk), rfl, rfl⟩
def aH (t : Ty) (sl : Value) : List Value := [.int .i64 t.kind, str t.name, .int .i64 t.id, .int .i64 t.home, sl]
mutual
def bx (g : ab) : Ty → List Value → Prop
 | .mk k n i h ta, cs => ∃ sl xs, cs = [.int .i64 k, str n, .int .i64 i, .int .i64 h, sl] ∧ au g 5 sl ta.length xs ∧ aV g ta xs
def aV (g : ab) : List Ty → List Value → Prop
 | [], xs => xs = []
 | a :: ta, xs => ∃ c r, xs = c ++ r ∧ bx g a c ∧ aV g ta r
end
mutual
theorem bx.mono {g g' : ab} (hle : ab.le g g') : ∀ (t : Ty) (cs : List Value), bx g t cs → bx g' t cs
 | .mk k n i h ta, cs, ht => by
  unfold bx at ht ⊢
  obtain ⟨sl, xs, h1, h2, h3⟩ := ht
  exact ⟨sl, xs, h1, h2.mono hle, aV.mono hle ta xs h3⟩
theorem aV.mono {g g' : ab} (hle : ab.le g g') : ∀ (ta : List Ty) (xs : List Value), aV g ta xs → aV g' ta xs
 | [], xs, ht => by unfold aV at ht ⊢; exact ht
 | a :: ta, xs, ht => by
  unfold aV at ht ⊢
  obtain ⟨c, r, h1, h2, h3⟩ := ht
  exact ⟨c, r, h1, bx.mono hle a c h2, aV.mono hle ta r h3⟩
end
theorem au.one {g : ab} {size : Nat} {v : Value} {n : Nat} {xs : List Value} (h : au g size v n xs) : fx v = true := by
 rcases h.2 with ⟨⟨a, c, rfl⟩, _⟩ | ⟨b, off, cap, rfl, _⟩ <;> rfl
theorem au.form {g : ab} {size : Nat} {v : Value} {n : Nat} {xs : List Value} (h : au g size v n xs) : ∃ a m c, v = .slice a m c := by
 rcases h.2 with ⟨⟨a, c, rfl⟩, _⟩ | ⟨b, off, cap, rfl, _⟩
 ·exact ⟨_, _, _, rfl⟩
 ·exact ⟨_, _, _, rfl⟩
theorem bx.one {g : ab} {t : Ty} {cs : List Value} (h : bx g t cs) : cs.length = 5 ∧ ∀ u ∈ cs, fx u = true := by
 cases t with
 | mk k n i hh ta =>
  unfold bx at h
  obtain ⟨sl, xs, rfl, h2, _⟩ := h
  refine ⟨rfl, ?_⟩
  intro u hu
  simp only [List.mem_cons, List.not_mem_nil, or_false] at hu
  rcases hu with rfl | rfl | rfl | rfl | rfl
  ·rfl
  ·rfl
  ·rfl
  ·rfl
  ·exact au.one h2
theorem aV.one {g : ab} : ∀ {ta : List Ty} {xs : List Value}, aV g ta xs → xs.length = ta.length * 5 ∧ ∀ u ∈ xs, fx u = true
 | [], xs, h => by unfold aV at h; subst h; simp
 | a :: ta, xs, h => by
  unfold aV at h
  obtain ⟨c, r, rfl, h1, h2⟩ := h
  have i1 := h1.one
  have i2 := aV.one h2
  refine ⟨by rw [List.length_append, i1.1, i2.1, List.length_cons]; omega, fun u hu => ?_⟩
  rcases List.mem_append.1 hu with hu | hu
  ·exact i1.2 u hu
  ·exact i2.2 u hu
theorem aV.get {g : ab} : ∀ {ta : List Ty} {xs : List Value}, aV g ta xs → ∀ (i : Nat) (h : i < ta.length), ∃ c, bx g ta[i] c ∧ ∀ j x, c[j]? = some x → xs[i * 5 + j]? = some x
 | [], xs, _, i, h => by simp at h
 | a :: ta, xs, ht, 0, _ => by
  unfold aV at ht
  obtain ⟨c, r, rfl, h1, h2⟩ := ht
  refine ⟨c, h1, fun j x hx => ?_⟩
  rw [Nat.zero_mul, Nat.zero_add, List.getElem?_append_left (List.getElem?_eq_some_iff.1 hx).1]
  exact hx
 | a :: ta, xs, ht, i + 1, h => by
  unfold aV at ht
  obtain ⟨c, r, rfl, h1, h2⟩ := ht
  obtain ⟨c', h3, h4⟩ := aV.get h2 i (by simpa using h)
  refine ⟨c', h3, fun j x hx => ?_⟩
  have hl := h1.one.1
  rw [List.getElem?_append_right (by rw [hl]; omega), hl, show (i + 1) * 5 + j - 5 = i * 5 + j by omega]
  exact h4 j x hx
theorem aV.snoc {g : ab} {a : Ty} {c : List Value} (hc : bx g a c) : ∀ {ta : List Ty} {xs : List Value}, aV g ta xs → aV g (ta ++ [a]) (xs ++ c)
 | [], xs, h => by
  unfold aV at h
  subst h
  simp only [List.nil_append]
  unfold aV
  exact ⟨c, [], sM, hc, by unfold aV; rfl⟩
 | b :: ta, xs, h => by
  unfold aV at h
  obtain ⟨d, r, rfl, h1, h2⟩ := h
  simp only [List.cons_append]
  unfold aV
  exact ⟨d, r ++ c, sM, h1, aV.snoc hc h2⟩
def aQ (g : ab) (v : Value) (t : Ty) : Prop := ∃ sl, v = .agg #[.int .i64 t.kind, str t.name, .int .i64 t.id, .int .i64 t.home, sl] ∧ bx g t (aH t sl)
theorem aQ.mono {g g' : ab} (hle : ab.le g g') {v : Value} {t : Ty} (h : aQ g v t) : aQ g' v t := by
 obtain ⟨sl, h1, h2⟩ := h
 exact ⟨sl, h1, h2.mono hle⟩
theorem bx.args {g : ab} {t : Ty} {sl : Value} (h : bx g t (aH t sl)) : ∃ xs, au g 5 sl t.args.length xs ∧ aV g t.args xs := by
 cases t with
 | mk k n i hh ta =>
  unfold bx at h
  obtain ⟨cS, xs, h1, h2, h3⟩ := h
  simp only [aH, List.cons.injEq, and_true, true_and, Ty.kind, Ty.name, Ty.id, Ty.home] at h1
  obtain ⟨_, _, _, _, rfl⟩ := h1
  exact ⟨xs, h2, h3⟩
theorem bx.mk {g : ab} {t : Ty} {sl : Value} {xs : List Value} (h2 : au g 5 sl t.args.length xs) (h3 : aV g t.args xs) : bx g t (aH t sl) := by
 cases t with
 | mk k n i hh ta =>
  unfold bx
  exact ⟨sl, xs, rfl, h2, h3⟩
theorem bx.cells {g : ab} {t : Ty} {cs : List Value} (h : bx g t cs) : ∃ sl, cs = aH t sl := by
 cases t with
 | mk k n i hh ta =>
  unfold bx at h
  obtain ⟨sl, xs, h1, _⟩ := h
  exact ⟨sl, h1⟩
theorem aQ.of {g : ab} {t : Ty} {sl : Value} {xs : List Value} (h2 : au g 5 sl t.args.length xs) (h3 : aV g t.args xs) : aQ g (.agg #[.int .i64 t.kind, str t.name, .int .i64 t.id, .int .i64 t.home, sl]) t := ⟨sl, rfl, .mk h2 h3⟩
theorem cP (g : ab) (size : Nat) : au g size (.slice none 0 0) 0 [] := ⟨sM, .inl ⟨⟨_, _, rfl⟩, rfl⟩⟩
theorem cQ (g : ab) : aV g [] [] := by unfold aV; rfl
theorem pZ (g : ab) : aQ g (.agg #[.int .i64 0, str [], .int .i64 0, .int .i64 0, .slice none 0 0]) bX := aQ.of (t := bX) (cP g 5) (cQ g)
theorem aD9 (g : ab) (v : Value) (n : Nat) (xs : List Value) (hs : au g 5 v n xs) (h1 : ∀ u ∈ xs, fx u = true) (hn : n ≤ 1000000) :
  bK prog 163 [v] g fun w g' => au g' 5 w n xs := by
 obtain ⟨a, m, c, rfl⟩ := au.form hs
 refine aw func163 rfl ntmps163 rfl fun E hE => ?_
 refine wz.a.c.e.b.a.c.z ?_; refine cX rfl (Mr rfl rfl) ?_; refine iV ?_
 cases a with
 | none =>
  have h0 : n = 0 ∧ xs = [] := by
   rcases hs.2 with ⟨_, h0⟩ | ⟨b, off, cap, he, _⟩
   ·have hl := hs.1
    rw [h0, Nat.zero_mul] at hl
    exact ⟨h0, List.eq_nil_of_length_eq_zero hl⟩
   ·simp at he
  obtain ⟨rfl, rfl⟩ := h0
  refine wz.l.i.b.a.c.t.z ?_
  exact ao [] rfl rfl sM ⟨cP g 5, rfl⟩
 | some ad =>
  refine wz.c.d.j.o.z ?_
  refine bu rfl rfl rL rL rL rL rL (fun b2 => ?_)
  refine wz.a.z ?_
  refine jr 0 rfl rfl rfl rfl hs rL rL h1 mL oM (fun v' _ => ?_)
  rw [Nat.zero_add]
  refine bg (fun g1 cG aJ => ?_)
  refine wz.i.b.a.z ?_
  exact ao [] rfl rfl sM ⟨aJ, rfl⟩
theorem El (g : ab) (name : Bytes) (v : Value) (ta : List Ty) (xs : List Value) (hs : au g 5 v ta.length xs) (ht : aV g ta xs) (hn : ta.length ≤ 1000000) :
  bK prog 128 [str name, v] g fun w g' => aQ g' w (bJ name ta) := by
 refine aw func128 rfl ntmps128 rfl fun E hE => ?_
 refine aS ?_
 refine aj rfl (fun b4 => ?_)
 refine wz.a.a.c.b.z ?_
 refine aB rfl rfl (aD9 g v ta.length xs hs ht.one.2 hn) ?_
 rintro w g1 aJ hle
 obtain ⟨a, m, c, rfl⟩ := au.form aJ
 refine wz.i.b.q.K.z ?_
 exact bp [] rfl (ay 0 rfl rfl rL) sM ⟨aQ.of (t := bJ name ta) aJ (ht.mono hle), rfl⟩
theorem R5 {g : ab} {t u : Ty} {sl cS : Value} (h1 : bx g t (aH t sl)) (h2 : bx g u (aH u cS)) : aV g [t, u] (aH t sl ++ aH u cS) := by
 unfold aV
 refine ⟨_, _, rfl, h1, ?_⟩
 unfold aV
 exact ⟨_, [], sM, h2, cQ g⟩
theorem R6 (g : ab) (t u : Ty) (v w : Value) (hv : aQ g v t) (hw : aQ g w u) : bK prog 108 [v, w] g fun x g' => aQ g' x (cZ t u) := by
 obtain ⟨sl, rfl, h1⟩ := hv
 obtain ⟨cS, rfl, h2⟩ := hw
 obtain ⟨_, aJ, _⟩ := h1.args
 obtain ⟨_, bj, _⟩ := h2.args
 obtain ⟨a, m, c, rfl⟩ := au.form aJ
 obtain ⟨a', m', c', rfl⟩ := au.form bj
 refine aw func108 rfl ntmps108 rfl fun E hE => ?_
 refine aS ?_
 refine aP rfl rfl rfl (fun b2 => ?_)
 refine aP rfl rfl rfl (fun b3 => ?_)
 refine aj rfl (fun b4 => ?_)
 refine wz.O.Af.c.b.z ?_
 refine bu rfl rfl rL rL rL rL rL (fun b5 => ?_)
 refine bg (fun g1 cG hs => ?_)
 refine aB rfl rfl (El g1 eg _ [t, u] _ hs (R5 (h1.mono cG) (h2.mono cG)) sM) ?_
 rintro x g2 ⟨sx, rfl, hx⟩ hle
 obtain ⟨_, yX, _⟩ := hx.args
 obtain ⟨ax, mx, cx, rfl⟩ := au.form yX
 refine wz.i.b.q.z ?_
 exact bp [] rfl (ay 0 rfl rfl rL) sM ⟨⟨_, rfl, hx⟩, rfl⟩
theorem wD (g : ab) (name : Bytes) (v : Value) (ta : List Ty) (xs : List Value) (hs : au g 5 v ta.length xs) (ht : aV g ta xs) (hn : ta.length ≤ 1000000) :
  bK prog 39 [str name, v] g fun w g' => aQ g' w (bJ name ta) := by
 refine aw func39 rfl ntmps39 rfl fun E hE => ?_
 refine aS ?_
 refine aj rfl (fun b4 => ?_)
 refine wz.AD.a.a.c.b.z ?_
 refine jr 0 rfl rfl rfl rfl hs rL rL ht.one.2 mL oM (fun v' _ => ?_)
 rw [Nat.zero_add]
 refine bg (fun g1 cG aJ => ?_)
 obtain ⟨a, m, c, rfl⟩ := au.form aJ
 refine wz.i.b.q.K.z ?_
 exact bp [] rfl (ay 0 rfl rfl rL) sM ⟨aQ.of (t := bJ name ta) aJ (ht.mono cG), rfl⟩
theorem sj (g : ab) (t u : Ty) (v w : Value) (hv : aQ g v t) (hw : aQ g w u) : bK prog 13 [v, w] g fun x g' => aQ g' x (cZ t u) := by
 obtain ⟨sl, rfl, h1⟩ := hv
 obtain ⟨cS, rfl, h2⟩ := hw
 obtain ⟨_, aJ, _⟩ := h1.args
 obtain ⟨_, bj, _⟩ := h2.args
 obtain ⟨a, m, c, rfl⟩ := au.form aJ
 obtain ⟨a', m', c', rfl⟩ := au.form bj
 refine aw func13 rfl ntmps13 rfl fun E hE => ?_
 refine aS ?_
 refine aP rfl rfl rfl (fun b2 => ?_)
 refine aP rfl rfl rfl (fun b3 => ?_)
 refine aj rfl (fun b4 => ?_)
 refine wz.O.Af.c.b.z ?_
 refine bu rfl rfl rL rL rL rL rL (fun b5 => ?_)
 refine bg (fun g1 cG hs => ?_)
 refine aB rfl rfl (wD g1 eg _ [t, u] _ hs (R5 (h1.mono cG) (h2.mono cG)) sM) ?_
 rintro x g2 ⟨sx, rfl, hx⟩ hle
 obtain ⟨_, yX, _⟩ := hx.args
 obtain ⟨ax, mx, cx, rfl⟩ := au.form yX
 refine wz.i.b.q.z ?_
 exact bp [] rfl (ay 0 rfl rfl rL) sM ⟨⟨_, rfl, hx⟩, rfl⟩
theorem xC (g : ab) (name : Bytes) : Pure prog 14 [str name] g (.agg #[.int .i64 5, str name, .int .i64 0, .int .i64 0, .slice none 0 0]) := by
 refine aw func14 rfl ntmps14 rfl fun E hE => ?_
 refine aS <| aj rfl (fun b => ?_); refine wz.i.b.q.K.a.c.b.z ?_
 exact bp [] rfl (ay 0 rfl rfl rL) sM ⟨rfl, rfl, rfl⟩
theorem R7 (g : ab) (name : Bytes) : aQ g (.agg #[.int .i64 5, str name, .int .i64 0, .int .i64 0, .slice none 0 0]) (fY name) := aQ.of (t := fY name) (cP g 5) (cQ g)
theorem qN (g : ab) : bK prog 15 [] g fun w g' => aQ g' w fL := by
 refine aw func15 rfl ntmps15 rfl fun E hE => ?_
 refine aS ?_
 refine aj rfl (fun b0 => ?_)
 refine wz.c.b.z ?_
 refine aB rfl rfl (wD g Fh _ [] _ (cP g 5) (cQ g) sM) ?_
 rintro x g2 ⟨sx, rfl, hx⟩ hle
 obtain ⟨_, yX, _⟩ := hx.args
 obtain ⟨ax, mx, cx, rfl⟩ := au.form yX
 refine wz.i.b.q.z ?_
 exact bp [] rfl (ay 0 rfl rfl rL) sM ⟨⟨_, rfl, hx⟩, rfl⟩
end Go.Proofs.YtlnjfkfojkgiiaaGreatDoor

/- Types in plain words: the canonical text of a type, its tokens, and that they are read back. No program in sight. -/
import Derived.Test.YtpjehhnaojjanaaGreatDoorK1
namespace Go.Th
inductive GoodT : Ty → Prop where
 | name (n : Bytes) (h : kindOf n = 1) : GoodT (nameT n)
 | con (n : Bytes) (az : List Ty) (h : kindOf n = 2) (ha : ∀ a ∈ az, GoodT a) : GoodT (conT n az)
 | arrow (a b : Ty) (ha : GoodT a) (hb : GoodT b) : GoodT (arrowT a b)
def isArrowT (t : Ty) : Bool := decide (t.kind = 4) && decide (t.name = arrowB) && decide (t.args.length = 2)
def parenT (t : Ty) : Bool := decide (t.kind = 4) && decide (0 < t.args.length)
mutual
def showT : Ty → Bytes
 | .mk k n _ _ az => if k = 5 then n else if n = arrowB then showArrow az else n ++ showArgs az
def showArgs : List Ty → Bytes
 | [] => []
 | a :: r => 32 :: ((if parenT a then 40 :: (showT a ++ [41]) else showT a) ++ showArgs r)
def showArrow : List Ty → Bytes
 | [] => []
 | a :: r => (if isArrowT a then 40 :: (showT a ++ [41]) else showT a) ++ showTo r
def showTo : List Ty → Bytes
 | [] => []
 | b :: _ => [32, 45, 62, 32] ++ showT b
end
mutual
def toksT : Ty → List Bytes
 | .mk k n _ _ az => if k = 5 then [n] else if n = arrowB then toksArrow az else n :: toksArgs az
def toksArgs : List Ty → List Bytes
 | [] => []
 | a :: r => (if parenT a then [40] :: (toksT a ++ [[41]]) else toksT a) ++ toksArgs r
def toksArrow : List Ty → List Bytes
 | [] => []
 | a :: r => (if isArrowT a then [40] :: (toksT a ++ [[41]]) else toksT a) ++ toksTo r
def toksTo : List Ty → List Bytes
 | [] => []
 | b :: _ => arrowB :: toksT b
end
def showArg (t : Ty) : Bytes := if parenT t then 40 :: (showT t ++ [41]) else showT t
def toksArg (t : Ty) : List Bytes := if parenT t then [40] :: (toksT t ++ [[41]]) else toksT t
def showFrom (t : Ty) : Bytes := if isArrowT t then 40 :: (showT t ++ [41]) else showT t
def toksFrom (t : Ty) : List Bytes := if isArrowT t then [40] :: (toksT t ++ [[41]]) else toksT t
theorem showT_name (n : Bytes) : showT (nameT n) = n := by simp [nameT, showT]
theorem toksT_name (n : Bytes) : toksT (nameT n) = [n] := by simp [nameT, toksT]
theorem ne_arrow {n : Bytes} (h : kindOf n = 2) : n ≠ arrowB := by
 intro e; subst e
 have : kindOf arrowB = 5 := by decide
 omega
theorem showT_con {n : Bytes} (az : List Ty) (h : n ≠ arrowB) : showT (conT n az) = n ++ showArgs az := by simp [conT, showT, h]
theorem toksT_con {n : Bytes} (az : List Ty) (h : n ≠ arrowB) : toksT (conT n az) = n :: toksArgs az := by simp [conT, toksT, h]
theorem showT_arrow (a b : Ty) : showT (arrowT a b) = showFrom a ++ ([32, 45, 62, 32] ++ showT b) := by simp [arrowT, conT, showT, showArrow, showTo, showFrom]
theorem toksT_arrow (a b : Ty) : toksT (arrowT a b) = toksFrom a ++ (arrowB :: toksT b) := by simp [arrowT, conT, toksT, toksArrow, toksTo, toksFrom]
theorem showArgs_cons (a : Ty) (r : List Ty) : showArgs (a :: r) = 32 :: (showArg a ++ showArgs r) := by simp [showArgs, showArg]
theorem toksArgs_cons (a : Ty) (r : List Ty) : toksArgs (a :: r) = toksArg a ++ toksArgs r := by simp [toksArgs, toksArg]
theorem kts_append (a b : List Bytes) : kts (a ++ b) = kts a ++ kts b := by simp [kts]
theorem kts_cons (a : Bytes) (b : List Bytes) : kts (a :: b) = (kindOf a, a) :: kts b := rfl
def Scans (s : Bytes) (ws : List Bytes) : Prop := ∀ i r us, apart r → (∀ j, okKt (scanFrom j r) us) → okKt (scanFrom i (s ++ r)) (kts ws ++ us)
theorem Scans.word {w : Bytes} (h : kindOf w ≠ 0) : Scans w [w] := fun _ _ _ hr hu => okKt_word h hr (hu _)
theorem Scans.space {s : Bytes} {ws : List Bytes} (h : Scans s ws) : Scans (32 :: s) ws := fun i r us hr hu => by
 rw [List.cons_append]
 exact okKt_pass (u := [32]) (passes_white (by decide) passes_nil) (fun j => h j r us hr hu)
theorem Scans.nil : Scans [] [] := fun i _ _ _ hu => hu i
theorem Scans.append {s s' : Bytes} {ws ws' : List Bytes} (h : Scans s ws) (h' : Scans s' ws') (hs : ∀ r, apart r → apart (s' ++ r)) : Scans (s ++ s') (ws ++ ws') := fun i r us hr hu => by
 rw [List.append_assoc, kts_append, List.append_assoc]
 exact h i (s' ++ r) (kts ws' ++ us) (hs r hr) (fun j => h' j r us hr hu)
theorem Scans.mark {m s : Bytes} {ws : List Bytes} (hm : isMark m = true) (hk : kindOf m ≠ 0) (h : Scans s ws) : Scans (m ++ s) (m :: ws) := fun i r us hr hu => by
 rw [List.append_assoc, kts_cons, List.cons_append]
 have h0 := h (i + m.length) r us hr hu
 -- a mark is read whatever follows
 obtain ⟨l, h1, h2⟩ := h0
 have key : scanFrom i (m ++ (s ++ r)) = match scanFrom (i + m.length) (s ++ r) with
   | .error e => .error e
   | .ok l => .ok (⟨kindOf m, m, i⟩ :: l) := by
  rcases mark_cases hm with rfl | ⟨c, hc, rfl⟩
  ·have := scanFrom_tok (c := 45) (r := 62 :: (s ++ r)) i (by decide) (by decide)
   have e1 : tokLen (45 :: 62 :: (s ++ r)) = 2 := by simp [tokLen_cons, show inner 45 = false by decide]
   rw [e1] at this
   simp only [List.take_succ_cons, List.take_zero, List.drop_succ_cons, List.drop_zero] at this
   exact this hk
  ·have hh : ∀ c ∈ markBytes, white c = false ∧ c.toNat ≠ 35 ∧ inner c = false ∧ c.toNat ≠ 45 := by decide
   obtain ⟨h1, h2, h3, h4⟩ := hh c hc
   have := scanFrom_tok (c := c) (r := s ++ r) i h1 h2
   have e1 : tokLen (c :: (s ++ r)) = 1 := by rw [tokLen_cons, if_neg (by simp [h3]), if_neg h4]
   rw [e1] at this
   simp only [List.take_succ_cons, List.take_zero, List.drop_succ_cons, List.drop_zero] at this
   exact this hk
 rw [key, h1]
 exact ⟨_, rfl, by rw [← h2]; rfl⟩
theorem apart_app {c : UInt8} {s : Bytes} (h : inner c = false) : ∀ r, apart r → apart ((c :: s) ++ r) := fun _ _ => apart_cons h
theorem apart_id : ∀ r, apart r → apart ([] ++ r) := fun _ h => h
theorem Scans.paren {s : Bytes} {ws : List Bytes} (h : Scans s ws) : Scans (40 :: (s ++ [41])) ([40] :: (ws ++ [[41]])) :=
 Scans.mark (m := [40]) (by decide) (by decide) (h.append (Scans.word (w := [41]) (by decide)) (apart_app (by decide)))
theorem scans_T {t : Ty} (h : GoodT t) : Scans (showT t) (toksT t) := by
 induction h with
 | name n h => rw [showT_name, toksT_name]; exact Scans.word (by omega)
 | con n az h ha ih =>
  rw [showT_con az (ne_arrow h), toksT_con az (ne_arrow h)]
  have key : ∀ az : List Ty, (∀ a ∈ az, Scans (showT a) (toksT a)) → Scans (showArgs az) (toksArgs az) ∧ ∀ r, apart r → apart (showArgs az ++ r) := by
   intro az
   induction az with
   | nil => intro _; exact ⟨by simp only [showArgs, toksArgs]; exact Scans.nil, by simp only [showArgs]; exact apart_id⟩
   | cons a r ihr =>
    intro hh
    have i1 := ihr (fun x hx => hh x (List.mem_cons_of_mem _ hx))
    have i2 := hh a (List.mem_cons_self ..)
    rw [showArgs_cons, toksArgs_cons]
    refine ⟨Scans.space (Scans.append ?_ i1.1 i1.2), apart_app (by decide)⟩
    unfold showArg toksArg
    split
    ·exact i2.paren
    ·exact i2
  have := key az ih
  exact Scans.append (ws := [n]) (Scans.word (by omega)) this.1 this.2
 | arrow a b ha hb iha ihb =>
  rw [showT_arrow, toksT_arrow]
  show Scans (showFrom a ++ (32 :: (arrowB ++ (32 :: showT b)))) _
  refine Scans.append ?_ (Scans.space ?_) (apart_app (by decide))
  ·unfold showFrom toksFrom
   split
   ·exact iha.paren
   ·exact iha
  ·exact Scans.append (ws := [arrowB]) (Scans.word (w := arrowB) (by decide)) (Scans.space ihb) (apart_app (by decide))
def KtAt (l : List Tok) (i : Nat) (ws : List (Int × Bytes)) : Prop := (kt l).drop i = ws
theorem ktAt_cons {l : List Tok} {i : Nat} {k : Int} {w : Bytes} {ws : List (Int × Bytes)} (h : KtAt l i ((k, w) :: ws)) : ∃ t, l[i]? = some t ∧ t.kind = k ∧ t.text = w ∧ KtAt l (i + 1) ws := by
 have h0 : (kt l)[i]? = some (k, w) := by
  have : ((kt l).drop i)[0]? = some (k, w) := by rw [h]; rfl
  rwa [List.getElem?_drop, Nat.add_zero] at this
 have h1 : KtAt l (i + 1) ws := by
  have : ((kt l).drop i).drop 1 = ws := by rw [h]; rfl
  rwa [List.drop_drop] at this
 unfold kt at h0
 rw [List.getElem?_map, Option.map_eq_some_iff] at h0
 obtain ⟨t, h2, h3⟩ := h0
 simp only [Prod.mk.injEq] at h3
 exact ⟨t, h2, h3.1, h3.2, h1⟩
theorem ktAt_app {l : List Tok} {i : Nat} {us ws : List (Int × Bytes)} (h : KtAt l i (us ++ ws)) : KtAt l (i + us.length) ws := by
 unfold KtAt at *
 rw [← List.drop_drop, h, List.drop_left]
theorem kts_len (ws : List Bytes) : (kts ws).length = ws.length := by simp [kts]
def StopS (ws : List (Int × Bytes)) : Prop := ∀ k w r, ws = (k, w) :: r → k ≠ 1 ∧ k ≠ 2 ∧ ¬ (k = 5 ∧ w = [40])
def StopT (ws : List (Int × Bytes)) : Prop := StopS ws ∧ ∀ k w r, ws = (k, w) :: r → ¬ (k = 5 ∧ w = arrowB)
theorem stopS_at {l : List Tok} {i : Nat} {ws : List (Int × Bytes)} (h : KtAt l i ws) (hs : StopS ws) : startsAt l i = false := by
 unfold startsAt
 cases hl : l[i]? with
 | none => rfl
 | some t =>
  cases ws with
  | nil =>
   have hi := (List.getElem?_eq_some_iff.1 hl).1
   have : (kt l).length ≤ i := List.drop_eq_nil_iff.1 h
   simp [kt] at this
   omega
  | cons x r =>
   obtain ⟨k, w⟩ := x
   obtain ⟨t', h1, h2, h3, _⟩ := ktAt_cons h
   rw [hl] at h1; cases h1
   obtain ⟨a, b, c⟩ := hs k w r rfl
   simp only [startsT, h2, h3]
   simp only [Bool.or_eq_false_iff, Bool.and_eq_false_iff, decide_eq_false_iff_not]
   refine ⟨⟨a, b⟩, ?_⟩
   by_cases h5 : k = 5
   ·exact .inr fun e => c ⟨h5, e⟩
   ·exact .inl h5
theorem not_markAt {l : List Tok} {i : Nat} {ws : List (Int × Bytes)} {m : Bytes} (h : KtAt l i ws) (hs : ∀ k w r, ws = (k, w) :: r → ¬ (k = 5 ∧ w = m)) : markAt l i m = false := by
 unfold markAt tokAt
 cases hl : l[i]? with
 | none => rfl
 | some t =>
  cases ws with
  | nil =>
   have hi := (List.getElem?_eq_some_iff.1 hl).1
   have : (kt l).length ≤ i := List.drop_eq_nil_iff.1 h
   simp [kt] at this
   omega
  | cons x r =>
   obtain ⟨k, w⟩ := x
   obtain ⟨t', h1, h2, h3, _⟩ := ktAt_cons h
   rw [hl] at h1; cases h1
   have := hs k w r rfl
   simp only [h2, h3, Bool.and_eq_false_iff, decide_eq_false_iff_not]
   by_cases h5 : k = 5
   ·exact .inr fun e => this ⟨h5, e⟩
   ·exact .inl h5
theorem is_markAt {l : List Tok} {i : Nat} {ws : List (Int × Bytes)} {m : Bytes} (h : KtAt l i ((5, m) :: ws)) : markAt l i m = true := by
 obtain ⟨t, h1, h2, h3, _⟩ := ktAt_cons h
 unfold markAt tokAt
 rw [h1]
 simp [h2, h3]
theorem stopT_close (ws : List (Int × Bytes)) : StopT ((5, [41]) :: ws) :=
 ⟨fun k w r e => by cases e; decide, fun k w r e => by cases e; decide⟩
theorem stopS_arrow (ws : List (Int × Bytes)) : StopS ((5, arrowB) :: ws) := fun k w r e => by cases e; decide
theorem atom_paren {l : List Tok} {i : Nat} {t : Ty} {n : Nat} {us ws : List (Int × Bytes)} (hn : us.length = n) (h : KtAt l i ((5, [40]) :: (us ++ (5, [41]) :: ws))) (hw : KtAt l (i + 1) (us ++ (5, [41]) :: ws) → tread l .whole (i + 1) = .ok (t, i + 1 + n)) :
  tread l .atom i = .ok (t, i + (n + 2)) := by
 obtain ⟨x, h1, h2, h3, h4⟩ := ktAt_cons h
 rw [tread_atom, h1]
 simp only [h2, h3]
 rw [if_neg (by decide), if_neg (by decide), if_pos (by simp), hw h4]
 simp only
 have h5 := ktAt_app h4
 rw [hn] at h5
 rw [if_pos (is_markAt h5)]
 congr 2; omega
theorem ktsP (ws : List Bytes) (us : List (Int × Bytes)) : kts ([40] :: (ws ++ [[41]])) ++ us = (5, [40]) :: (kts ws ++ (5, [41]) :: us) := by
 rw [kts_cons, kts_append]
 have e1 : kindOf [40] = 5 := by decide
 have e2 : kts [[41]] = [(5, [41])] := by decide
 rw [e1, e2]
 simp
def ReadsT (t : Ty) : Prop := ∀ l i ws,
 (StopT ws → KtAt l i (kts (toksT t) ++ ws) → tread l .whole i = .ok (t, i + (toksT t).length)) ∧
 (isArrowT t = false → StopS ws → KtAt l i (kts (toksT t) ++ ws) → tread l .applied i = .ok (t, i + (toksT t).length)) ∧
 (KtAt l i (kts (toksArg t) ++ ws) → tread l .atom i = .ok (t, i + (toksArg t).length))
theorem whole_applied {l : List Tok} {i j : Nat} {t : Ty} {ws : List (Int × Bytes)} (h : tread l .applied i = .ok (t, j)) (hj : KtAt l j ws) (hs : StopT ws) : tread l .whole i = .ok (t, j) := by
 rw [tread_whole, h]
 simp only
 rw [if_neg (by rw [not_markAt hj hs.2]; decide)]
theorem toksT_first {t : Ty} (h : GoodT t) : ∃ w r, toksArg t = w :: r ∧ (kindOf w = 1 ∨ kindOf w = 2 ∨ w = [40]) := by
 unfold toksArg
 by_cases hp : parenT t = true
 ·rw [if_pos hp]; exact ⟨_, _, rfl, .inr (.inr rfl)⟩
 ·rw [if_neg hp]
  cases h with
  | name n h => rw [toksT_name]; exact ⟨_, _, rfl, .inl h⟩
  | con n az h ha => rw [toksT_con az (ne_arrow h)]; exact ⟨_, _, rfl, .inr (.inl h)⟩
  | arrow a b ha hb => exact absurd (by simp [parenT, arrowT, conT, Ty.kind, Ty.args]) hp
theorem startsAt_first {l : List Tok} {i : Nat} {w : Bytes} {ws : List (Int × Bytes)} (h : KtAt l i ((kindOf w, w) :: ws)) (hw : kindOf w = 1 ∨ kindOf w = 2 ∨ w = [40]) : startsAt l i = true := by
 obtain ⟨x, h1, h2, h3, _⟩ := ktAt_cons h
 unfold startsAt
 rw [h1]
 simp only [startsT, h2, h3]
 rcases hw with h | h | rfl
 ·simp [h]
 ·simp [h]
 ·decide
theorem reads_args (l : List Tok) (n : Bytes) (ws : List (Int × Bytes)) (hs : StopS ws) : ∀ (az : List Ty), (∀ a ∈ az, GoodT a) → (∀ a ∈ az, ReadsT a) → ∀ acc i, KtAt l i (kts (toksArgs az) ++ ws) → tread l (.args n acc) i = .ok (conT n (acc ++ az), i + (toksArgs az).length)
 | [], _, _, acc, i, h => by
  simp only [toksArgs] at h ⊢
  rw [tread_args, if_neg (by rw [stopS_at h hs]; decide)]
  simp
 | a :: r, hg, hr, acc, i, h => by
  rw [toksArgs_cons] at h ⊢
  have h0 : KtAt l i (kts (toksArg a) ++ (kts (toksArgs r) ++ ws)) := by rw [← List.append_assoc, ← kts_append]; exact h
  obtain ⟨w, rr, e1, e2⟩ := toksT_first (hg a (List.mem_cons_self ..))
  have hst : startsAt l i = true := by
   refine startsAt_first (w := w) (ws := kts rr ++ (kts (toksArgs r) ++ ws)) ?_ e2
   rw [e1] at h0; exact h0
  have ha := (hr a (List.mem_cons_self ..) l i (kts (toksArgs r) ++ ws)).2.2 h0
  have h1 := ktAt_app h0
  rw [kts_len] at h1
  rw [tread_args, if_pos hst, ha]
  simp only
  rw [if_pos (by rw [e1]; simp), reads_args l n ws hs r (fun x hx => hg x (List.mem_cons_of_mem _ hx)) (fun x hx => hr x (List.mem_cons_of_mem _ hx)) (acc ++ [a]) _ h1]
  simp only [List.append_assoc, List.singleton_append, List.length_append, Nat.add_assoc]
theorem reads_T {t : Ty} (h : GoodT t) : ReadsT t := by
 induction h with
 | name n h =>
  intro l i ws
  have hap : KtAt l i (kts (toksT (nameT n)) ++ ws) → tread l .atom i = .ok (nameT n, i + 1) ∧ tread l .applied i = .ok (nameT n, i + 1) ∧ KtAt l (i + 1) ws := by
   intro hk
   rw [toksT_name] at hk
   obtain ⟨x, h1, h2, h3, h4⟩ := ktAt_cons (k := kindOf n) (w := n) (ws := ws) hk
   have ha : tread l .atom i = .ok (nameT n, i + 1) := by rw [tread_atom, h1]; simp only [h2, h, h3, if_true]
   refine ⟨ha, ?_, h4⟩
   rw [tread_applied, h1]
   simp only [h2, h]
   rw [if_neg (by decide)]
   exact ha
  rw [toksT_name] at hap ⊢
  refine ⟨fun hs hk => whole_applied (hap hk).2.1 (hap hk).2.2 hs, fun _ _ hk => (hap hk).2.1, fun hk => ?_⟩
  have e : toksArg (nameT n) = [n] := by unfold toksArg; rw [if_neg (by simp [parenT, nameT, Ty.kind]), toksT_name]
  rw [e] at hk ⊢
  exact (hap hk).1
 | con n az h ha ih =>
  intro l i ws
  have e := toksT_con az (ne_arrow h)
  have hap : ∀ us, StopS us → KtAt l i (kts (toksT (conT n az)) ++ us) → tread l .applied i = .ok (conT n az, i + (toksT (conT n az)).length) := by
   intro us hs hk
   rw [e] at hk ⊢
   obtain ⟨x, h1, h2, h3, h4⟩ := ktAt_cons (k := kindOf n) (w := n) (ws := kts (toksArgs az) ++ us) hk
   rw [tread_applied, h1]
   simp only [h2, h, if_true, h3]
   rw [reads_args l n us hs az ha ih [] _ h4]
   simp only [List.nil_append, List.length_cons]
   congr 2; omega
  have hwh : ∀ j us, StopT us → KtAt l j (kts (toksT (conT n az)) ++ us) → (tread l .applied j = .ok (conT n az, j + (toksT (conT n az)).length)) → tread l .whole j = .ok (conT n az, j + (toksT (conT n az)).length) := by
   intro j us hs hk hh
   have := ktAt_app hk
   rw [kts_len] at this
   exact whole_applied hh this hs
  have hapj : ∀ j us, StopS us → KtAt l j (kts (toksT (conT n az)) ++ us) → tread l .applied j = .ok (conT n az, j + (toksT (conT n az)).length) := by
   intro j us hs hk
   rw [e] at hk ⊢
   obtain ⟨x, h1, h2, h3, h4⟩ := ktAt_cons (k := kindOf n) (w := n) (ws := kts (toksArgs az) ++ us) hk
   rw [tread_applied, h1]
   simp only [h2, h, if_true, h3]
   rw [reads_args l n us hs az ha ih [] _ h4]
   simp only [List.nil_append, List.length_cons]
   congr 2; omega
  refine ⟨fun hs hk => hwh i ws hs hk (hap ws hs.1 hk), fun _ hs hk => hap ws hs hk, fun hk => ?_⟩
  cases az with
  | nil =>
   have e2 : toksArg (conT n []) = [n] := by unfold toksArg; rw [if_neg (by simp [parenT, conT, Ty.args]), e]; simp [toksArgs]
   rw [e2] at hk ⊢
   obtain ⟨x, h1, h2, h3, h4⟩ := ktAt_cons (k := kindOf n) (w := n) (ws := ws) hk
   rw [tread_atom, h1]
   simp only [h2, h, h3]
   rw [if_neg (by decide)]
   rfl
  | cons b bs =>
   have e2 : toksArg (conT n (b :: bs)) = [40] :: (toksT (conT n (b :: bs)) ++ [[41]]) := by unfold toksArg; rw [if_pos (by simp [parenT, conT, Ty.args, Ty.kind])]
   rw [e2] at hk ⊢
   rw [ktsP] at hk
   have := atom_paren (n := (toksT (conT n (b :: bs))).length) (kts_len _) hk (fun hk' => hwh (i + 1) _ (stopT_close _) hk' (hapj (i + 1) _ (stopT_close _).1 hk'))
   rw [this]
   simp
 | arrow a b ha hb iha ihb =>
  intro l i ws
  have e := toksT_arrow a b
  have hwh : ∀ j us, StopT us → KtAt l j (kts (toksT (arrowT a b)) ++ us) → tread l .whole j = .ok (arrowT a b, j + (toksT (arrowT a b)).length) := by
   intro j us hs hk
   rw [e, kts_append, List.append_assoc] at hk
   have h1 : tread l .applied j = .ok (a, j + (toksFrom a).length) := by
    unfold toksFrom at hk ⊢
    by_cases hi : isArrowT a = true
    ·rw [if_pos hi] at hk ⊢
     rw [ktsP] at hk
     have h2 := atom_paren (n := (toksT a).length) (kts_len _) hk (fun hk' => (iha l (j + 1) _).1 (stopT_close _) hk')
     obtain ⟨x, g1, g2, g3, g4⟩ := ktAt_cons hk
     rw [tread_applied, g1]
     simp only [g2]
     rw [if_neg (by decide), h2]
     simp
    ·rw [if_neg hi] at hk ⊢
     exact (iha l j _).2.1 (by simpa using hi) (stopS_arrow _) hk
   have h3 := ktAt_app hk
   rw [kts_len] at h3
   obtain ⟨x, g1, g2, g3, g4⟩ := ktAt_cons (k := 5) (w := arrowB) (ws := kts (toksT b) ++ us) h3
   have h5 := (ihb l (j + (toksFrom a).length + 1) us).1 hs g4
   rw [tread_whole, h1]
   simp only
   rw [if_pos (is_markAt (ws := kts (toksT b) ++ us) h3), if_pos (by omega), h5]
   simp only [e, List.length_append, List.length_cons]
   congr 2; omega
  refine ⟨hwh i ws, fun hn => absurd hn (by simp [isArrowT, arrowT, conT, Ty.kind, Ty.name, Ty.args]), fun hk => ?_⟩
  have e2 : toksArg (arrowT a b) = [40] :: (toksT (arrowT a b) ++ [[41]]) := by unfold toksArg; rw [if_pos (by simp [parenT, arrowT, conT, Ty.args, Ty.kind])]
  rw [e2] at hk ⊢
  rw [ktsP] at hk
  have := atom_paren (n := (toksT (arrowT a b)).length) (kts_len _) hk (fun hk' => hwh (i + 1) _ (stopT_close _) hk')
  rw [this]
  simp
end Go.Th
-- sum 71503007d4f82c89

/- Expressions in plain words: the canonical text and its tokens. No program in sight. -/
namespace Go.Th
inductive GoodE : Ex → Prop where
 | var (p : Int) (n : Bytes) (h : kindOf n = 1) : GoodE (leafE 1 p n 0)
 | con (p : Int) (n : Bytes) (h : kindOf n = 2) : GoodE (leafE 2 p n 0)
 | int (p : Int) (m : Nat) (h : m < 10) : GoodE (leafE 3 p [] m)
 | hole (p : Int) : GoodE (leafE 10 p [] 0)
 | lam (p : Int) (n : Bytes) (b : Ex) (h : kindOf n = 1) (hb : GoodE b) : GoodE (kidsE 4 p n [b])
 | app (p : Int) (f a : Ex) (hf : GoodE f) (ha : GoodE a) : GoodE (kidsE 5 p [] [f, a])
 | bind (k p : Int) (n : Bytes) (a b : Ex) (hk : k = 6 ∨ k = 7) (h : kindOf n = 1) (ha : GoodE a) (hb : GoodE b) : GoodE (kidsE k p n [a, b])
 | ann (p : Int) (e : Ex) (t : Ty) (he : GoodE e) (ht : GoodT t) : GoodE (annE p e t)
 | held (p : Int) (e : Ex) (he : GoodE e) : GoodE (kidsE 11 p [] [e])
 | case (p : Int) (e : Ex) (az : List Ar) (he : GoodE e) (hne : az ≠ []) (hc : ∀ a ∈ az, kindOf a.con = 2 ∧ ∀ v ∈ a.vars, kindOf v = 1) (ha : ∀ a ∈ az, GoodE a.body) : GoodE (caseE p e az)
def atomK (k : Int) : Bool := decide (k = 1) || decide (k = 2) || decide (k = 3) || decide (k = 10) || decide (k = 9) || decide (k = 11)
def funK (k : Int) : Bool := atomK k || decide (k = 5)
def paren (s : Bytes) : Bytes := 40 :: (s ++ [41])
def parens (ws : List Bytes) : List Bytes := [40] :: (ws ++ [[41]])
def showVars (vs : List Bytes) : Bytes := vs.flatMap (32 :: ·)
mutual
def showE : Ex → Bytes
 | .mk k _ n m ks az t =>
  if k = 1 then n else if k = 2 then n else if k = 3 then [UInt8.ofNat (48 + m.toNat)] else if k = 10 then [63]
  else if k = 4 then [92] ++ (n ++ ([46] ++ (32 :: showFst ks)))
  else if k = 5 then showFun ks
  else if k = 6 then letB ++ (32 :: (n ++ (32 :: ([61] ++ (32 :: showLet ks)))))
  else if k = 7 then letB ++ (32 :: (recB ++ (32 :: (n ++ (32 :: ([61] ++ (32 :: showLet ks)))))))
  else if k = 9 then [40] ++ (showFst ks ++ (32 :: ([58] ++ (32 :: (showT t ++ [41])))))
  else if k = 11 then [123] ++ (showFst ks ++ [125])
  else caseB ++ (32 :: (showFst ks ++ (32 :: (ofB ++ (32 :: (showArms az ++ (32 :: endB)))))))
def showFst : List Ex → Bytes
 | [] => []
 | a :: _ => showE a
def showFun : List Ex → Bytes
 | [] => []
 | f :: r => (if funK f.kind then showE f else paren (showE f)) ++ showArg1 r
def showArg1 : List Ex → Bytes
 | [] => []
 | a :: _ => 32 :: (if atomK a.kind then showE a else paren (showE a))
def showLet : List Ex → Bytes
 | [] => []
 | a :: r => showE a ++ (32 :: (inB ++ (32 :: showFst r)))
def showAr : Ar → Bytes
 | .mk _ c vs b => c ++ (showVars vs ++ ([46] ++ (32 :: showE b)))
def showArms : List Ar → Bytes
 | [] => []
 | a :: r => showAr a ++ showMore r
def showMore : List Ar → Bytes
 | [] => []
 | a :: r => 32 :: ([124] ++ (32 :: (showAr a ++ showMore r)))
end
mutual
def toksE : Ex → List Bytes
 | .mk k _ n m ks az t =>
  if k = 1 then [n] else if k = 2 then [n] else if k = 3 then [[UInt8.ofNat (48 + m.toNat)]] else if k = 10 then [[63]]
  else if k = 4 then [92] :: n :: [46] :: toksFst ks
  else if k = 5 then toksFun ks
  else if k = 6 then letB :: n :: [61] :: toksLet ks
  else if k = 7 then letB :: recB :: n :: [61] :: toksLet ks
  else if k = 9 then [40] :: (toksFst ks ++ ([58] :: (toksT t ++ [[41]])))
  else if k = 11 then [123] :: (toksFst ks ++ [[125]])
  else caseB :: (toksFst ks ++ (ofB :: (toksArms az ++ [endB])))
def toksFst : List Ex → List Bytes
 | [] => []
 | a :: _ => toksE a
def toksFun : List Ex → List Bytes
 | [] => []
 | f :: r => (if funK f.kind then toksE f else parens (toksE f)) ++ toksArg1 r
def toksArg1 : List Ex → List Bytes
 | [] => []
 | a :: _ => if atomK a.kind then toksE a else parens (toksE a)
def toksLet : List Ex → List Bytes
 | [] => []
 | a :: r => toksE a ++ (inB :: toksFst r)
def toksAr : Ar → List Bytes
 | .mk _ c vs b => c :: (vs ++ ([46] :: toksE b))
def toksArms : List Ar → List Bytes
 | [] => []
 | a :: r => toksAr a ++ toksMore r
def toksMore : List Ar → List Bytes
 | [] => []
 | a :: r => [124] :: (toksAr a ++ toksMore r)
end
def funS (e : Ex) : Bytes := if funK e.kind then showE e else paren (showE e)
def argS (e : Ex) : Bytes := if atomK e.kind then showE e else paren (showE e)
def funW (e : Ex) : List Bytes := if funK e.kind then toksE e else parens (toksE e)
def argW (e : Ex) : List Bytes := if atomK e.kind then toksE e else parens (toksE e)
theorem showE_var (p : Int) (n : Bytes) : showE (leafE 1 p n 0) = n := by simp [leafE, showE]
theorem showE_con (p : Int) (n : Bytes) : showE (leafE 2 p n 0) = n := by simp [leafE, showE]
theorem showE_int (p : Int) (m : Nat) : showE (leafE 3 p [] m) = [UInt8.ofNat (48 + m)] := by simp [leafE, showE]
theorem showE_hole (p : Int) : showE (leafE 10 p [] 0) = [63] := by simp [leafE, showE]
theorem showE_lam (p : Int) (n : Bytes) (b : Ex) : showE (kidsE 4 p n [b]) = [92] ++ (n ++ ([46] ++ (32 :: showE b))) := by simp [kidsE, showE, showFst]
theorem showE_app (p : Int) (f a : Ex) : showE (kidsE 5 p [] [f, a]) = funS f ++ (32 :: argS a) := by simp [kidsE, showE, showFun, showArg1, funS, argS]
theorem showE_let (p : Int) (n : Bytes) (a b : Ex) : showE (kidsE 6 p n [a, b]) = letB ++ (32 :: (n ++ (32 :: ([61] ++ (32 :: (showE a ++ (32 :: (inB ++ (32 :: showE b))))))))) := by simp [kidsE, showE, showLet, showFst]
theorem showE_rec (p : Int) (n : Bytes) (a b : Ex) : showE (kidsE 7 p n [a, b]) = letB ++ (32 :: (recB ++ (32 :: (n ++ (32 :: ([61] ++ (32 :: (showE a ++ (32 :: (inB ++ (32 :: showE b))))))))))) := by simp [kidsE, showE, showLet, showFst]
theorem showE_ann (p : Int) (e : Ex) (t : Ty) : showE (annE p e t) = [40] ++ (showE e ++ (32 :: ([58] ++ (32 :: (showT t ++ [41]))))) := by simp [annE, showE, showFst]
theorem showE_held (p : Int) (e : Ex) : showE (kidsE 11 p [] [e]) = [123] ++ (showE e ++ [125]) := by simp [kidsE, showE, showFst]
theorem showE_case (p : Int) (e : Ex) (az : List Ar) : showE (caseE p e az) = caseB ++ (32 :: (showE e ++ (32 :: (ofB ++ (32 :: (showArms az ++ (32 :: endB))))))) := by simp [caseE, showE, showFst]
theorem toksE_var (p : Int) (n : Bytes) : toksE (leafE 1 p n 0) = [n] := by simp [leafE, toksE]
theorem toksE_con (p : Int) (n : Bytes) : toksE (leafE 2 p n 0) = [n] := by simp [leafE, toksE]
theorem toksE_int (p : Int) (m : Nat) : toksE (leafE 3 p [] m) = [[UInt8.ofNat (48 + m)]] := by simp [leafE, toksE]
theorem toksE_hole (p : Int) : toksE (leafE 10 p [] 0) = [[63]] := by simp [leafE, toksE]
theorem toksE_lam (p : Int) (n : Bytes) (b : Ex) : toksE (kidsE 4 p n [b]) = [92] :: n :: [46] :: toksE b := by simp [kidsE, toksE, toksFst]
theorem toksE_app (p : Int) (f a : Ex) : toksE (kidsE 5 p [] [f, a]) = funW f ++ argW a := by simp [kidsE, toksE, toksFun, toksArg1, funW, argW]
theorem toksE_let (p : Int) (n : Bytes) (a b : Ex) : toksE (kidsE 6 p n [a, b]) = letB :: n :: [61] :: (toksE a ++ (inB :: toksE b)) := by simp [kidsE, toksE, toksLet, toksFst]
theorem toksE_rec (p : Int) (n : Bytes) (a b : Ex) : toksE (kidsE 7 p n [a, b]) = letB :: recB :: n :: [61] :: (toksE a ++ (inB :: toksE b)) := by simp [kidsE, toksE, toksLet, toksFst]
theorem toksE_ann (p : Int) (e : Ex) (t : Ty) : toksE (annE p e t) = [40] :: (toksE e ++ ([58] :: (toksT t ++ [[41]]))) := by simp [annE, toksE, toksFst]
theorem toksE_held (p : Int) (e : Ex) : toksE (kidsE 11 p [] [e]) = [123] :: (toksE e ++ [[125]]) := by simp [kidsE, toksE, toksFst]
theorem toksE_case (p : Int) (e : Ex) (az : List Ar) : toksE (caseE p e az) = caseB :: (toksE e ++ (ofB :: (toksArms az ++ [endB]))) := by simp [caseE, toksE, toksFst]
theorem kind_digit {m : Nat} (h : m < 10) : kindOf [UInt8.ofNat (48 + m)] = 3 := by
 have : ∀ m : Fin 10, kindOf [UInt8.ofNat (48 + m.val)] = 3 := by decide
 exact this ⟨m, h⟩
theorem num_digit {m : Nat} (h : m < 10) : numOf [UInt8.ofNat (48 + m)] = m := by
 have : ∀ m : Fin 10, numOf [UInt8.ofNat (48 + m.val)] = (m.val : Int) := by decide
 exact this ⟨m, h⟩
theorem Scans.cons {s : Bytes} {w : Bytes} {ws : List Bytes} (hw : kindOf w ≠ 0) (h : Scans s ws) (hs : ∀ r, apart r → apart (s ++ r)) : Scans (w ++ s) (w :: ws) := Scans.append (ws := [w]) (Scans.word hw) h hs
theorem Scans.wsp {s : Bytes} {w : Bytes} {ws : List Bytes} (hw : kindOf w ≠ 0) (h : Scans s ws) : Scans (w ++ (32 :: s)) (w :: ws) := Scans.cons hw h.space (apart_app (by decide))
theorem Scans.parenS {s : Bytes} {ws : List Bytes} (h : Scans s ws) : Scans (Go.Th.paren s) (Go.Th.parens ws) := Scans.paren h
theorem scans_vars {s : Bytes} {ws : List Bytes} (h : Scans s ws) (hs : ∀ r, apart r → apart (s ++ r)) : ∀ (vs : List Bytes), (∀ v ∈ vs, kindOf v = 1) → Scans (showVars vs ++ s) (vs ++ ws) ∧ ∀ r, apart r → apart ((showVars vs ++ s) ++ r)
 | [], _ => by simpa [showVars] using ⟨h, hs⟩
 | v :: vs, hv => by
  have ih := scans_vars h hs vs (fun x hx => hv x (List.mem_cons_of_mem _ hx))
  have e : showVars (v :: vs) ++ s = 32 :: (v ++ (showVars vs ++ s)) := by simp [showVars]
  rw [e]
  exact ⟨Scans.space (Scans.cons (by rw [hv v (List.mem_cons_self ..)]; decide) ih.1 ih.2), apart_app (by decide)⟩
theorem scans_E {e : Ex} (h : GoodE e) : Scans (showE e) (toksE e) := by
 induction h with
 | var p n h => rw [showE_var, toksE_var]; exact Scans.word (by omega)
 | con p n h => rw [showE_con, toksE_con]; exact Scans.word (by omega)
 | int p m h => rw [showE_int, toksE_int]; exact Scans.word (by rw [kind_digit h]; decide)
 | hole p => rw [showE_hole, toksE_hole]; exact Scans.word (by decide)
 | lam p n b h hb ih =>
  rw [showE_lam, toksE_lam]
  exact Scans.mark (by decide) (by decide) (Scans.cons (by omega) (Scans.wsp (w := [46]) (by decide) ih) (apart_app (by decide)))
 | app p f a hf ha ihf iha =>
  rw [showE_app, toksE_app]
  refine Scans.append ?_ (Scans.space ?_) (apart_app (by decide))
  ·unfold funS funW
   split
   ·exact ihf
   ·exact ihf.parenS
  ·unfold argS argW
   split
   ·exact iha
   ·exact iha.parenS
 | bind k p n a b hk h ha hb iha ihb =>
  have h2 : Scans (n ++ (32 :: ([61] ++ (32 :: (showE a ++ (32 :: (inB ++ (32 :: showE b)))))))) (n :: [61] :: (toksE a ++ (inB :: toksE b))) :=
   Scans.wsp (by omega) (Scans.wsp (by decide) (Scans.append iha (Scans.space (Scans.wsp (by decide) ihb)) (apart_app (by decide))))
  rcases hk with rfl | rfl
  ·rw [showE_let, toksE_let]
   exact Scans.wsp (by decide) h2
  ·rw [showE_rec, toksE_rec]
   exact Scans.wsp (by decide) (Scans.wsp (by decide) h2)
 | ann p e t he ht ih =>
  rw [showE_ann, toksE_ann]
  exact Scans.mark (by decide) (by decide) (Scans.append ih (Scans.space (Scans.wsp (by decide) (Scans.append (scans_T ht) (Scans.word (by decide)) (apart_app (by decide))))) (apart_app (by decide)))
 | held p e he ih =>
  rw [showE_held, toksE_held]
  exact Scans.mark (by decide) (by decide) (Scans.append ih (Scans.word (by decide)) (apart_app (by decide)))
 | case p e az he hne hc ha ihe ihs =>
  rw [showE_case, toksE_case]
  have har : ∀ a ∈ az, Scans (showAr a) (toksAr a) := by
   intro a hm
   have i1 := ihs a hm
   have i2 := hc a hm
   obtain ⟨q, c, vs, b⟩ := a
   simp only [showAr, toksAr]
   simp only [Ar.body, Ar.con, Ar.vars] at i1 i2
   have i3 := scans_vars (Scans.wsp (w := [46]) (by decide) i1) (apart_app (by decide)) vs i2.2
   exact Scans.cons (by omega) i3.1 i3.2
  have key : ∀ az : List Ar, (∀ a ∈ az, Scans (showAr a) (toksAr a)) → Scans (showMore az) (toksMore az) ∧ ∀ r, apart r → apart (showMore az ++ r) := by
   intro az
   induction az with
   | nil => intro _; exact ⟨by simp only [showMore, toksMore]; exact Scans.nil, by simp only [showMore]; exact apart_id⟩
   | cons a r ihr =>
    intro hh
    have i1 := ihr (fun x hx => hh x (List.mem_cons_of_mem _ hx))
    have i2 := hh a (List.mem_cons_self ..)
    simp only [showMore, toksMore]
    exact ⟨Scans.space (Scans.wsp (by decide) (Scans.append i2 i1.1 i1.2)), apart_app (by decide)⟩
  have hall : Scans (showArms az) (toksArms az) := by
   cases az with
   | nil => exact absurd rfl hne
   | cons a r =>
    have i1 := key r (fun x hx => har x (List.mem_cons_of_mem _ hx))
    simp only [showArms, toksArms]
    exact Scans.append (har a (List.mem_cons_self ..)) i1.1 i1.2
  exact Scans.wsp (by decide) (Scans.append ihe (Scans.space (Scans.wsp (by decide) (Scans.append hall (Scans.space (Scans.word (by decide))) (apart_app (by decide))))) (apart_app (by decide)))
end Go.Th
-- sum f1b56e408fcda0c1

/- Expressions in plain words: the canonical text's tokens are read back. No program in sight. -/
namespace Go.Th
mutual
def eraseE : Ex → Ex
 | .mk k _ n m ks az t => .mk k 0 n m (eraseEs ks) (eraseAs az) t
def eraseEs : List Ex → List Ex
 | [] => []
 | a :: r => eraseE a :: eraseEs r
def eraseA : Ar → Ar
 | .mk _ c vs b => .mk 0 c vs (eraseE b)
def eraseAs : List Ar → List Ar
 | [] => []
 | a :: r => eraseA a :: eraseAs r
end
theorem eraseE_leaf (k p : Int) (n : Bytes) (m : Int) : eraseE (leafE k p n m) = leafE k 0 n m := by simp [leafE, eraseE, eraseEs, eraseAs]
theorem eraseE_k1 (k p : Int) (n : Bytes) (a : Ex) : eraseE (kidsE k p n [a]) = kidsE k 0 n [eraseE a] := by simp [kidsE, eraseE, eraseEs, eraseAs]
theorem eraseE_k2 (k p : Int) (n : Bytes) (a b : Ex) : eraseE (kidsE k p n [a, b]) = kidsE k 0 n [eraseE a, eraseE b] := by simp [kidsE, eraseE, eraseEs, eraseAs]
theorem eraseE_ann (p : Int) (a : Ex) (t : Ty) : eraseE (annE p a t) = annE 0 (eraseE a) t := by simp [annE, eraseE, eraseEs, eraseAs]
theorem eraseE_case (p : Int) (a : Ex) (az : List Ar) : eraseE (caseE p a az) = caseE 0 (eraseE a) (eraseAs az) := by simp [caseE, eraseE, eraseEs, eraseAs]
def StopE (ws : List (Int × Bytes)) : Prop := ∀ k w r, ws = (k, w) :: r → k ≠ 1 ∧ k ≠ 2 ∧ k ≠ 3 ∧ ¬ (k = 5 ∧ (w = [63] ∨ w = [40] ∨ w = [123]))
theorem at_none {l : List Tok} {i : Nat} (h : KtAt l i []) : l[i]? = none := by
 have : (kt l).length ≤ i := List.drop_eq_nil_iff.1 h
 simp [kt] at this
 exact List.getElem?_eq_none (by omega)
theorem stopE_at {l : List Tok} {i : Nat} {ws : List (Int × Bytes)} (h : KtAt l i ws) (hs : StopE ws) : startsEAt l i = false := by
 unfold startsEAt
 cases ws with
 | nil => rw [at_none h]
 | cons x r =>
  obtain ⟨k, w⟩ := x
  obtain ⟨t', h1, h2, h3, _⟩ := ktAt_cons h
  obtain ⟨a, b, c, d⟩ := hs k w r rfl
  rw [h1]
  simp only [startsE, h2, h3]
  simp only [a, b, c, decide_false, Bool.false_or, Bool.and_eq_false_iff, Bool.or_eq_false_iff, decide_eq_false_iff_not]
  by_cases h5 : k = 5
  ·exact .inr ⟨⟨fun e => d ⟨h5, .inl e⟩, fun e => d ⟨h5, .inr (.inl e)⟩⟩, fun e => d ⟨h5, .inr (.inr e)⟩⟩
  ·exact .inl h5
theorem not_tokAt {l : List Tok} {i : Nat} {k : Int} {w : Bytes} {ws : List (Int × Bytes)} {k' : Int} {m : Bytes} (h : KtAt l i ((k, w) :: ws)) (hs : k ≠ k' ∨ w ≠ m) : tokAt l i k' m = false := by
 obtain ⟨t, h1, h2, h3, _⟩ := ktAt_cons h
 unfold tokAt
 rw [h1]
 simp only [h2, h3, Bool.and_eq_false_iff, decide_eq_false_iff_not]
 exact hs
theorem is_tokAt {l : List Tok} {i : Nat} {k : Int} {w : Bytes} {ws : List (Int × Bytes)} (h : KtAt l i ((k, w) :: ws)) : tokAt l i k w = true := by
 obtain ⟨t, h1, h2, h3, _⟩ := ktAt_cons h
 unfold tokAt
 rw [h1]
 simp [h2, h3]
theorem is_nameAt {l : List Tok} {i : Nat} {k : Int} {w : Bytes} {ws : List (Int × Bytes)} (h : KtAt l i ((k, w) :: ws)) : nameAt l i k = some w := by
 obtain ⟨t, h1, h2, h3, _⟩ := ktAt_cons h
 unfold nameAt
 rw [h1]
 simp [h2, h3]
theorem ktAt_next {l : List Tok} {i : Nat} {k : Int} {w : Bytes} {ws : List (Int × Bytes)} (h : KtAt l i ((k, w) :: ws)) : KtAt l (i + 1) ws := (ktAt_cons h).choose_spec.2.2.2
theorem lowers_at {l : List Tok} : ∀ (vs : List Bytes) (i : Nat) (ws : List (Int × Bytes)), (∀ v ∈ vs, kindOf v = 1) → KtAt l i (kts vs ++ (5, [46]) :: ws) → lowers (l.drop i) = vs
 | [], i, ws, _, h => by
  obtain ⟨t, h1, h2, h3, _⟩ := ktAt_cons (k := 5) (w := [46]) (ws := ws) h
  have hi := (List.getElem?_eq_some_iff.1 h1)
  rw [List.drop_eq_getElem_cons hi.1, hi.2]
  simp [lowers, h2]
 | v :: vs, i, ws, hv, h => by
  obtain ⟨t, h1, h2, h3, h4⟩ := ktAt_cons (k := kindOf v) (w := v) (ws := kts vs ++ (5, [46]) :: ws) h
  have hi := (List.getElem?_eq_some_iff.1 h1)
  rw [List.drop_eq_getElem_cons hi.1, hi.2]
  simp only [lowers, h2, hv v (List.mem_cons_self ..), if_true, h3]
  rw [lowers_at vs (i + 1) ws (fun x hx => hv x (List.mem_cons_of_mem _ hx)) h4]
def FirstA (w : Bytes) : Prop := kindOf w = 1 ∨ kindOf w = 2 ∨ kindOf w = 3 ∨ w = [63] ∨ w = [40] ∨ w = [123]
theorem first_E {e : Ex} (h : GoodE e) (hk : funK e.kind = true) : ∃ w r, toksE e = w :: r ∧ FirstA w := by
 induction h with
 | var p n h => rw [toksE_var]; exact ⟨_, _, rfl, .inl h⟩
 | con p n h => rw [toksE_con]; exact ⟨_, _, rfl, .inr (.inl h)⟩
 | int p m h => rw [toksE_int]; exact ⟨_, _, rfl, .inr (.inr (.inl (kind_digit h)))⟩
 | hole p => rw [toksE_hole]; exact ⟨_, _, rfl, .inr (.inr (.inr (.inl rfl)))⟩
 | lam p n b h hb ih => exact absurd hk (by simp [kidsE, Ex.kind, funK, atomK])
 | app p f a hf ha ihf iha =>
  rw [toksE_app]
  unfold funW
  by_cases h : funK f.kind = true
  ·rw [if_pos h]
   obtain ⟨w, r, e1, e2⟩ := ihf h
   rw [e1]
   exact ⟨_, _, rfl, e2⟩
  ·rw [if_neg h]
   exact ⟨_, _, rfl, .inr (.inr (.inr (.inr (.inl rfl))))⟩
 | bind k p n a b hk' h ha hb iha ihb => exact absurd hk (by rcases hk' with rfl | rfl <;> simp [kidsE, Ex.kind, funK, atomK])
 | ann p e t he ht ih => rw [toksE_ann]; exact ⟨_, _, rfl, .inr (.inr (.inr (.inr (.inl rfl))))⟩
 | held p e he ih => rw [toksE_held]; exact ⟨_, _, rfl, .inr (.inr (.inr (.inr (.inr rfl))))⟩
 | case p e az he hne hc ha ihe ihs => exact absurd hk (by simp [caseE, Ex.kind, funK, atomK])
theorem first_arg {e : Ex} (h : GoodE e) : ∃ w r, argW e = w :: r ∧ FirstA w := by
 unfold argW
 by_cases hk : atomK e.kind = true
 ·rw [if_pos hk]; exact first_E h (by simp [funK, hk])
 ·rw [if_neg hk]; exact ⟨_, _, rfl, .inr (.inr (.inr (.inr (.inl rfl))))⟩
theorem first_starts {l : List Tok} {i : Nat} {w : Bytes} {ws : List (Int × Bytes)} (h : KtAt l i ((kindOf w, w) :: ws)) (hw : FirstA w) : startsEAt l i = true := by
 obtain ⟨x, h1, h2, h3, _⟩ := ktAt_cons h
 unfold startsEAt
 rw [h1]
 simp only [startsE, h2, h3]
 rcases hw with h | h | h | rfl | rfl | rfl
 ·simp [h]
 ·simp [h]
 ·simp [h]
 ·decide
 ·decide
 ·decide
theorem first_not {w : Bytes} (hw : FirstA w) : (kindOf w ≠ 5 ∨ w ≠ [92]) ∧ kindOf w ≠ 4 := by
 rcases hw with h | h | h | rfl | rfl | rfl
 ·exact ⟨.inl (by omega), by omega⟩
 ·exact ⟨.inl (by omega), by omega⟩
 ·exact ⟨.inl (by omega), by omega⟩
 ·decide
 ·decide
 ·decide
def ReadsE (e : Ex) : Prop := ∀ l i ws,
 (StopE ws → KtAt l i (kts (toksE e) ++ ws) → ∃ y, eread l .expr i = .ok (y, i + (toksE e).length) ∧ eraseE y = eraseE e) ∧
 (atomK e.kind = true → KtAt l i (kts (toksE e) ++ ws) → ∃ y, eread l .atom i = .ok (y, i + (toksE e).length) ∧ eraseE y = eraseE e) ∧
 (funK e.kind = true → KtAt l i (kts (toksE e) ++ ws) → ∃ y0 j0 y, eread l .atom i = .ok (y0, j0) ∧ eread l (.apps y0) j0 = eread l (.apps y) (i + (toksE e).length) ∧ eraseE y = eraseE e)
theorem apps_stop {l : List Tok} {i : Nat} {ws : List (Int × Bytes)} (h : KtAt l i ws) (hs : StopE ws) (y : Ex) : eread l (.apps y) i = .ok (y, i) := by
 rw [eread_step]
 simp only [estep]
 rw [if_neg (by rw [stopE_at h hs]; decide)]
theorem expr_fun {l : List Tok} {i n : Nat} {e y0 y : Ex} {j0 : Nat} {w : Bytes} {us ws : List (Int × Bytes)} (hw : FirstA w) (h : KtAt l i ((kindOf w, w) :: us)) (hn : KtAt l (i + n) ws) (hs : StopE ws)
  (h0 : eread l .atom i = .ok (y0, j0)) (h1 : eread l (.apps y0) j0 = eread l (.apps y) (i + n)) (h2 : eraseE y = eraseE e) : ∃ y, eread l .expr i = .ok (y, i + n) ∧ eraseE y = eraseE e := by
 have hnot := first_not hw
 refine ⟨y, ?_, h2⟩
 rw [eread_step]
 simp only [estep]
 rw [if_neg (by unfold markAt; rw [not_tokAt h hnot.1]; decide), if_neg (by unfold wordAt; rw [not_tokAt h (.inl hnot.2)]; decide), if_neg (by unfold wordAt; rw [not_tokAt h (.inl hnot.2)]; decide), h0]
 simp only
 rw [h1, apps_stop hn hs]
theorem ktsPE (ws : List Bytes) (us : List (Int × Bytes)) : kts (parens ws) ++ us = (5, [40]) :: (kts ws ++ (5, [41]) :: us) := ktsP ws us
theorem stopE_mark {m : Bytes} (ws : List (Int × Bytes)) (h : m ≠ [63] ∧ m ≠ [40] ∧ m ≠ [123]) : StopE ((5, m) :: ws) := fun k w r e => by
 cases e
 exact ⟨by decide, by decide, by decide, fun hh => by rcases hh.2 with e | e | e; exact h.1 e; exact h.2.1 e; exact h.2.2 e⟩
theorem stopE_word {m : Bytes} (ws : List (Int × Bytes)) : StopE ((4, m) :: ws) := fun k w r e => by
 cases e
 exact ⟨by decide, by decide, by decide, fun hh => absurd hh.1 (by decide)⟩
theorem eatom_paren {l : List Tok} {i : Nat} {e : Ex} {n : Nat} {us ws : List (Int × Bytes)} (hn : us.length = n) (h : KtAt l i ((5, [40]) :: (us ++ (5, [41]) :: ws)))
  (hw : KtAt l (i + 1) (us ++ (5, [41]) :: ws) → ∃ y, eread l .expr (i + 1) = .ok (y, i + 1 + n) ∧ eraseE y = eraseE e) : ∃ y, eread l .atom i = .ok (y, i + (n + 2)) ∧ eraseE y = eraseE e := by
 obtain ⟨x, h1, h2, h3, h4⟩ := ktAt_cons h
 obtain ⟨y, hy1, hy2⟩ := hw h4
 refine ⟨y, ?_, hy2⟩
 rw [eread_step]
 simp only [estep]
 rw [h1]
 simp only [h2, h3]
 have h5 := ktAt_app h4
 rw [hn] at h5
 rw [if_neg (by decide), if_neg (by decide), if_neg (by decide), if_neg (by decide), if_neg (by decide), if_pos (by simp), hy1]
 simp only
 rw [if_neg (by unfold markAt; rw [not_tokAt h5 (.inr (by decide))]; decide), if_pos (is_markAt h5)]
 congr 2; omega
theorem reads_fun {f : Ex} (h : ReadsE f) {l : List Tok} {i : Nat} {ws : List (Int × Bytes)} (hk : KtAt l i (kts (funW f) ++ ws)) : ∃ y0 j0 y, eread l .atom i = .ok (y0, j0) ∧ eread l (.apps y0) j0 = eread l (.apps y) (i + (funW f).length) ∧ eraseE y = eraseE f := by
 unfold funW at hk ⊢
 by_cases hf : funK f.kind = true
 ·rw [if_pos hf] at hk ⊢
  exact (h l i ws).2.2 hf hk
 ·rw [if_neg hf] at hk ⊢
  rw [ktsPE] at hk
  obtain ⟨y, h1, h2⟩ := eatom_paren (n := (toksE f).length) (kts_len _) hk (fun hk' => (h l (i + 1) _).1 (stopE_mark _ (by decide)) hk')
  refine ⟨y, _, y, h1, ?_, h2⟩
  simp [parens]
theorem reads_arg {f : Ex} (h : ReadsE f) {l : List Tok} {i : Nat} {ws : List (Int × Bytes)} (hk : KtAt l i (kts (argW f) ++ ws)) : ∃ y, eread l .atom i = .ok (y, i + (argW f).length) ∧ eraseE y = eraseE f := by
 unfold argW at hk ⊢
 by_cases hf : atomK f.kind = true
 ·rw [if_pos hf] at hk ⊢
  exact (h l i ws).2.1 hf hk
 ·rw [if_neg hf] at hk ⊢
  rw [ktsPE] at hk
  obtain ⟨y, h1, h2⟩ := eatom_paren (n := (toksE f).length) (kts_len _) hk (fun hk' => (h l (i + 1) _).1 (stopE_mark _ (by decide)) hk')
  exact ⟨y, by simpa [parens] using h1, h2⟩
theorem reads_atom {e : Ex} (hg : GoodE e) (hk : atomK e.kind = true) (h : ∀ l i ws, KtAt l i (kts (toksE e) ++ ws) → ∃ y, eread l .atom i = .ok (y, i + (toksE e).length) ∧ eraseE y = eraseE e) : ReadsE e := by
 intro l i ws
 have hC : KtAt l i (kts (toksE e) ++ ws) → ∃ y0 j0 y, eread l .atom i = .ok (y0, j0) ∧ eread l (.apps y0) j0 = eread l (.apps y) (i + (toksE e).length) ∧ eraseE y = eraseE e := by
  intro hh
  obtain ⟨y, h1, h2⟩ := h l i ws hh
  exact ⟨y, _, y, h1, rfl, h2⟩
 refine ⟨fun hs hh => ?_, fun _ hh => h l i ws hh, fun _ hh => hC hh⟩
 obtain ⟨y0, j0, y, h1, h2, h3⟩ := hC hh
 obtain ⟨w, r, e1, e2⟩ := first_E hg (by simp [funK, hk])
 have hn := ktAt_app hh
 rw [kts_len] at hn
 rw [e1] at hh
 exact expr_fun (us := kts r ++ ws) e2 hh hn hs h1 h2 h3
theorem reads_let {k p : Int} {n : Bytes} {a b : Ex} (h : kindOf n = 1) (ha : ReadsE a) (hb : ReadsE b) {l : List Tok} {i : Nat} {ws : List (Int × Bytes)} (hs : StopE ws) (hk : KtAt l i (kts (n :: [61] :: (toksE a ++ (inB :: toksE b))) ++ ws)) :
  ∃ y, letStep l (eread l) k p i = .ok (y, i + (n :: [61] :: (toksE a ++ (inB :: toksE b))).length) ∧ eraseE y = kidsE k 0 n [eraseE a, eraseE b] := by
 have e0 : kts (n :: [61] :: (toksE a ++ (inB :: toksE b))) ++ ws = (1, n) :: (5, [61]) :: (kts (toksE a) ++ ((4, inB) :: (kts (toksE b) ++ ws))) := by
  rw [kts_cons, kts_cons, kts_append, kts_cons, h, show kindOf [61] = 5 by decide, show kindOf inB = 4 by decide]; simp
 rw [e0] at hk
 have h1 := ktAt_next hk
 have h2 := ktAt_next h1
 obtain ⟨ya, ra, ea⟩ := (ha l (i + 1 + 1) _).1 (stopE_word _) h2
 have h3 := ktAt_app h2
 rw [kts_len] at h3
 have h4 := ktAt_next h3
 obtain ⟨yb, rb, eb⟩ := (hb l _ _).1 hs h4
 refine ⟨kidsE k p n [ya, yb], ?_, by rw [eraseE_k2, ea, eb]⟩
 unfold letStep
 rw [is_nameAt hk]
 simp only
 rw [if_pos (is_markAt h1), ra]
 simp only
 rw [if_pos (by unfold wordAt; exact is_tokAt h3), rb]
 simp only [List.length_cons, List.length_append]
 congr 2; omega
theorem reads_arms {l : List Tok} {p : Int} {e : Ex} {ws : List (Int × Bytes)} : ∀ (az : List Ar), az ≠ [] → (∀ a ∈ az, kindOf a.con = 2 ∧ ∀ v ∈ a.vars, kindOf v = 1) → (∀ a ∈ az, ReadsE a.body) → ∀ (acc : List Ar) (i : Nat), KtAt l i (kts (toksArms az) ++ (4, endB) :: ws) →
  ∃ ys, eread l (.arms p e acc) i = .ok (caseE p e (acc ++ ys), i + (toksArms az).length + 1) ∧ eraseAs ys = eraseAs az
 | [], hne, _, _, _, _, _ => absurd rfl hne
 | .mk q c vs b :: r, _, hc, hr, acc, i, h => by
  have hc0 := hc _ (List.mem_cons_self ..)
  have hr0 := hr _ (List.mem_cons_self ..)
  simp only [Ar.con, Ar.vars, Ar.body] at hc0 hr0
  simp only [toksArms, toksAr] at h ⊢
  have e0 : kts (c :: (vs ++ [46] :: toksE b) ++ toksMore r) ++ (4, endB) :: ws = (2, c) :: (kts vs ++ (5, [46]) :: (kts (toksE b) ++ (kts (toksMore r) ++ (4, endB) :: ws))) := by
   rw [kts_append, kts_cons, kts_append, kts_cons, hc0.1, show kindOf [46] = 5 by decide]; simp
  rw [e0] at h
  have h1 := ktAt_next h
  have hl := lowers_at vs (i + 1) _ hc0.2 h1
  have h2 := ktAt_app h1
  rw [kts_len] at h2
  have h3 := ktAt_next h2
  have hst : StopE (kts (toksMore r) ++ (4, endB) :: ws) := by
   cases r with
   | nil => simp only [toksMore]; exact stopE_word _
   | cons a r => simp only [toksMore]; exact stopE_mark _ (by decide)
  obtain ⟨y, r1, r2⟩ := (hr0 l _ _).1 hst h3
  have h4 := ktAt_app h3
  rw [kts_len] at h4
  rw [eread_step]
  simp only [estep]
  rw [is_nameAt h]
  simp only
  rw [hl, if_pos (is_markAt h2), r1]
  simp only
  cases r with
  | nil =>
   simp only [toksMore] at h4 ⊢
   rw [if_neg (by unfold markAt; rw [not_tokAt h4 (.inl (by decide))]; decide), if_pos (by unfold wordAt; exact is_tokAt h4)]
   refine ⟨[.mk (posOf l i) c vs y], ?_, by simp [eraseAs, eraseA, r2]⟩
   simp only [List.length_cons, List.length_append, List.append_nil]
   congr 2; omega
  | cons a r' =>
   have h5 : KtAt l (i + 1 + vs.length + 1 + (toksE b).length) ((5, [124]) :: (kts (toksArms (a :: r')) ++ (4, endB) :: ws)) := h4
   obtain ⟨ys, i1, i2⟩ := reads_arms (l := l) (p := p) (e := e) (ws := ws) (a :: r') (by simp) (fun x hx => hc x (List.mem_cons_of_mem _ hx)) (fun x hx => hr x (List.mem_cons_of_mem _ hx)) (acc ++ [.mk (posOf l i) c vs y]) _ (ktAt_next h5)
   rw [if_pos (is_markAt h5), i1]
   refine ⟨.mk (posOf l i) c vs y :: ys, ?_, ?_⟩
   ·have e3 : toksMore (a :: r') = [124] :: toksArms (a :: r') := by simp [toksMore, toksArms]
    rw [e3]
    simp only [List.append_assoc, List.singleton_append, List.length_append, List.length_cons]
    congr 2; omega
   ·rw [show eraseAs (.mk (posOf l i) c vs y :: ys) = .mk 0 c vs (eraseE y) :: eraseAs ys by simp [eraseAs, eraseA], i2, r2]
    simp [eraseAs, eraseA]
theorem reads_E {e : Ex} (h : GoodE e) : ReadsE e := by
 induction h with
 | var p n h =>
  refine reads_atom (.var p n h) rfl fun l i ws hk => ?_
  rw [toksE_var] at hk ⊢
  obtain ⟨x, h1, h2, h3, h4⟩ := ktAt_cons (k := kindOf n) (w := n) (ws := ws) hk
  refine ⟨leafE 1 x.pos n 0, ?_, by rw [eraseE_leaf, eraseE_leaf]⟩
  rw [eread_step]; simp only [estep]; rw [h1]; simp only [h2, h, h3, if_true]; rfl
 | con p n h =>
  refine reads_atom (.con p n h) rfl fun l i ws hk => ?_
  rw [toksE_con] at hk ⊢
  obtain ⟨x, h1, h2, h3, h4⟩ := ktAt_cons (k := kindOf n) (w := n) (ws := ws) hk
  refine ⟨leafE 2 x.pos n 0, ?_, by rw [eraseE_leaf, eraseE_leaf]⟩
  rw [eread_step]; simp only [estep]; rw [h1]; simp only [h2, h, h3]
  rw [if_neg (by decide), if_pos (by simp)]; rfl
 | int p m h =>
  refine reads_atom (.int p m h) rfl fun l i ws hk => ?_
  rw [toksE_int] at hk ⊢
  obtain ⟨x, h1, h2, h3, h4⟩ := ktAt_cons (k := kindOf _) (w := _) (ws := ws) hk
  refine ⟨leafE 3 x.pos [] m, ?_, by rw [eraseE_leaf, eraseE_leaf]⟩
  rw [eread_step]; simp only [estep]; rw [h1]; simp only [h2, kind_digit h, h3]
  rw [if_neg (by decide), if_neg (by decide), if_pos (by simp), num_digit h]; rfl
 | hole p =>
  refine reads_atom (.hole p) rfl fun l i ws hk => ?_
  rw [toksE_hole] at hk ⊢
  obtain ⟨x, h1, h2, h3, h4⟩ := ktAt_cons (k := 5) (w := [63]) (ws := ws) hk
  refine ⟨leafE 10 x.pos [] 0, ?_, by rw [eraseE_leaf, eraseE_leaf]⟩
  rw [eread_step]; simp only [estep]; rw [h1]; simp only [h2, h3]
  rw [if_neg (by decide), if_neg (by decide), if_neg (by decide), if_pos (by simp)]; rfl
 | lam p n b h hb ih =>
  intro l i ws
  refine ⟨fun hs hk => ?_, fun hh => absurd hh (by simp [kidsE, Ex.kind, atomK]), fun hh => absurd hh (by simp [kidsE, Ex.kind, funK, atomK])⟩
  rw [toksE_lam] at hk ⊢
  have e0 : kts ([92] :: n :: [46] :: toksE b) ++ ws = (5, [92]) :: (1, n) :: (5, [46]) :: (kts (toksE b) ++ ws) := by
   rw [kts_cons, kts_cons, kts_cons, h, show kindOf [92] = 5 by decide, show kindOf [46] = 5 by decide]; rfl
  rw [e0] at hk
  have h1 := ktAt_next hk
  have h2 := ktAt_next h1
  have h3 := ktAt_next h2
  obtain ⟨y, r1, r2⟩ := (ih l _ ws).1 hs h3
  refine ⟨kidsE 4 (posOf l i) n [y], ?_, by rw [eraseE_k1, eraseE_k1, r2]⟩
  rw [eread_step]; simp only [estep]
  rw [if_pos (is_markAt hk), is_nameAt h1]
  simp only
  rw [if_pos (is_markAt h2), r1]
  simp only [List.length_cons]
  congr 2; omega
 | app p f a hf ha ihf iha =>
  intro l i ws
  have hC : KtAt l i (kts (toksE (kidsE 5 p [] [f, a])) ++ ws) → ∃ y0 j0 y, eread l .atom i = .ok (y0, j0) ∧ eread l (.apps y0) j0 = eread l (.apps y) (i + (toksE (kidsE 5 p [] [f, a])).length) ∧ eraseE y = eraseE (kidsE 5 p [] [f, a]) := by
   intro hk
   rw [toksE_app] at hk ⊢
   rw [kts_append, List.append_assoc] at hk
   obtain ⟨y0, j0, y, r1, r2, r3⟩ := reads_fun ihf hk
   have h1 := ktAt_app hk
   rw [kts_len] at h1
   obtain ⟨ya, s1, s2⟩ := reads_arg iha h1
   obtain ⟨w, r, e1, e2⟩ := first_arg ha
   have hst : startsEAt l (i + (funW f).length) = true := by
    rw [e1] at h1
    exact first_starts (ws := kts r ++ ws) h1 e2
   refine ⟨y0, j0, kidsE 5 y.pos [] [y, ya], r1, ?_, by rw [eraseE_k2, eraseE_k2, r3, s2]⟩
   rw [r2, eread_step]
   simp only [estep]
   rw [if_pos hst, s1]
   simp only [List.length_append, Nat.add_assoc]
  refine ⟨fun hs hk => ?_, fun hh => absurd hh (by simp [kidsE, Ex.kind, atomK]), fun _ hk => hC hk⟩
  obtain ⟨y0, j0, y, h1, h2, h3⟩ := hC hk
  obtain ⟨w, r, e1, e2⟩ := first_E (.app p f a hf ha) (by simp [kidsE, Ex.kind, funK])
  have hn := ktAt_app hk
  rw [kts_len] at hn
  rw [e1] at hk
  exact expr_fun (us := kts r ++ ws) e2 hk hn hs h1 h2 h3
 | bind k p n a b hk' h ha hb iha ihb =>
  intro l i ws
  refine ⟨fun hs hk => ?_, fun hh => absurd hh (by rcases hk' with rfl | rfl <;> simp [kidsE, Ex.kind, atomK]), fun hh => absurd hh (by rcases hk' with rfl | rfl <;> simp [kidsE, Ex.kind, funK, atomK])⟩
  rcases hk' with rfl | rfl
  ·rw [toksE_let] at hk ⊢
   have hk2 : KtAt l i ((4, letB) :: (kts (n :: [61] :: (toksE a ++ (inB :: toksE b))) ++ ws)) := hk
   obtain ⟨y, r1, r2⟩ := reads_let (k := 6) (p := posOf l i) h iha ihb hs (ktAt_next hk2)
   refine ⟨y, ?_, by rw [r2, eraseE_k2]⟩
   rw [eread_step]; simp only [estep]
   have hn : KtAt l (i + 1) ((kindOf n, n) :: (kts ([61] :: (toksE a ++ (inB :: toksE b))) ++ ws)) := ktAt_next hk2
   rw [if_neg (by unfold markAt; rw [not_tokAt hk2 (.inl (by decide))]; decide), if_pos (by unfold wordAt; exact is_tokAt hk2), if_neg (by unfold wordAt; rw [not_tokAt hn (.inl (by omega))]; decide), r1]
   simp only [List.length_cons, List.length_append]
   congr 2; omega
  ·rw [toksE_rec] at hk ⊢
   have hk2 : KtAt l i ((4, letB) :: (4, recB) :: (kts (n :: [61] :: (toksE a ++ (inB :: toksE b))) ++ ws)) := hk
   have hk3 := ktAt_next hk2
   obtain ⟨y, r1, r2⟩ := reads_let (k := 7) (p := posOf l i) h iha ihb hs (ktAt_next hk3)
   refine ⟨y, ?_, by rw [r2, eraseE_k2]⟩
   rw [eread_step]; simp only [estep]
   rw [if_neg (by unfold markAt; rw [not_tokAt hk2 (.inl (by decide))]; decide), if_pos (by unfold wordAt; exact is_tokAt hk2), if_pos (by unfold wordAt; exact is_tokAt hk3), r1]
   simp only [List.length_cons, List.length_append]
   congr 2; omega
 | ann p e t he ht ih =>
  refine reads_atom (.ann p e t he ht) rfl fun l i ws hk => ?_
  rw [toksE_ann] at hk ⊢
  have e0 : kts ([40] :: (toksE e ++ [58] :: (toksT t ++ [[41]]))) ++ ws = (5, [40]) :: (kts (toksE e) ++ (5, [58]) :: (kts (toksT t) ++ (5, [41]) :: ws)) := by
   rw [kts_cons, kts_append, kts_cons, kts_append, show kindOf [40] = 5 by decide, show kindOf [58] = 5 by decide, show kts [[41]] = [(5, [41])] by decide]; simp
  rw [e0] at hk
  obtain ⟨x, h1, h2, h3, h4⟩ := ktAt_cons hk
  obtain ⟨y, r1, r2⟩ := (ih l _ _).1 (stopE_mark _ (by decide)) h4
  have h5 := ktAt_app h4
  rw [kts_len] at h5
  have h6 := ktAt_next h5
  have h7 := (reads_T ht l _ _).1 (stopT_close ws) h6
  have h8 := ktAt_app h6
  rw [kts_len] at h8
  refine ⟨annE x.pos y t, ?_, by rw [eraseE_ann, eraseE_ann, r2]⟩
  rw [eread_step]; simp only [estep]; rw [h1]; simp only [h2, h3]
  rw [if_neg (by decide), if_neg (by decide), if_neg (by decide), if_neg (by decide), if_neg (by decide), if_pos (by simp), r1]
  simp only
  rw [if_pos (is_markAt h5), h7]
  simp only
  rw [if_pos (is_markAt h8)]
  simp only [List.length_cons, List.length_append, List.length_nil]
  congr 2; omega
 | held p e he ih =>
  refine reads_atom (.held p e he) rfl fun l i ws hk => ?_
  rw [toksE_held] at hk ⊢
  have e0 : kts ([123] :: (toksE e ++ [[125]])) ++ ws = (5, [123]) :: (kts (toksE e) ++ (5, [125]) :: ws) := by
   rw [kts_cons, kts_append, show kindOf [123] = 5 by decide, show kts [[125]] = [(5, [125])] by decide]; simp
  rw [e0] at hk
  obtain ⟨x, h1, h2, h3, h4⟩ := ktAt_cons hk
  obtain ⟨y, r1, r2⟩ := (ih l _ _).1 (stopE_mark _ (by decide)) h4
  have h5 := ktAt_app h4
  rw [kts_len] at h5
  refine ⟨kidsE 11 x.pos [] [y], ?_, by rw [eraseE_k1, eraseE_k1, r2]⟩
  rw [eread_step]; simp only [estep]; rw [h1]; simp only [h2, h3]
  rw [if_neg (by decide), if_neg (by decide), if_neg (by decide), if_neg (by decide), if_pos (by simp), r1]
  simp only
  rw [if_pos (is_markAt h5)]
  simp only [List.length_cons, List.length_append, List.length_nil]
  congr 2; omega
 | case p e az he hne hc ha ihe ihs =>
  intro l i ws
  refine ⟨fun hs hk => ?_, fun hh => absurd hh (by simp [caseE, Ex.kind, atomK]), fun hh => absurd hh (by simp [caseE, Ex.kind, funK, atomK])⟩
  rw [toksE_case] at hk ⊢
  have e0 : kts (caseB :: (toksE e ++ ofB :: (toksArms az ++ [endB]))) ++ ws = (4, caseB) :: (kts (toksE e) ++ (4, ofB) :: (kts (toksArms az) ++ (4, endB) :: ws)) := by
   rw [kts_cons, kts_append, kts_cons, kts_append, show kindOf caseB = 4 by decide, show kindOf ofB = 4 by decide, show kts [endB] = [(4, endB)] by decide]; simp
  rw [e0] at hk
  have h1 := ktAt_next hk
  obtain ⟨y, r1, r2⟩ := (ihe l _ _).1 (stopE_word _) h1
  have h2 := ktAt_app h1
  rw [kts_len] at h2
  have h3 := ktAt_next h2
  obtain ⟨ys, s1, s2⟩ := reads_arms (p := posOf l i) (e := y) az hne hc ihs [] _ h3
  refine ⟨caseE (posOf l i) y ys, ?_, by rw [eraseE_case, eraseE_case, r2, s2]⟩
  rw [eread_step]; simp only [estep]
  rw [if_neg (by unfold markAt; rw [not_tokAt hk (.inl (by decide))]; decide), if_neg (by unfold wordAt; rw [not_tokAt hk (.inr (by decide))]; decide), if_pos (by unfold wordAt; exact is_tokAt hk), r1]
  simp only
  rw [if_pos (by unfold wordAt; exact is_tokAt h2), s1]
  simp only [List.nil_append, List.length_cons, List.length_append, List.length_nil]
  congr 2; omega
end Go.Th
-- sum 4c88bb25711c7818


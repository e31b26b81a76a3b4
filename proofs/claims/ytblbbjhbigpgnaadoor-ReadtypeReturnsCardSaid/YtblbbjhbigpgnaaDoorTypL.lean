/- Types in plain words: the canonical text of a type, its tokens, and that they are read back. No program in sight. -/
import Derived.Test.YtblbbjhbigpgnaaDoorTypA
namespace Go.Th
inductive GoodT : Ty → Prop where
  | name (n : Bytes) (h : kindOf n = 1) : GoodT (nameT n)
  | con (n : Bytes) (as : List Ty) (h : kindOf n = 2) (ha : ∀ a ∈ as, GoodT a) : GoodT (conT n as)
  | arrow (a b : Ty) (ha : GoodT a) (hb : GoodT b) : GoodT (arrowT a b)
def isArrowT (t : Ty) : Bool := decide (t.kind = 4) && decide (t.name = arrowB) && decide (t.args.length = 2)
def parenT (t : Ty) : Bool := decide (t.kind = 4) && decide (0 < t.args.length)
mutual
def showT : Ty → Bytes
  | .mk k n _ _ as => if k = 5 then n else if n = arrowB then showArrow as else n ++ showArgs as
def showArgs : List Ty → Bytes
  | [] => []
  | a :: r => 32 :: ((if parenT a then 40 :: (showT a ++ [41]) else showT a) ++ showArgs r)
def showArrow : List Ty → Bytes
  | [] => []
  | a :: r => (if isArrowT a then 40 :: (showT a ++ [41]) else showT a) ++ showTo r
def showTo : List Ty → Bytes
  | [] => []
  | b :: _ => [32, 45, 62, 32] ++ showT b
end
mutual
def toksT : Ty → List Bytes
  | .mk k n _ _ as => if k = 5 then [n] else if n = arrowB then toksArrow as else n :: toksArgs as
def toksArgs : List Ty → List Bytes
  | [] => []
  | a :: r => (if parenT a then [40] :: (toksT a ++ [[41]]) else toksT a) ++ toksArgs r
def toksArrow : List Ty → List Bytes
  | [] => []
  | a :: r => (if isArrowT a then [40] :: (toksT a ++ [[41]]) else toksT a) ++ toksTo r
def toksTo : List Ty → List Bytes
  | [] => []
  | b :: _ => arrowB :: toksT b
end
def showArg (t : Ty) : Bytes := if parenT t then 40 :: (showT t ++ [41]) else showT t
def toksArg (t : Ty) : List Bytes := if parenT t then [40] :: (toksT t ++ [[41]]) else toksT t
def showFrom (t : Ty) : Bytes := if isArrowT t then 40 :: (showT t ++ [41]) else showT t
def toksFrom (t : Ty) : List Bytes := if isArrowT t then [40] :: (toksT t ++ [[41]]) else toksT t
theorem showT_name (n : Bytes) : showT (nameT n) = n := by simp [nameT, showT]
theorem toksT_name (n : Bytes) : toksT (nameT n) = [n] := by simp [nameT, toksT]
theorem ne_arrow {n : Bytes} (h : kindOf n = 2) : n ≠ arrowB := by
  intro e; subst e
  have : kindOf arrowB = 5 := by decide
  omega
theorem showT_con {n : Bytes} (as : List Ty) (h : n ≠ arrowB) : showT (conT n as) = n ++ showArgs as := by simp [conT, showT, h]
theorem toksT_con {n : Bytes} (as : List Ty) (h : n ≠ arrowB) : toksT (conT n as) = n :: toksArgs as := by simp [conT, toksT, h]
theorem showT_arrow (a b : Ty) : showT (arrowT a b) = showFrom a ++ ([32, 45, 62, 32] ++ showT b) := by simp [arrowT, conT, showT, showArrow, showTo, showFrom]
theorem toksT_arrow (a b : Ty) : toksT (arrowT a b) = toksFrom a ++ (arrowB :: toksT b) := by simp [arrowT, conT, toksT, toksArrow, toksTo, toksFrom]
theorem showArgs_cons (a : Ty) (r : List Ty) : showArgs (a :: r) = 32 :: (showArg a ++ showArgs r) := by simp [showArgs, showArg]
theorem toksArgs_cons (a : Ty) (r : List Ty) : toksArgs (a :: r) = toksArg a ++ toksArgs r := by simp [toksArgs, toksArg]
theorem kts_append (a b : List Bytes) : kts (a ++ b) = kts a ++ kts b := by simp [kts]
theorem kts_cons (a : Bytes) (b : List Bytes) : kts (a :: b) = (kindOf a, a) :: kts b := rfl
/-- A text whose tokens are these, whatever follows apart. -/
def Scans (s : Bytes) (ws : List Bytes) : Prop := ∀ i r us, apart r → (∀ j, okKt (scanFrom j r) us) → okKt (scanFrom i (s ++ r)) (kts ws ++ us)
theorem Scans.word {w : Bytes} (h : kindOf w ≠ 0) : Scans w [w] := fun _ _ _ hr hu => okKt_word h hr (hu _)
theorem Scans.space {s : Bytes} {ws : List Bytes} (h : Scans s ws) : Scans (32 :: s) ws := fun i r us hr hu => by
  rw [List.cons_append]
  exact okKt_pass (u := [32]) (passes_white (by decide) passes_nil) (fun j => h j r us hr hu)
theorem Scans.nil : Scans [] [] := fun i _ _ _ hu => hu i
/-- A text followed by one that begins apart. -/
theorem Scans.append {s s' : Bytes} {ws ws' : List Bytes} (h : Scans s ws) (h' : Scans s' ws') (hs : ∀ r, apart r → apart (s' ++ r)) : Scans (s ++ s') (ws ++ ws') := fun i r us hr hu => by
  rw [List.append_assoc, kts_append, List.append_assoc]
  exact h i (s' ++ r) (kts ws' ++ us) (hs r hr) (fun j => h' j r us hr hu)
/-- A mark needs no room. -/
theorem Scans.mark {m s : Bytes} {ws : List Bytes} (hm : isMark m = true) (hk : kindOf m ≠ 0) (h : Scans s ws) : Scans (m ++ s) (m :: ws) := fun i r us hr hu => by
  rw [List.append_assoc, kts_cons, List.cons_append]
  have h0 := h (i + m.length) r us hr hu
  -- a mark is read whatever follows
  obtain ⟨l, h1, h2⟩ := h0
  have key : scanFrom i (m ++ (s ++ r)) = match scanFrom (i + m.length) (s ++ r) with
      | .error e => .error e
      | .ok l => .ok (⟨kindOf m, m, i⟩ :: l) := by
    rcases mark_cases hm with rfl | ⟨c, hc, rfl⟩
    · have := scanFrom_tok (c := 45) (r := 62 :: (s ++ r)) i (by decide) (by decide)
      have e1 : tokLen (45 :: 62 :: (s ++ r)) = 2 := by simp [tokLen_cons, show inner 45 = false by decide]
      rw [e1] at this
      simp only [List.take_succ_cons, List.take_zero, List.drop_succ_cons, List.drop_zero] at this
      exact this hk
    · have hh : ∀ c ∈ markBytes, white c = false ∧ c.toNat ≠ 35 ∧ inner c = false ∧ c.toNat ≠ 45 := by decide
      obtain ⟨h1, h2, h3, h4⟩ := hh c hc
      have := scanFrom_tok (c := c) (r := s ++ r) i h1 h2
      have e1 : tokLen (c :: (s ++ r)) = 1 := by rw [tokLen_cons, if_neg (by simp [h3]), if_neg h4]
      rw [e1] at this
      simp only [List.take_succ_cons, List.take_zero, List.drop_succ_cons, List.drop_zero] at this
      exact this hk
  rw [key, h1]
  exact ⟨_, rfl, by rw [← h2]; rfl⟩
theorem apart_app {c : UInt8} {s : Bytes} (h : inner c = false) : ∀ r, apart r → apart ((c :: s) ++ r) := fun _ _ => apart_cons h
theorem apart_id : ∀ r, apart r → apart ([] ++ r) := fun _ h => h
theorem Scans.paren {s : Bytes} {ws : List Bytes} (h : Scans s ws) : Scans (40 :: (s ++ [41])) ([40] :: (ws ++ [[41]])) :=
  Scans.mark (m := [40]) (by decide) (by decide) (h.append (Scans.word (w := [41]) (by decide)) (apart_app (by decide)))
theorem scans_T {t : Ty} (h : GoodT t) : Scans (showT t) (toksT t) := by
  induction h with
  | name n h => rw [showT_name, toksT_name]; exact Scans.word (by omega)
  | con n as h ha ih =>
    rw [showT_con as (ne_arrow h), toksT_con as (ne_arrow h)]
    have key : ∀ as : List Ty, (∀ a ∈ as, Scans (showT a) (toksT a)) → Scans (showArgs as) (toksArgs as) ∧ ∀ r, apart r → apart (showArgs as ++ r) := by
      intro as
      induction as with
      | nil => intro _; exact ⟨by simp only [showArgs, toksArgs]; exact Scans.nil, by simp only [showArgs]; exact apart_id⟩
      | cons a r ihr =>
        intro hh
        have i1 := ihr (fun x hx => hh x (List.mem_cons_of_mem _ hx))
        have i2 := hh a (List.mem_cons_self ..)
        rw [showArgs_cons, toksArgs_cons]
        refine ⟨Scans.space (Scans.append ?_ i1.1 i1.2), apart_app (by decide)⟩
        unfold showArg toksArg
        split
        · exact i2.paren
        · exact i2
    have := key as ih
    exact Scans.append (ws := [n]) (Scans.word (by omega)) this.1 this.2
  | arrow a b ha hb iha ihb =>
    rw [showT_arrow, toksT_arrow]
    show Scans (showFrom a ++ (32 :: (arrowB ++ (32 :: showT b)))) _
    refine Scans.append ?_ (Scans.space ?_) (apart_app (by decide))
    · unfold showFrom toksFrom
      split
      · exact iha.paren
      · exact iha
    · exact Scans.append (ws := [arrowB]) (Scans.word (w := arrowB) (by decide)) (Scans.space ihb) (apart_app (by decide))
/-- The tokens from an index on. -/
def KtAt (l : List Tok) (i : Nat) (ws : List (Int × Bytes)) : Prop := (kt l).drop i = ws
theorem ktAt_cons {l : List Tok} {i : Nat} {k : Int} {w : Bytes} {ws : List (Int × Bytes)} (h : KtAt l i ((k, w) :: ws)) : ∃ t, l[i]? = some t ∧ t.kind = k ∧ t.text = w ∧ KtAt l (i + 1) ws := by
  have h0 : (kt l)[i]? = some (k, w) := by
    have : ((kt l).drop i)[0]? = some (k, w) := by rw [h]; rfl
    rwa [List.getElem?_drop, Nat.add_zero] at this
  have h1 : KtAt l (i + 1) ws := by
    have : ((kt l).drop i).drop 1 = ws := by rw [h]; rfl
    rwa [List.drop_drop] at this
  unfold kt at h0
  rw [List.getElem?_map, Option.map_eq_some_iff] at h0
  obtain ⟨t, h2, h3⟩ := h0
  simp only [Prod.mk.injEq] at h3
  exact ⟨t, h2, h3.1, h3.2, h1⟩
theorem ktAt_app {l : List Tok} {i : Nat} {us ws : List (Int × Bytes)} (h : KtAt l i (us ++ ws)) : KtAt l (i + us.length) ws := by
  unfold KtAt at *
  rw [← List.drop_drop, h, List.drop_left]
theorem kts_len (ws : List Bytes) : (kts ws).length = ws.length := by simp [kts]
/-- No atom begins here. -/
def StopS (ws : List (Int × Bytes)) : Prop := ∀ k w r, ws = (k, w) :: r → k ≠ 1 ∧ k ≠ 2 ∧ ¬ (k = 5 ∧ w = [40])
/-- Nor does an arrow. -/
def StopT (ws : List (Int × Bytes)) : Prop := StopS ws ∧ ∀ k w r, ws = (k, w) :: r → ¬ (k = 5 ∧ w = arrowB)
theorem stopS_at {l : List Tok} {i : Nat} {ws : List (Int × Bytes)} (h : KtAt l i ws) (hs : StopS ws) : startsAt l i = false := by
  unfold startsAt
  cases hl : l[i]? with
  | none => rfl
  | some t =>
    cases ws with
    | nil =>
      have hi := (List.getElem?_eq_some_iff.1 hl).1
      have : (kt l).length ≤ i := List.drop_eq_nil_iff.1 h
      simp [kt] at this
      omega
    | cons x r =>
      obtain ⟨k, w⟩ := x
      obtain ⟨t', h1, h2, h3, _⟩ := ktAt_cons h
      rw [hl] at h1; cases h1
      obtain ⟨a, b, c⟩ := hs k w r rfl
      simp only [startsT, h2, h3]
      simp only [Bool.or_eq_false_iff, Bool.and_eq_false_iff, decide_eq_false_iff_not]
      refine ⟨⟨a, b⟩, ?_⟩
      by_cases h5 : k = 5
      · exact .inr fun e => c ⟨h5, e⟩
      · exact .inl h5
theorem not_markAt {l : List Tok} {i : Nat} {ws : List (Int × Bytes)} {m : Bytes} (h : KtAt l i ws) (hs : ∀ k w r, ws = (k, w) :: r → ¬ (k = 5 ∧ w = m)) : markAt l i m = false := by
  unfold markAt tokAt
  cases hl : l[i]? with
  | none => rfl
  | some t =>
    cases ws with
    | nil =>
      have hi := (List.getElem?_eq_some_iff.1 hl).1
      have : (kt l).length ≤ i := List.drop_eq_nil_iff.1 h
      simp [kt] at this
      omega
    | cons x r =>
      obtain ⟨k, w⟩ := x
      obtain ⟨t', h1, h2, h3, _⟩ := ktAt_cons h
      rw [hl] at h1; cases h1
      have := hs k w r rfl
      simp only [h2, h3, Bool.and_eq_false_iff, decide_eq_false_iff_not]
      by_cases h5 : k = 5
      · exact .inr fun e => this ⟨h5, e⟩
      · exact .inl h5
theorem is_markAt {l : List Tok} {i : Nat} {ws : List (Int × Bytes)} {m : Bytes} (h : KtAt l i ((5, m) :: ws)) : markAt l i m = true := by
  obtain ⟨t, h1, h2, h3, _⟩ := ktAt_cons h
  unfold markAt tokAt
  rw [h1]
  simp [h2, h3]
theorem stopT_close (ws : List (Int × Bytes)) : StopT ((5, [41]) :: ws) :=
  ⟨fun k w r e => by cases e; decide, fun k w r e => by cases e; decide⟩
theorem stopS_arrow (ws : List (Int × Bytes)) : StopS ((5, arrowB) :: ws) := fun k w r e => by cases e; decide
/-- What stands in brackets is an atom. -/
theorem atom_paren {l : List Tok} {i : Nat} {t : Ty} {n : Nat} {us ws : List (Int × Bytes)} (hn : us.length = n) (h : KtAt l i ((5, [40]) :: (us ++ (5, [41]) :: ws))) (hw : KtAt l (i + 1) (us ++ (5, [41]) :: ws) → tread l .whole (i + 1) = .ok (t, i + 1 + n)) :
    tread l .atom i = .ok (t, i + (n + 2)) := by
  obtain ⟨x, h1, h2, h3, h4⟩ := ktAt_cons h
  rw [tread_atom, h1]
  simp only [h2, h3]
  rw [if_neg (by decide), if_neg (by decide), if_pos (by simp), hw h4]
  simp only
  have h5 := ktAt_app h4
  rw [hn] at h5
  rw [if_pos (is_markAt h5)]
  congr 2; omega
theorem ktsP (ws : List Bytes) (us : List (Int × Bytes)) : kts ([40] :: (ws ++ [[41]])) ++ us = (5, [40]) :: (kts ws ++ (5, [41]) :: us) := by
  rw [kts_cons, kts_append]
  have e1 : kindOf [40] = 5 := by decide
  have e2 : kts [[41]] = [(5, [41])] := by decide
  rw [e1, e2]
  simp
def ReadsT (t : Ty) : Prop := ∀ l i ws,
  (StopT ws → KtAt l i (kts (toksT t) ++ ws) → tread l .whole i = .ok (t, i + (toksT t).length)) ∧
  (isArrowT t = false → StopS ws → KtAt l i (kts (toksT t) ++ ws) → tread l .applied i = .ok (t, i + (toksT t).length)) ∧
  (KtAt l i (kts (toksArg t) ++ ws) → tread l .atom i = .ok (t, i + (toksArg t).length))
theorem whole_applied {l : List Tok} {i j : Nat} {t : Ty} {ws : List (Int × Bytes)} (h : tread l .applied i = .ok (t, j)) (hj : KtAt l j ws) (hs : StopT ws) : tread l .whole i = .ok (t, j) := by
  rw [tread_whole, h]
  simp only
  rw [if_neg (by rw [not_markAt hj hs.2]; decide)]
theorem toksT_first {t : Ty} (h : GoodT t) : ∃ w r, toksArg t = w :: r ∧ (kindOf w = 1 ∨ kindOf w = 2 ∨ w = [40]) := by
  unfold toksArg
  by_cases hp : parenT t = true
  · rw [if_pos hp]; exact ⟨_, _, rfl, .inr (.inr rfl)⟩
  · rw [if_neg hp]
    cases h with
    | name n h => rw [toksT_name]; exact ⟨_, _, rfl, .inl h⟩
    | con n as h ha => rw [toksT_con as (ne_arrow h)]; exact ⟨_, _, rfl, .inr (.inl h)⟩
    | arrow a b ha hb => exact absurd (by simp [parenT, arrowT, conT, Ty.kind, Ty.args]) hp
theorem startsAt_first {l : List Tok} {i : Nat} {w : Bytes} {ws : List (Int × Bytes)} (h : KtAt l i ((kindOf w, w) :: ws)) (hw : kindOf w = 1 ∨ kindOf w = 2 ∨ w = [40]) : startsAt l i = true := by
  obtain ⟨x, h1, h2, h3, _⟩ := ktAt_cons h
  unfold startsAt
  rw [h1]
  simp only [startsT, h2, h3]
  rcases hw with h | h | rfl
  · simp [h]
  · simp [h]
  · decide
theorem reads_args (l : List Tok) (n : Bytes) (ws : List (Int × Bytes)) (hs : StopS ws) : ∀ (as : List Ty), (∀ a ∈ as, GoodT a) → (∀ a ∈ as, ReadsT a) → ∀ acc i, KtAt l i (kts (toksArgs as) ++ ws) → tread l (.args n acc) i = .ok (conT n (acc ++ as), i + (toksArgs as).length)
  | [], _, _, acc, i, h => by
    simp only [toksArgs] at h ⊢
    rw [tread_args, if_neg (by rw [stopS_at h hs]; decide)]
    simp
  | a :: r, hg, hr, acc, i, h => by
    rw [toksArgs_cons] at h ⊢
    have h0 : KtAt l i (kts (toksArg a) ++ (kts (toksArgs r) ++ ws)) := by rw [← List.append_assoc, ← kts_append]; exact h
    obtain ⟨w, rr, e1, e2⟩ := toksT_first (hg a (List.mem_cons_self ..))
    have hst : startsAt l i = true := by
      refine startsAt_first (w := w) (ws := kts rr ++ (kts (toksArgs r) ++ ws)) ?_ e2
      rw [e1] at h0; exact h0
    have ha := (hr a (List.mem_cons_self ..) l i (kts (toksArgs r) ++ ws)).2.2 h0
    have h1 := ktAt_app h0
    rw [kts_len] at h1
    rw [tread_args, if_pos hst, ha]
    simp only
    rw [if_pos (by rw [e1]; simp), reads_args l n ws hs r (fun x hx => hg x (List.mem_cons_of_mem _ hx)) (fun x hx => hr x (List.mem_cons_of_mem _ hx)) (acc ++ [a]) _ h1]
    simp only [List.append_assoc, List.singleton_append, List.length_append, Nat.add_assoc]
theorem reads_T {t : Ty} (h : GoodT t) : ReadsT t := by
  induction h with
  | name n h =>
    intro l i ws
    have hap : KtAt l i (kts (toksT (nameT n)) ++ ws) → tread l .atom i = .ok (nameT n, i + 1) ∧ tread l .applied i = .ok (nameT n, i + 1) ∧ KtAt l (i + 1) ws := by
      intro hk
      rw [toksT_name] at hk
      obtain ⟨x, h1, h2, h3, h4⟩ := ktAt_cons (k := kindOf n) (w := n) (ws := ws) hk
      have ha : tread l .atom i = .ok (nameT n, i + 1) := by rw [tread_atom, h1]; simp only [h2, h, h3, if_true]
      refine ⟨ha, ?_, h4⟩
      rw [tread_applied, h1]
      simp only [h2, h]
      rw [if_neg (by decide)]
      exact ha
    rw [toksT_name] at hap ⊢
    refine ⟨fun hs hk => whole_applied (hap hk).2.1 (hap hk).2.2 hs, fun _ _ hk => (hap hk).2.1, fun hk => ?_⟩
    have e : toksArg (nameT n) = [n] := by unfold toksArg; rw [if_neg (by simp [parenT, nameT, Ty.kind]), toksT_name]
    rw [e] at hk ⊢
    exact (hap hk).1
  | con n as h ha ih =>
    intro l i ws
    have e := toksT_con as (ne_arrow h)
    have hap : ∀ us, StopS us → KtAt l i (kts (toksT (conT n as)) ++ us) → tread l .applied i = .ok (conT n as, i + (toksT (conT n as)).length) := by
      intro us hs hk
      rw [e] at hk ⊢
      obtain ⟨x, h1, h2, h3, h4⟩ := ktAt_cons (k := kindOf n) (w := n) (ws := kts (toksArgs as) ++ us) hk
      rw [tread_applied, h1]
      simp only [h2, h, if_true, h3]
      rw [reads_args l n us hs as ha ih [] _ h4]
      simp only [List.nil_append, List.length_cons]
      congr 2; omega
    have hwh : ∀ j us, StopT us → KtAt l j (kts (toksT (conT n as)) ++ us) → (tread l .applied j = .ok (conT n as, j + (toksT (conT n as)).length)) → tread l .whole j = .ok (conT n as, j + (toksT (conT n as)).length) := by
      intro j us hs hk hh
      have := ktAt_app hk
      rw [kts_len] at this
      exact whole_applied hh this hs
    have hapj : ∀ j us, StopS us → KtAt l j (kts (toksT (conT n as)) ++ us) → tread l .applied j = .ok (conT n as, j + (toksT (conT n as)).length) := by
      intro j us hs hk
      rw [e] at hk ⊢
      obtain ⟨x, h1, h2, h3, h4⟩ := ktAt_cons (k := kindOf n) (w := n) (ws := kts (toksArgs as) ++ us) hk
      rw [tread_applied, h1]
      simp only [h2, h, if_true, h3]
      rw [reads_args l n us hs as ha ih [] _ h4]
      simp only [List.nil_append, List.length_cons]
      congr 2; omega
    refine ⟨fun hs hk => hwh i ws hs hk (hap ws hs.1 hk), fun _ hs hk => hap ws hs hk, fun hk => ?_⟩
    cases as with
    | nil =>
      have e2 : toksArg (conT n []) = [n] := by unfold toksArg; rw [if_neg (by simp [parenT, conT, Ty.args]), e]; simp [toksArgs]
      rw [e2] at hk ⊢
      obtain ⟨x, h1, h2, h3, h4⟩ := ktAt_cons (k := kindOf n) (w := n) (ws := ws) hk
      rw [tread_atom, h1]
      simp only [h2, h, h3]
      rw [if_neg (by decide)]
      rfl
    | cons b bs =>
      have e2 : toksArg (conT n (b :: bs)) = [40] :: (toksT (conT n (b :: bs)) ++ [[41]]) := by unfold toksArg; rw [if_pos (by simp [parenT, conT, Ty.args, Ty.kind])]
      rw [e2] at hk ⊢
      rw [ktsP] at hk
      have := atom_paren (n := (toksT (conT n (b :: bs))).length) (kts_len _) hk (fun hk' => hwh (i + 1) _ (stopT_close _) hk' (hapj (i + 1) _ (stopT_close _).1 hk'))
      rw [this]
      simp
  | arrow a b ha hb iha ihb =>
    intro l i ws
    have e := toksT_arrow a b
    have hwh : ∀ j us, StopT us → KtAt l j (kts (toksT (arrowT a b)) ++ us) → tread l .whole j = .ok (arrowT a b, j + (toksT (arrowT a b)).length) := by
      intro j us hs hk
      rw [e, kts_append, List.append_assoc] at hk
      have h1 : tread l .applied j = .ok (a, j + (toksFrom a).length) := by
        unfold toksFrom at hk ⊢
        by_cases hi : isArrowT a = true
        · rw [if_pos hi] at hk ⊢
          rw [ktsP] at hk
          have h2 := atom_paren (n := (toksT a).length) (kts_len _) hk (fun hk' => (iha l (j + 1) _).1 (stopT_close _) hk')
          obtain ⟨x, g1, g2, g3, g4⟩ := ktAt_cons hk
          rw [tread_applied, g1]
          simp only [g2]
          rw [if_neg (by decide), h2]
          simp
        · rw [if_neg hi] at hk ⊢
          exact (iha l j _).2.1 (by simpa using hi) (stopS_arrow _) hk
      have h3 := ktAt_app hk
      rw [kts_len] at h3
      obtain ⟨x, g1, g2, g3, g4⟩ := ktAt_cons (k := 5) (w := arrowB) (ws := kts (toksT b) ++ us) h3
      have h5 := (ihb l (j + (toksFrom a).length + 1) us).1 hs g4
      rw [tread_whole, h1]
      simp only
      rw [if_pos (is_markAt (ws := kts (toksT b) ++ us) h3), if_pos (by omega), h5]
      simp only [e, List.length_append, List.length_cons]
      congr 2; omega
    refine ⟨hwh i ws, fun hn => absurd hn (by simp [isArrowT, arrowT, conT, Ty.kind, Ty.name, Ty.args]), fun hk => ?_⟩
    have e2 : toksArg (arrowT a b) = [40] :: (toksT (arrowT a b) ++ [[41]]) := by unfold toksArg; rw [if_pos (by simp [parenT, arrowT, conT, Ty.args, Ty.kind])]
    rw [e2] at hk ⊢
    rw [ktsP] at hk
    have := atom_paren (n := (toksT (arrowT a b)).length) (kts_len _) hk (fun hk' => hwh (i + 1) _ (stopT_close _) hk')
    rw [this]
    simp
end Go.Th
-- sum 8d5a6de396fe82bc

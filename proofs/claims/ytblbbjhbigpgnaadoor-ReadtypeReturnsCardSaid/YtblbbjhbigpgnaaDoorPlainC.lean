/- Plain law, third part: tokens that stand apart are read as they are. -/
import Derived.Test.YtblbbjhbigpgnaaDoorPlainB
namespace Go.Th
/-- What does not go on with a word. -/
def apart (r : Bytes) : Prop := ∀ c l, r = c :: l → inner c = false
theorem apart_nil : apart [] := fun _ _ h => by cases h
theorem apart_cons {c : UInt8} {l : Bytes} (h : inner c = false) : apart (c :: l) := fun _ _ e => by cases e; exact h
theorem wordLen_apart : ∀ (w r : Bytes), w.all inner = true → apart r → wordLen (w ++ r) = w.length
  | [], r, _, hr => by
    cases r with
    | nil => rfl
    | cons c l => simp [wordLen, hr c l rfl]
  | c :: w, r, hw, hr => by
    simp only [List.all_cons, Bool.and_eq_true] at hw
    simp [wordLen, hw.1, wordLen_apart w r hw.2 hr]
theorem kind_shape {w : Bytes} (h : kindOf w ≠ 0) : (w.all inner = true ∧ w ≠ []) ∨ isMark w = true := by
  by_cases hm : isMark w = true
  · exact .inr hm
  · left
    simp only [kindOf, hm] at h
    by_cases hk : isKeyword w = true
    · have : ∀ x ∈ keywords, x.all inner = true ∧ x ≠ [] := by decide
      exact this w (by simpa [isKeyword] using hk)
    · simp only [hk] at h
      have hword : isWord w = true → w.all inner = true ∧ w ≠ [] := fun hw => by simp [isWord] at hw; exact ⟨by simpa using hw.1, hw.2⟩
      by_cases hl : isLower w = true
      · simp only [isLower, Bool.and_eq_true] at hl; exact hword hl.1.1.1
      · by_cases hu : isUpper w = true
        · simp only [isUpper, Bool.and_eq_true] at hu; exact hword hu.1.1
        · by_cases hi : isInteger w = true
          · simp only [isInteger, Bool.and_eq_true] at hi
            refine ⟨?_, by have := hi.1.1.1; simpa using this⟩
            rw [List.all_eq_true]
            intro x hx
            have := List.all_eq_true.1 hi.2 x hx
            simp [inner, this]
          · simp [hl, hu, hi] at h
theorem mark_cases {w : Bytes} (h : isMark w = true) : w = [45, 62] ∨ ∃ c ∈ markBytes, w = [c] := by
  simpa [isMark] using h
theorem inner_not_white {c : UInt8} (h : inner c = true) : white c = false ∧ c.toNat ≠ 35 := by
  simp only [inner, lower, upper, digit, Bool.or_eq_true, Bool.and_eq_true, decide_eq_true_eq] at h
  refine ⟨?_, by omega⟩
  simp [white]; omega
/-- A token that stands apart is read. -/
theorem scan_word {w r : Bytes} (i : Nat) (hk : kindOf w ≠ 0) (hr : apart r) : scanFrom i (w ++ r) = match scanFrom (i + w.length) r with
    | .error e => .error e
    | .ok l => .ok (⟨kindOf w, w, i⟩ :: l) := by
  have key : ∀ (c : UInt8) (w' : Bytes), w = c :: w' → white c = false → c.toNat ≠ 35 → tokLen (w ++ r) = w.length → scanFrom i (w ++ r) = match scanFrom (i + w.length) r with
    | .error e => .error e
    | .ok l => .ok (⟨kindOf w, w, i⟩ :: l) := by
    intro c w' hw h1 h2 h3
    have h4 : (w ++ r).take (tokLen (w ++ r)) = w := by rw [h3]; simp
    have h5 : (w ++ r).drop (tokLen (w ++ r)) = r := by rw [h3]; simp
    have := scanFrom_tok (c := c) (r := w' ++ r) i h1 h2
    rw [← List.cons_append, ← hw, h4, h5, h3] at this
    exact this hk
  rcases kind_shape hk with ⟨hall, hne⟩ | hm
  · cases w with
    | nil => exact absurd rfl hne
    | cons c w' =>
      simp only [List.all_cons, Bool.and_eq_true] at hall
      obtain ⟨h1, h2⟩ := inner_not_white hall.1
      refine key c w' rfl h1 h2 ?_
      rw [List.cons_append, tokLen_cons, if_pos hall.1, wordLen_apart w' r hall.2 hr]; rfl
  · rcases mark_cases hm with rfl | ⟨c, hc, rfl⟩
    · exact key 45 [62] rfl (by decide) (by decide) (by simp [tokLen_cons, show inner 45 = false by decide])
    · have hh : ∀ c ∈ markBytes, white c = false ∧ c.toNat ≠ 35 ∧ inner c = false ∧ c.toNat ≠ 45 := by decide
      obtain ⟨h1, h2, h3, h4⟩ := hh c hc
      refine key c [] rfl h1 h2 ?_
      rw [List.cons_append, tokLen_cons, if_neg (by simp [h3]), if_neg h4]; rfl
/-- Kinds and texts. -/
def kt (l : List Tok) : List (Int × Bytes) := l.map fun t => (t.kind, t.text)
def kts (ws : List Bytes) : List (Int × Bytes) := ws.map fun w => (kindOf w, w)
def okKt (r : Except Nat (List Tok)) (ws : List (Int × Bytes)) : Prop := ∃ l, r = .ok l ∧ kt l = ws
theorem okKt_word {w r : Bytes} {i : Nat} {ws : List (Int × Bytes)} (hk : kindOf w ≠ 0) (hr : apart r) (h : okKt (scanFrom (i + w.length) r) ws) : okKt (scanFrom i (w ++ r)) ((kindOf w, w) :: ws) := by
  obtain ⟨l, h1, h2⟩ := h
  rw [scan_word i hk hr, h1]
  exact ⟨_, rfl, by rw [← h2]; rfl⟩
theorem okKt_nil (i : Nat) : okKt (scanFrom i []) [] := ⟨[], rfl, rfl⟩
/-- What the scanner passes over. -/
def Passes (u : Bytes) : Prop := ∀ i r, ∃ j, scanFrom i (u ++ r) = scanFrom j r
theorem passes_nil : Passes [] := fun i _ => ⟨i, rfl⟩
theorem passes_white {c : UInt8} {u : Bytes} (h : white c = true) (hu : Passes u) : Passes (c :: u) := fun i r => by
  rw [List.cons_append, scanFrom_white i h]; exact hu _ _
theorem commentLen_app : ∀ (u : Bytes) (c : UInt8) (r : Bytes), (∀ x ∈ u, x.toNat ≠ 10) → c.toNat = 10 → commentLen (u ++ c :: r) = u.length
  | [], c, r, _, hc => by simp [commentLen, hc]
  | x :: u, c, r, h, hc => by
    have := commentLen_app u c r (fun y hy => h y (List.mem_cons_of_mem _ hy)) hc
    simp only [List.cons_append, commentLen, List.length_cons]
    rw [if_neg (h x (List.mem_cons_self ..)), this]
theorem passes_comment {u v : Bytes} (h : ∀ x ∈ u, x.toNat ≠ 10) (hv : Passes v) : Passes (35 :: u ++ 10 :: v) := fun i r => by
  have hc : commentLen ((35 :: u) ++ 10 :: (v ++ r)) = (35 :: u).length := commentLen_app _ _ _ (by
    intro x hx
    rcases List.mem_cons.1 hx with rfl | hx
    · decide
    · exact h x hx) rfl
  have h1 := scanFrom_comment (c := 35) (r := u ++ 10 :: (v ++ r)) i (by decide) (by decide)
  rw [← List.cons_append, hc] at h1
  have h2 : (35 :: u) ++ 10 :: (v ++ r) = (35 :: u ++ 10 :: v) ++ r := by simp
  rw [h2] at h1
  rw [h1, ← h2, List.drop_left, scanFrom_white _ (by decide)]
  exact hv _ _
theorem okKt_pass {u r : Bytes} {i : Nat} {ws : List (Int × Bytes)} (hu : Passes u) (h : ∀ j, okKt (scanFrom j r) ws) : okKt (scanFrom i (u ++ r)) ws := by
  obtain ⟨j, hj⟩ := hu i r
  rw [hj]; exact h j
def back (ws : List Bytes) : Bytes := ws.flatMap (· ++ [32])
def front (ps : List (Bytes × Bytes)) : Bytes := ps.flatMap fun p => p.1 ++ p.2
theorem back_ok : ∀ (ws : List Bytes), (∀ w ∈ ws, kindOf w ≠ 0) → ∀ i, okKt (scanFrom i (back ws)) (kts ws)
  | [], _, i => okKt_nil i
  | w :: ws, h, i => by
    have e : back (w :: ws) = w ++ ([32] ++ back ws) := by simp [back]
    rw [e]
    refine okKt_word (h w (List.mem_cons_self ..)) (apart_cons (by decide)) ?_
    exact okKt_pass (passes_white (by decide) passes_nil) (back_ok ws (fun x hx => h x (List.mem_cons_of_mem _ hx)))
def Gap (u : Bytes) : Prop := Passes u ∧ ∃ c l, u = c :: l ∧ inner c = false
theorem front_ok : ∀ (ps : List (Bytes × Bytes)), (∀ p ∈ ps, Gap p.1 ∧ kindOf p.2 ≠ 0) → ∀ i, okKt (scanFrom i (front ps)) (kts (ps.map (·.2)))
  | [], _, i => okKt_nil i
  | p :: ps, h, i => by
    have e : front (p :: ps) = p.1 ++ (p.2 ++ front ps) := by simp [front]
    rw [e]
    have hp := h p (List.mem_cons_self ..)
    refine okKt_pass hp.1.1 (fun j => okKt_word hp.2 ?_ (front_ok ps (fun x hx => h x (List.mem_cons_of_mem _ hx)) _))
    cases ps with
    | nil => exact apart_nil
    | cons p' ps =>
      obtain ⟨c, l, hc, hi⟩ := (h p' (by simp)).1.2
      have e2 : front (p' :: ps) = c :: (l ++ (p'.2 ++ front ps)) := by simp [front, hc]
      rw [e2]
      exact apart_cons hi
/-- Texts joined by single spaces. -/
def joined : List Bytes → Bytes
  | [] => []
  | [w] => w
  | w :: v :: r => w ++ 32 :: joined (v :: r)
theorem joined_ok : ∀ (ws : List Bytes), (∀ w ∈ ws, kindOf w ≠ 0) → ∀ i, okKt (scanFrom i (joined ws)) (kts ws)
  | [], _, i => okKt_nil i
  | [w], h, i => by
    have := okKt_word (w := w) (r := []) (i := i) (ws := []) (h w (by simp)) apart_nil (okKt_nil _)
    rw [List.append_nil] at this
    exact this
  | w :: v :: r, h, i => by
    show okKt (scanFrom i (w ++ 32 :: joined (v :: r))) _
    refine okKt_word (h w (by simp)) (apart_cons (by decide)) ?_
    exact okKt_pass (u := [32]) (passes_white (by decide) passes_nil) (joined_ok (v :: r) (fun x hx => h x (List.mem_cons_of_mem _ hx)))
theorem kt_same : ∀ {a b : List Tok}, kt a = kt b → (List.zip a b).all (fun t => decide (t.1.kind = t.2.kind) && decide (t.1.text = t.2.text) && (!false || decide (t.1.pos = t.2.pos))) = true
  | [], [], _ => rfl
  | [], _ :: _, h => by simp [kt] at h
  | _ :: _, [], h => by simp [kt] at h
  | x :: a, y :: b, h => by
    simp only [kt, List.map_cons, List.cons.injEq, Prod.mk.injEq] at h
    have := kt_same (a := a) (b := b) h.2
    simp only [List.zip_cons_cons, List.all_cons, this, h.1.1, h.1.2]
    simp
theorem kt_len {a : List Tok} {ws : List (Int × Bytes)} (h : kt a = ws) : a.length = ws.length := by rw [← h]; simp [kt]
theorem scan_okKt {s : Bytes} {ws : List (Int × Bytes)} (hs : s.length ≤ 4000) (h : okKt (scanFrom 0 s) ws) : ∃ l, scan s = .ok l ∧ kt l = ws := by
  obtain ⟨l, h1, h2⟩ := h
  rw [scan_of hs, List.drop_zero, h1]
  exact ⟨l, rfl, h2⟩
end Go.Th
-- sum 496e31a5604066f8

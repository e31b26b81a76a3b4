/- Plain law: what the reference of chapter 2 computes, on lists of bytes. No program in sight. -/
namespace Go.Th
abbrev Bytes := List UInt8

structure Tok where
 kind : Int
 text : Bytes
 pos : Int

def lower (c : UInt8) : Bool := decide (97 ≤ c.toNat) && decide (c.toNat ≤ 122)
def upper (c : UInt8) : Bool := decide (65 ≤ c.toNat) && decide (c.toNat ≤ 90)
def digit (c : UInt8) : Bool := decide (48 ≤ c.toNat) && decide (c.toNat ≤ 57)
def inner (c : UInt8) : Bool := lower c || upper c || digit c || decide (c.toNat = 95)
def isWord (s : Bytes) : Bool := s.all inner && !s.isEmpty
def keywords : List Bytes := [[100, 97, 116, 97], [108, 101, 116], [114, 101, 99], [105, 110], [99, 97, 115, 101], [111, 102], [101, 110, 100]]
def isKeyword (s : Bytes) : Bool := decide (s ∈ keywords)
def isLower (s : Bytes) : Bool := isWord s && lower (s.headD 0) && decide (s.length ≤ 12) && !isKeyword s
def isUpper (s : Bytes) : Bool := isWord s && upper (s.headD 0) && decide (s.length ≤ 12)
def isInteger (s : Bytes) : Bool := !s.isEmpty && decide (s.length ≤ 9) && !(decide ((s.headD 0).toNat = 48) && decide (1 < s.length)) && s.all digit
def markBytes : Bytes := [92, 46, 61, 59, 58, 124, 40, 41, 123, 125, 63]
def isMark (s : Bytes) : Bool := decide (s = [45, 62]) || markBytes.any fun c => decide (s = [c])
def kindOf (s : Bytes) : Int := if isKeyword s then 4 else if isLower s then 1 else if isUpper s then 2 else if isInteger s then 3 else if isMark s then 5 else 0

def white (c : UInt8) : Bool := decide (c.toNat = 32) || decide (c.toNat = 9) || decide (c.toNat = 13) || decide (c.toNat = 10)

def commentLen : Bytes → Nat
 | [] => 0
 | c :: r => if c.toNat = 10 then 0 else commentLen r + 1
def wordLen : Bytes → Nat
 | [] => 0
 | c :: r => if inner c then wordLen r + 1 else 0
def tokLen : Bytes → Nat
 | [] => 0
 | c :: r => if inner c then wordLen r + 1 else if c.toNat = 45 then (match r with | x :: _ => if x.toNat = 62 then 2 else 1 | [] => 1) else 1

def scanGo : Nat → Nat → Bytes → Except Nat (List Tok)
 | 0, _, _ => .ok []
 | _ + 1, _, [] => .ok []
 | f + 1, i, c :: r =>
  if white c then scanGo f (i + 1) r
  else if c.toNat = 35 then scanGo f (i + commentLen (c :: r)) ((c :: r).drop (commentLen (c :: r)))
  else if kindOf ((c :: r).take (tokLen (c :: r))) = 0 then .error i
  else match scanGo f (i + tokLen (c :: r)) ((c :: r).drop (tokLen (c :: r))) with
   | .error e => .error e
   | .ok l => .ok (⟨kindOf ((c :: r).take (tokLen (c :: r))), (c :: r).take (tokLen (c :: r)), i⟩ :: l)

inductive Scanned where
 | ok (l : List Tok)
 | bad (err pos : Int)

def scan (s : Bytes) : Scanned :=
 if 4000 < s.length then .bad 1 0 else match scanGo s.length 0 s with
  | .ok l => .ok l
  | .error p => .bad 2 p

theorem commentLen_le : ∀ s : Bytes, commentLen s ≤ s.length
 | [] => Nat.le_refl 0
 | c :: r => by have := commentLen_le r; simp only [commentLen]; split <;> simp <;> omega
theorem wordLen_le : ∀ s : Bytes, wordLen s ≤ s.length
 | [] => Nat.le_refl 0
 | c :: r => by have := wordLen_le r; simp only [wordLen]; split <;> simp <;> omega
theorem tokLen_le : ∀ s : Bytes, tokLen s ≤ s.length
 | [] => Nat.le_refl 0
 | c :: r => by
  have := wordLen_le r
  simp only [tokLen]
  split
  ·simp; omega
  ·split
   ·cases r with
    | nil => simp
    | cons x l => simp only; split <;> simp
   ·simp
theorem tokLen_pos (c : UInt8) (r : Bytes) : 1 ≤ tokLen (c :: r) := by
 simp only [tokLen]
 split
 ·omega
 ·split
  ·cases r with
   | nil => simp
   | cons x l => simp only; split <;> omega
  ·omega
theorem commentLen_pos {c : UInt8} (r : Bytes) (h : c.toNat = 35) : 1 ≤ commentLen (c :: r) := by
 simp only [commentLen]
 rw [if_neg (by omega)]
 omega

theorem scanGo_fuel : ∀ (f f' i : Nat) (s : Bytes), s.length ≤ f → s.length ≤ f' → scanGo f i s = scanGo f' i s := by
 intro f
 induction f with
 | zero =>
  intro f' i s h _
  have : s = [] := List.eq_nil_of_length_eq_zero (by omega)
  subst this
  cases f' <;> simp [scanGo]
 | succ f ih =>
  intro f' i s h h'
  cases s with
  | nil => cases f' <;> simp [scanGo]
  | cons c r =>
   cases f' with
   | zero => simp at h'
   | succ f' =>
    simp only [List.length_cons] at h h'
    simp only [scanGo]
    have h1 := tokLen_pos c r
    split
    ·exact ih _ _ _ (by omega) (by omega)
    ·split
     ·rename_i hc
      have h2 := commentLen_pos r hc
      exact ih _ _ _ (by simp only [List.length_drop, List.length_cons]; omega) (by simp only [List.length_drop, List.length_cons]; omega)
     ·rw [ih f' (i + tokLen (c :: r)) ((c :: r).drop (tokLen (c :: r))) (by simp only [List.length_drop, List.length_cons]; omega) (by simp only [List.length_drop, List.length_cons]; omega)]

def scanFrom (i : Nat) (s : Bytes) : Except Nat (List Tok) := scanGo s.length i s
theorem scanFrom_nil (i : Nat) : scanFrom i [] = .ok [] := rfl
theorem scanFrom_white {c : UInt8} {r : Bytes} (i : Nat) (h : white c = true) : scanFrom i (c :: r) = scanFrom (i + 1) r := by
 simp [scanFrom, scanGo, h]
theorem scanFrom_comment {c : UInt8} {r : Bytes} (i : Nat) (h : white c = false) (h' : c.toNat = 35) : scanFrom i (c :: r) = scanFrom (i + commentLen (c :: r)) ((c :: r).drop (commentLen (c :: r))) := by
 have := commentLen_pos r h'
 simp only [scanFrom, List.length_cons, scanGo, h, Bool.false_eq_true, if_false, h', if_true]
 exact scanGo_fuel _ _ _ _ (by simp only [List.length_drop, List.length_cons]; omega) (by simp only [List.length_drop, List.length_cons]; omega)
theorem scanFrom_bad {c : UInt8} {r : Bytes} (i : Nat) (h : white c = false) (h' : c.toNat ≠ 35) (hk : kindOf ((c :: r).take (tokLen (c :: r))) = 0) : scanFrom i (c :: r) = .error i := by
 simp [scanFrom, scanGo, h, h', hk]
theorem scanFrom_tok {c : UInt8} {r : Bytes} (i : Nat) (h : white c = false) (h' : c.toNat ≠ 35) (hk : kindOf ((c :: r).take (tokLen (c :: r))) ≠ 0) :
  scanFrom i (c :: r) = match scanFrom (i + tokLen (c :: r)) ((c :: r).drop (tokLen (c :: r))) with
   | .error e => .error e
   | .ok l => .ok (⟨kindOf ((c :: r).take (tokLen (c :: r))), (c :: r).take (tokLen (c :: r)), i⟩ :: l) := by
 have := tokLen_pos c r
 simp only [scanFrom, List.length_cons, scanGo, h, Bool.false_eq_true, if_false, h', hk]
 rw [scanGo_fuel r.length ((c :: r).drop (tokLen (c :: r))).length _ _ (by simp only [List.length_drop, List.length_cons]; omega) (Nat.le_refl _)]
end Go.Th
-- sum 6c34397b2c3ebfcc

/- Plain law, second part: the scanner as loops see it. -/
namespace Go.Th

def pre (l : List Tok) : Except Nat (List Tok) → Except Nat (List Tok)
 | .ok r => .ok (l ++ r)
 | .error e => .error e
theorem pre_nil (r : Except Nat (List Tok)) : pre [] r = r := by cases r <;> rfl
theorem drop_cons {s : Bytes} {k : Nat} (h : k < s.length) : s.drop k = s[k] :: s.drop (k + 1) := List.drop_eq_getElem_cons h
theorem wordLen_step {s : Bytes} {k : Nat} (h : k < s.length) (hn : inner s[k] = true) : wordLen (s.drop k) = wordLen (s.drop (k + 1)) + 1 := by
 rw [drop_cons h, wordLen, if_pos hn]
theorem wordLen_stop {s : Bytes} {k : Nat} (h : k < s.length) (hn : inner s[k] = false) : wordLen (s.drop k) = 0 := by
 rw [drop_cons h, wordLen, hn]; rfl
theorem wordLen_end {s : Bytes} {k : Nat} (h : s.length ≤ k) : wordLen (s.drop k) = 0 := by
 rw [List.drop_eq_nil_of_le h]; rfl
theorem piece_eq (s : Bytes) (i n : Nat) : (s.take (i + n)).drop i = (s.drop i).take n := by
 rw [List.drop_take]; congr 1; omega

theorem tokLen_cons (c : UInt8) (r : Bytes) : tokLen (c :: r) = if inner c then wordLen r + 1 else if c.toNat = 45 then (match r with | x :: _ => if x.toNat = 62 then 2 else 1 | [] => 1) else 1 := by cases r <;> rfl
theorem tokLen_word {s : Bytes} {i : Nat} (h : i < s.length) (hn : inner s[i] = true) : tokLen (s.drop i) = wordLen (s.drop (i + 1)) + 1 := by
 rw [drop_cons h, tokLen_cons, if_pos hn]
theorem tokLen_arrow {s : Bytes} {i : Nat} (h : i + 1 < s.length) (hn : inner s[i] = false) (h1 : s[i].toNat = 45) (h2 : s[i + 1].toNat = 62) : tokLen (s.drop i) = 2 := by
 rw [drop_cons (by omega), drop_cons h, tokLen_cons, if_neg (by simp [hn]), if_pos h1]
 simp [h2]
theorem tokLen_one {s : Bytes} {i : Nat} (h : i < s.length) (hn : inner s[i] = false) (h1 : s[i].toNat = 45 → ∀ h2 : i + 1 < s.length, s[i + 1].toNat ≠ 62) : tokLen (s.drop i) = 1 := by
 rw [drop_cons h, tokLen_cons, if_neg (by simp [hn])]
 split
 ·rename_i h45
  by_cases hl : i + 1 < s.length
  ·rw [drop_cons hl]
   simp only
   rw [if_neg (h1 h45 hl)]
  ·rw [List.drop_eq_nil_of_le (by omega)]
 ·rfl

theorem scan_white {s : Bytes} {i : Nat} (h : i < s.length) (hw : white s[i] = true) : scanFrom i (s.drop i) = scanFrom (i + 1) (s.drop (i + 1)) := by
 rw [drop_cons h]; exact scanFrom_white i hw
theorem scan_comment {s : Bytes} {i : Nat} (h : i < s.length) (hw : white s[i] = false) (hc : s[i].toNat = 35) : scanFrom i (s.drop i) = scanFrom (i + commentLen (s.drop i)) (s.drop (i + commentLen (s.drop i))) := by
 have := scanFrom_comment (r := s.drop (i + 1)) i hw hc
 rw [← drop_cons h] at this
 rw [this, List.drop_drop]
theorem scan_bad {s : Bytes} {i : Nat} (h : i < s.length) (hw : white s[i] = false) (hc : s[i].toNat ≠ 35) (hk : kindOf ((s.drop i).take (tokLen (s.drop i))) = 0) : scanFrom i (s.drop i) = .error i := by
 have := scanFrom_bad (r := s.drop (i + 1)) i hw hc
 rw [← drop_cons h] at this
 exact this hk
theorem scan_tok {s : Bytes} {i : Nat} (h : i < s.length) (hw : white s[i] = false) (hc : s[i].toNat ≠ 35) (hk : kindOf ((s.drop i).take (tokLen (s.drop i))) ≠ 0) (l : List Tok) :
  pre l (scanFrom i (s.drop i)) = pre (l ++ [⟨kindOf ((s.drop i).take (tokLen (s.drop i))), (s.drop i).take (tokLen (s.drop i)), i⟩]) (scanFrom (i + tokLen (s.drop i)) (s.drop (i + tokLen (s.drop i)))) := by
 have := scanFrom_tok (r := s.drop (i + 1)) i hw hc
 rw [← drop_cons h] at this
 rw [this hk, List.drop_drop]
 generalize scanFrom (i + tokLen (s.drop i)) (s.drop (i + tokLen (s.drop i))) = r
 cases r <;> simp [pre]
theorem scan_of {s : Bytes} (h : s.length ≤ 4000) : scan s = match scanFrom 0 (s.drop 0) with | .ok l => .ok l | .error p => .bad 2 p := by
 simp only [scan, scanFrom, Nat.not_lt.2 h, if_false, List.drop_zero]
 all_goals (generalize scanGo s.length 0 s = r; cases r <;> rfl)
end Go.Th
-- sum 8e8f4f19f3514373

/- Plain law, third part: tokens that stand apart are read as they are. -/
namespace Go.Th
def apart (r : Bytes) : Prop := ∀ c l, r = c :: l → inner c = false
theorem wordLen_apart : ∀ (w r : Bytes), w.all inner = true → apart r → wordLen (w ++ r) = w.length
 | [], r, _, hr => by
  cases r with
  | nil => rfl
  | cons c l => simp [wordLen, hr c l rfl]
 | c :: w, r, hw, hr => by
  simp only [List.all_cons, Bool.and_eq_true] at hw
  simp [wordLen, hw.1, wordLen_apart w r hw.2 hr]
theorem kind_shape {w : Bytes} (h : kindOf w ≠ 0) : (w.all inner = true ∧ w ≠ []) ∨ isMark w = true := by
 by_cases hm : isMark w = true
 ·exact .inr hm
 ·left
  simp only [kindOf, hm] at h
  by_cases hk : isKeyword w = true
  ·have : ∀ x ∈ keywords, x.all inner = true ∧ x ≠ [] := by decide
   exact this w (by simpa [isKeyword] using hk)
  ·simp only [hk] at h
   have hword : isWord w = true → w.all inner = true ∧ w ≠ [] := fun hw => by simp [isWord] at hw; exact ⟨by simpa using hw.1, hw.2⟩
   by_cases hl : isLower w = true
   ·simp only [isLower, Bool.and_eq_true] at hl; exact hword hl.1.1.1
   ·by_cases hu : isUpper w = true
    ·simp only [isUpper, Bool.and_eq_true] at hu; exact hword hu.1.1
    ·by_cases hi : isInteger w = true
     ·simp only [isInteger, Bool.and_eq_true] at hi
      refine ⟨?_, by have := hi.1.1.1; simpa using this⟩
      rw [List.all_eq_true]
      intro x hx
      have := List.all_eq_true.1 hi.2 x hx
      simp [inner, this]
     ·simp [hl, hu, hi] at h
theorem mark_cases {w : Bytes} (h : isMark w = true) : w = [45, 62] ∨ ∃ c ∈ markBytes, w = [c] := by
 simpa [isMark] using h
theorem inner_not_white {c : UInt8} (h : inner c = true) : white c = false ∧ c.toNat ≠ 35 := by
 simp only [inner, lower, upper, digit, Bool.or_eq_true, Bool.and_eq_true, decide_eq_true_eq] at h
 refine ⟨?_, by omega⟩
 simp [white]; omega
theorem scan_word {w r : Bytes} (i : Nat) (hk : kindOf w ≠ 0) (hr : apart r) : scanFrom i (w ++ r) = match scanFrom (i + w.length) r with
  | .error e => .error e
  | .ok l => .ok (⟨kindOf w, w, i⟩ :: l) := by
 have key : ∀ (c : UInt8) (w' : Bytes), w = c :: w' → white c = false → c.toNat ≠ 35 → tokLen (w ++ r) = w.length → scanFrom i (w ++ r) = match scanFrom (i + w.length) r with
  | .error e => .error e
  | .ok l => .ok (⟨kindOf w, w, i⟩ :: l) := by
  intro c w' hw h1 h2 h3
  have h4 : (w ++ r).take (tokLen (w ++ r)) = w := by rw [h3]; simp
  have h5 : (w ++ r).drop (tokLen (w ++ r)) = r := by rw [h3]; simp
  have := scanFrom_tok (c := c) (r := w' ++ r) i h1 h2
  rw [← List.cons_append, ← hw, h4, h5, h3] at this
  exact this hk
 rcases kind_shape hk with ⟨hall, hne⟩ | hm
 ·cases w with
  | nil => exact absurd rfl hne
  | cons c w' =>
   simp only [List.all_cons, Bool.and_eq_true] at hall
   obtain ⟨h1, h2⟩ := inner_not_white hall.1
   refine key c w' rfl h1 h2 ?_
   rw [List.cons_append, tokLen_cons, if_pos hall.1, wordLen_apart w' r hall.2 hr]; rfl
 ·rcases mark_cases hm with rfl | ⟨c, hc, rfl⟩
  ·exact key 45 [62] rfl (by decide) (by decide) (by simp [tokLen_cons, show inner 45 = false by decide])
  ·have hh : ∀ c ∈ markBytes, white c = false ∧ c.toNat ≠ 35 ∧ inner c = false ∧ c.toNat ≠ 45 := by decide
   obtain ⟨h1, h2, h3, h4⟩ := hh c hc
   refine key c [] rfl h1 h2 ?_
   rw [List.cons_append, tokLen_cons, if_neg (by simp [h3]), if_neg h4]; rfl
def kt (l : List Tok) : List (Int × Bytes) := l.map fun t => (t.kind, t.text)
def kts (ws : List Bytes) : List (Int × Bytes) := ws.map fun w => (kindOf w, w)
def okKt (r : Except Nat (List Tok)) (ws : List (Int × Bytes)) : Prop := ∃ l, r = .ok l ∧ kt l = ws
theorem okKt_word {w r : Bytes} {i : Nat} {ws : List (Int × Bytes)} (hk : kindOf w ≠ 0) (hr : apart r) (h : okKt (scanFrom (i + w.length) r) ws) : okKt (scanFrom i (w ++ r)) ((kindOf w, w) :: ws) := by
 obtain ⟨l, h1, h2⟩ := h
 rw [scan_word i hk hr, h1]
 exact ⟨_, rfl, by rw [← h2]; rfl⟩
def back (ws : List Bytes) : Bytes := ws.flatMap (· ++ [32])
def front (ps : List (Bytes × Bytes)) : Bytes := ps.flatMap fun p => p.1 ++ p.2
def joined : List Bytes → Bytes
 | [] => []
 | [w] => w
 | w :: v :: r => w ++ 32 :: joined (v :: r)
end Go.Th
-- sum 496e31a5604066f8

/- Types in plain words: type terms, and what is read from tokens as a type. No program in sight. -/
namespace Go.Th
inductive Ty where
 | mk (kind : Int) (name : Bytes) (id home : Int) (args : List Ty)
def Ty.kind : Ty → Int | .mk k _ _ _ _ => k
def Ty.name : Ty → Bytes | .mk _ n _ _ _ => n
def Ty.id : Ty → Int | .mk _ _ i _ _ => i
def Ty.home : Ty → Int | .mk _ _ _ h _ => h
def Ty.args : Ty → List Ty | .mk _ _ _ _ a => a
def arrowB : Bytes := [45, 62]
def intB : Bytes := [73, 110, 116]
def conT (n : Bytes) (az : List Ty) : Ty := .mk 4 n 0 0 az
def nameT (n : Bytes) : Ty := .mk 5 n 0 0 []
def arrowT (a b : Ty) : Ty := conT arrowB [a, b]
def intT : Ty := conT intB []
def noT : Ty := .mk 0 [] 0 0 []
def failPos (l : List Tok) (i : Nat) : Int := match l[i]? with
 | some t => t.pos
 | none => match l.getLast? with
  | some t => t.pos + t.text.length
  | none => 0
def tokAt (l : List Tok) (i : Nat) (k : Int) (w : Bytes) : Bool := match l[i]? with
 | some t => decide (t.kind = k) && decide (t.text = w)
 | none => false
def markAt (l : List Tok) (i : Nat) (w : Bytes) : Bool := tokAt l i 5 w
def startsT (t : Tok) : Bool := decide (t.kind = 1) || decide (t.kind = 2) || (decide (t.kind = 5) && decide (t.text = [40]))
def startsAt (l : List Tok) (i : Nat) : Bool := match l[i]? with
 | some t => startsT t
 | none => false
theorem tokAt_lt {l : List Tok} {i : Nat} {k : Int} {w : Bytes} (h : tokAt l i k w = true) : i < l.length := by
 unfold tokAt at h
 cases ht : l[i]? with
 | none => rw [ht] at h; cases h
 | some t => exact (List.getElem?_eq_some_iff.1 ht).1
theorem startsAt_lt {l : List Tok} {i : Nat} (h : startsAt l i = true) : i < l.length := by
 unfold startsAt at h
 cases ht : l[i]? with
 | none => rw [ht] at h; cases h
 | some t => exact (List.getElem?_eq_some_iff.1 ht).1
inductive TQ where
 | whole
 | applied
 | atom
 | args (name : Bytes) (acc : List Ty)
abbrev TR := Except Int (Ty × Nat)
def tstep (l : List Tok) (f : TQ → Nat → TR) : TQ → Nat → TR
 | .atom, i => match l[i]? with
  | none => .error (failPos l i)
  | some t => if t.kind = 1 then .ok (nameT t.text, i + 1) else if t.kind = 2 then .ok (conT t.text [], i + 1)
   else if t.kind = 5 ∧ t.text = [40] then match f .whole (i + 1) with
    | .error p => .error p
    | .ok (x, j) => if markAt l j [41] then .ok (x, j + 1) else .error (failPos l j)
   else .error (failPos l i)
 | .args n acc, i => if startsAt l i then match f .atom i with
   | .error p => .error p
   | .ok (x, j) => if i < j then f (.args n (acc ++ [x])) j else .error 0
  else .ok (conT n acc, i)
 | .applied, i => match l[i]? with
  | some t => if t.kind = 2 then f (.args t.text []) (i + 1) else f .atom i
  | none => f .atom i
 | .whole, i => match f .applied i with
  | .error p => .error p
  | .ok (a, j) => if markAt l j arrowB then (if i < j + 1 then match f .whole (j + 1) with
    | .error p => .error p
    | .ok (b, k) => .ok (arrowT a b, k)
   else .error 0) else .ok (a, j)
def TQ.rank : TQ → Nat
 | .atom => 0
 | .args _ _ => 1
 | .applied => 2
 | .whole => 3
def tmu (l : List Tok) (q : TQ) (i : Nat) : Nat := 4 * (l.length - i) + q.rank
theorem tstep_congr {l : List Tok} {f g : TQ → Nat → TR} {q : TQ} {i : Nat} (h : ∀ q' i', tmu l q' i' < tmu l q i → f q' i' = g q' i') : tstep l f q i = tstep l g q i := by
 cases q with
 | atom =>
  simp only [tstep]
  cases ht : l[i]? with
  | none => rfl
  | some t =>
   have hi := (List.getElem?_eq_some_iff.1 ht).1
   simp only
   rw [h .whole (i + 1) (by simp only [tmu, TQ.rank]; omega)]
 | args n acc =>
  simp only [tstep]
  cases hs : startsAt l i with
  | false => rfl
  | true =>
   have hi := startsAt_lt hs
   simp only [if_true]
   rw [h .atom i (by simp only [tmu, TQ.rank]; omega)]
   cases g .atom i with
   | error p => rfl
   | ok p =>
    obtain ⟨x, j⟩ := p
    simp only
    by_cases hj : i < j
    ·rw [if_pos hj, if_pos hj, h _ j (by simp only [tmu, TQ.rank]; omega)]
    ·rw [if_neg hj, if_neg hj]
 | applied =>
  simp only [tstep]
  cases ht : l[i]? with
  | none => exact h _ _ (by simp only [tmu, TQ.rank]; omega)
  | some t =>
   have hi := (List.getElem?_eq_some_iff.1 ht).1
   simp only
   rw [h (.args t.text []) (i + 1) (by simp only [tmu, TQ.rank]; omega), h .atom i (by simp only [tmu, TQ.rank]; omega)]
 | whole =>
  simp only [tstep]
  rw [h .applied i (by simp only [tmu, TQ.rank]; omega)]
  cases g .applied i with
  | error p => rfl
  | ok p =>
   obtain ⟨a, j⟩ := p
   simp only
   cases hm : markAt l j arrowB with
   | false => rfl
   | true =>
    have hj := tokAt_lt hm
    simp only [if_true]
    by_cases hij : i < j + 1
    ·rw [if_pos hij, if_pos hij, h .whole (j + 1) (by simp only [tmu, TQ.rank]; omega)]
    ·rw [if_neg hij, if_neg hij]
def trun (l : List Tok) : Nat → TQ → Nat → TR
 | 0, _, _ => .error 0
 | n + 1, q, i => tstep l (trun l n) q i
theorem trun_fuel {l : List Tok} : ∀ (n m : Nat) (q : TQ) (i : Nat), tmu l q i < n → tmu l q i < m → trun l n q i = trun l m q i
 | 0, _, _, _, h, _ => by omega
 | _ + 1, 0, _, _, _, h => by omega
 | n + 1, m + 1, q, i, h, h' => tstep_congr fun q' i' hlt => trun_fuel n m q' i' (by omega) (by omega)
def tread (l : List Tok) (q : TQ) (i : Nat) : TR := trun l (tmu l q i + 1) q i
theorem tread_eq (l : List Tok) (q : TQ) (i : Nat) : tread l q i = tstep l (tread l) q i := tstep_congr fun q' i' hlt => trun_fuel _ _ q' i' hlt (by omega)
theorem tread_atom (l : List Tok) (i : Nat) : tread l .atom i = match l[i]? with
  | none => .error (failPos l i)
  | some t => if t.kind = 1 then .ok (nameT t.text, i + 1) else if t.kind = 2 then .ok (conT t.text [], i + 1)
   else if t.kind = 5 ∧ t.text = [40] then match tread l .whole (i + 1) with
    | .error p => .error p
    | .ok (x, j) => if markAt l j [41] then .ok (x, j + 1) else .error (failPos l j)
   else .error (failPos l i) := tread_eq l .atom i
theorem tread_args (l : List Tok) (n : Bytes) (acc : List Ty) (i : Nat) : tread l (.args n acc) i = if startsAt l i then match tread l .atom i with
   | .error p => .error p
   | .ok (x, j) => if i < j then tread l (.args n (acc ++ [x])) j else .error 0
  else .ok (conT n acc, i) := tread_eq l (.args n acc) i
theorem tread_applied (l : List Tok) (i : Nat) : tread l .applied i = match l[i]? with
  | some t => if t.kind = 2 then tread l (.args t.text []) (i + 1) else tread l .atom i
  | none => tread l .atom i := tread_eq l .applied i
theorem tread_whole (l : List Tok) (i : Nat) : tread l .whole i = match tread l .applied i with
  | .error p => .error p
  | .ok (a, j) => if markAt l j arrowB then (if i < j + 1 then match tread l .whole (j + 1) with
    | .error p => .error p
    | .ok (b, k) => .ok (arrowT a b, k)
   else .error 0) else .ok (a, j) := tread_eq l .whole i
end Go.Th
-- sum 1a5a9fe4a6618840

/- Expressions in plain words: terms, and what is read from tokens as an expression. No program in sight. -/
namespace Go.Th
mutual
inductive Ex where
 | mk (kind pos : Int) (name : Bytes) (num : Int) (kids : List Ex) (arms : List Ar) (ty : Ty)
inductive Ar where
 | mk (pos : Int) (con : Bytes) (vars : List Bytes) (body : Ex)
end
def Ex.kind : Ex → Int | .mk k _ _ _ _ _ _ => k
def Ex.pos : Ex → Int | .mk _ p _ _ _ _ _ => p
def Ex.name : Ex → Bytes | .mk _ _ n _ _ _ _ => n
def Ex.num : Ex → Int | .mk _ _ _ m _ _ _ => m
def Ex.kids : Ex → List Ex | .mk _ _ _ _ ks _ _ => ks
def Ex.arms : Ex → List Ar | .mk _ _ _ _ _ a _ => a
def Ex.ty : Ex → Ty | .mk _ _ _ _ _ _ t => t
def Ar.pos : Ar → Int | .mk p _ _ _ => p
def Ar.con : Ar → Bytes | .mk _ c _ _ => c
def Ar.vars : Ar → List Bytes | .mk _ _ v _ => v
def Ar.body : Ar → Ex | .mk _ _ _ b => b
def noE : Ex := .mk 0 0 [] 0 [] [] noT
def posOf (l : List Tok) (i : Nat) : Int := match l[i]? with
 | some t => t.pos
 | none => 0
def wordAt (l : List Tok) (i : Nat) (w : Bytes) : Bool := tokAt l i 4 w
def nameAt (l : List Tok) (i : Nat) (k : Int) : Option Bytes := match l[i]? with
 | some t => if t.kind = k then some t.text else none
 | none => none
def lowers : List Tok → List Bytes
 | [] => []
 | t :: r => if t.kind = 1 then t.text :: lowers r else []
def numOf (s : Bytes) : Int := s.foldl (fun n c => 10 * n + (c.toNat - 48 : Int)) 0
def startsE (t : Tok) : Bool := decide (t.kind = 1) || decide (t.kind = 2) || decide (t.kind = 3) || (decide (t.kind = 5) && (decide (t.text = [63]) || decide (t.text = [40]) || decide (t.text = [123])))
def startsEAt (l : List Tok) (i : Nat) : Bool := match l[i]? with
 | some t => startsE t
 | none => false
def letB : Bytes := [108, 101, 116]
def recB : Bytes := [114, 101, 99]
def inB : Bytes := [105, 110]
def caseB : Bytes := [99, 97, 115, 101]
def ofB : Bytes := [111, 102]
def endB : Bytes := [101, 110, 100]
def leafE (k p : Int) (n : Bytes) (m : Int) : Ex := .mk k p n m [] [] noT
def kidsE (k p : Int) (n : Bytes) (ks : List Ex) : Ex := .mk k p n 0 ks [] noT
def caseE (p : Int) (e : Ex) (az : List Ar) : Ex := .mk 8 p [] 0 [e] az noT
def annE (p : Int) (e : Ex) (t : Ty) : Ex := .mk 9 p [] 0 [e] [] t
inductive EQ where
 | expr
 | atom
 | apps (e : Ex)
 | arms (p : Int) (e : Ex) (acc : List Ar)
abbrev ER := Except Int (Ex × Nat)
def EQ.rank : EQ → Nat
 | .atom => 0
 | .apps _ => 1
 | .arms _ _ _ => 1
 | .expr => 2
def emu (l : List Tok) (q : EQ) (i : Nat) : Nat := 4 * (l.length - i) + q.rank
def letStep (l : List Tok) (f : EQ → Nat → ER) (kind p : Int) (j : Nat) : ER := match nameAt l j 1 with
 | none => .error (failPos l j)
 | some n => if markAt l (j + 1) [61] then match f .expr (j + 2) with
   | .error p => .error p
   | .ok (a, k) => if wordAt l k inB then match f .expr (k + 1) with
     | .error p => .error p
     | .ok (b, m) => .ok (kidsE kind p n [a, b], m)
    else .error (failPos l k)
  else .error (failPos l (j + 1))
def estep (l : List Tok) (f : EQ → Nat → ER) : EQ → Nat → ER
 | .expr, i =>
  if markAt l i [92] then match nameAt l (i + 1) 1 with
   | none => .error (failPos l (i + 1))
   | some n => if markAt l (i + 2) [46] then match f .expr (i + 3) with
     | .error p => .error p
     | .ok (b, k) => .ok (kidsE 4 (posOf l i) n [b], k)
    else .error (failPos l (i + 2))
  else if wordAt l i letB then (if wordAt l (i + 1) recB then letStep l f 7 (posOf l i) (i + 2) else letStep l f 6 (posOf l i) (i + 1))
  else if wordAt l i caseB then match f .expr (i + 1) with
   | .error p => .error p
   | .ok (e, j) => if wordAt l j ofB then f (.arms (posOf l i) e []) (j + 1) else .error (failPos l j)
  else match f .atom i with
   | .error p => .error p
   | .ok (e, j) => f (.apps e) j
 | .apps e, i => if startsEAt l i then match f .atom i with
   | .error p => .error p
   | .ok (a, j) => f (.apps (kidsE 5 e.pos [] [e, a])) j
  else .ok (e, i)
 | .arms p e acc, i => match nameAt l i 2 with
  | none => .error (failPos l i)
  | some c => if markAt l (i + 1 + (lowers (l.drop (i + 1))).length) [46] then match f .expr (i + 1 + (lowers (l.drop (i + 1))).length + 1) with
    | .error p => .error p
    | .ok (b, m) => if markAt l m [124] then f (.arms p e (acc ++ [.mk (posOf l i) c (lowers (l.drop (i + 1))) b])) (m + 1)
     else if wordAt l m endB then .ok (caseE p e (acc ++ [.mk (posOf l i) c (lowers (l.drop (i + 1))) b]), m + 1) else .error (failPos l m)
   else .error (failPos l (i + 1 + (lowers (l.drop (i + 1))).length))
 | .atom, i => match l[i]? with
  | none => .error (failPos l i)
  | some t => if t.kind = 1 then .ok (leafE 1 t.pos t.text 0, i + 1) else if t.kind = 2 then .ok (leafE 2 t.pos t.text 0, i + 1) else if t.kind = 3 then .ok (leafE 3 t.pos [] (numOf t.text), i + 1)
   else if t.kind = 5 ∧ t.text = [63] then .ok (leafE 10 t.pos [] 0, i + 1)
   else if t.kind = 5 ∧ t.text = [123] then match f .expr (i + 1) with
    | .error p => .error p
    | .ok (x, j) => if markAt l j [125] then .ok (kidsE 11 t.pos [] [x], j + 1) else .error (failPos l j)
   else if t.kind = 5 ∧ t.text = [40] then match f .expr (i + 1) with
    | .error p => .error p
    | .ok (x, j) => if markAt l j [58] then match tread l .whole (j + 1) with
      | .error p => .error p
      | .ok (y, k) => if markAt l k [41] then .ok (annE t.pos x y, k + 1) else .error (failPos l k)
     else if markAt l j [41] then .ok (x, j + 1) else .error (failPos l j)
   else .error (failPos l i)
def ecall (l : List Tok) (f : EQ → Nat → ER) (q : EQ) (i : Nat) (q' : EQ) (i' : Nat) : ER := if emu l q' i' < emu l q i then f q' i' else .error 0
def erun (l : List Tok) : Nat → EQ → Nat → ER
 | 0, _, _ => .error 0
 | n + 1, q, i => estep l (ecall l (erun l n) q i) q i
theorem erun_fuel {l : List Tok} : ∀ (n m : Nat) (q : EQ) (i : Nat), emu l q i < n → emu l q i < m → erun l n q i = erun l m q i
 | 0, _, _, _, h, _ => by omega
 | _ + 1, 0, _, _, _, h => by omega
 | n + 1, m + 1, q, i, h, h' => by
  have : ecall l (erun l n) q i = ecall l (erun l m) q i := by
   funext q' i'
   unfold ecall
   by_cases hlt : emu l q' i' < emu l q i
   ·rw [if_pos hlt, if_pos hlt]; exact erun_fuel n m q' i' (by omega) (by omega)
   ·rw [if_neg hlt, if_neg hlt]
  show estep l (ecall l (erun l n) q i) q i = estep l (ecall l (erun l m) q i) q i
  rw [this]
def eread (l : List Tok) (q : EQ) (i : Nat) : ER := erun l (emu l q i + 1) q i
theorem eread_eq (l : List Tok) (q : EQ) (i : Nat) : eread l q i = estep l (ecall l (eread l) q i) q i := by
 have : ecall l (erun l (emu l q i)) q i = ecall l (eread l) q i := by
  funext q' i'
  unfold ecall
  by_cases hlt : emu l q' i' < emu l q i
  ·rw [if_pos hlt, if_pos hlt]; exact erun_fuel _ _ q' i' hlt (by omega)
  ·rw [if_neg hlt, if_neg hlt]
 show estep l (ecall l (erun l (emu l q i)) q i) q i = _
 rw [this]
theorem ecall_lt {l : List Tok} {q q' : EQ} {i i' : Nat} (h : i < l.length) (h' : i < i') : ecall l (eread l) q i q' i' = eread l q' i' := if_pos (by
 have h1 : q'.rank ≤ 2 := by cases q' <;> simp [EQ.rank]
 unfold emu
 omega)
theorem ecall_rank {l : List Tok} {q q' : EQ} {i : Nat} (h : q'.rank < q.rank) : ecall l (eread l) q i q' i = eread l q' i := if_pos (by unfold emu; omega)
end Go.Th
-- sum 9df14911fb5f99a2

/- Expressions in plain words: what is read moves on; the reading without guards. No program in sight. -/
namespace Go.Th
theorem ecall_ok {l : List Tok} {f : EQ → Nat → ER} {q q' : EQ} {i i' : Nat} {x : Ex × Nat} (h : ecall l f q i q' i' = .ok x) : emu l q' i' < emu l q i ∧ f q' i' = .ok x := by
 unfold ecall at h
 split at h
 ·rename_i hlt; exact ⟨hlt, h⟩
 ·cases h
def EQ.moves : EQ → Bool
 | .apps _ => false
 | _ => true
theorem tread_prog (l : List Tok) : ∀ (N : Nat) (q : TQ) (i : Nat) (x : Ty × Nat), tmu l q i < N → tread l q i = .ok x → i ≤ x.2
 | 0, _, _, _, h, _ => by omega
 | N + 1, q, i, x, hN, h => by
  have ih := tread_prog l N
  cases q with
  | atom =>
   rw [tread_atom] at h
   split at h
   ·cases h
   ·rename_i t ht
    have hi := (List.getElem?_eq_some_iff.1 ht).1
    split at h
    ·cases h; simp
    ·split at h
     ·cases h; simp
     ·split at h
      ·split at h
       ·cases h
       ·rename_i y j h1
        have i1 := ih .whole (i + 1) (y, j) (by simp only [tmu, TQ.rank] at *; omega) h1
        split at h
        ·cases h; simp only at *; omega
        ·cases h
      ·cases h
  | args n acc =>
   rw [tread_args] at h
   split at h
   ·rename_i hs
    have hi := startsAt_lt hs
    split at h
    ·cases h
    ·rename_i y j h1
     split at h
     ·rename_i hij
      have i1 := ih _ j x (by simp only [tmu, TQ.rank] at *; omega) h
      omega
     ·cases h
   ·cases h; simp
  | applied =>
   rw [tread_applied] at h
   split at h
   ·rename_i t ht
    have hi := (List.getElem?_eq_some_iff.1 ht).1
    split at h
    ·have i1 := ih _ (i + 1) x (by simp only [tmu, TQ.rank] at *; omega) h
     omega
    ·exact ih _ i x (by simp only [tmu, TQ.rank] at *; omega) h
   ·exact ih _ i x (by simp only [tmu, TQ.rank] at *; omega) h
  | whole =>
   rw [tread_whole] at h
   split at h
   ·cases h
   ·rename_i a j h1
    have i1 := ih _ i (a, j) (by simp only [tmu, TQ.rank] at *; omega) h1
    simp only at i1
    split at h
    ·rename_i hm
     have hj := tokAt_lt hm
     split at h
     ·split at h
      ·cases h
      ·rename_i b k h2
       have i2 := ih _ (j + 1) (b, k) (by simp only [tmu, TQ.rank] at *; omega) h2
       cases h
       simp only at *; omega
     ·cases h
    ·cases h; exact i1
theorem let_prog {l : List Tok} {f : EQ → Nat → ER} {k p : Int} {i : Nat} {e : Ex} {j : Nat} (hf : ∀ q i e j, f q i = .ok (e, j) → i ≤ j) (h : letStep l f k p i = .ok (e, j)) : i < j := by
 unfold letStep at h
 split at h
 ·cases h
 ·split at h
  ·split at h
   ·cases h
   ·rename_i a k1 h1
    have i1 := hf _ _ _ _ h1
    split at h
    ·split at h
     ·cases h
     ·rename_i b m h2
      have i2 := hf _ _ _ _ h2
      cases h
      omega
    ·cases h
  ·cases h
theorem eread_prog (l : List Tok) : ∀ (N : Nat) (q : EQ) (i : Nat) (e : Ex) (j : Nat), emu l q i < N → eread l q i = .ok (e, j) → i ≤ j ∧ (q.moves = true → i < j)
 | 0, _, _, _, _, h, _ => by omega
 | N + 1, q, i, e, j, hN, h => by
  have ih := eread_prog l N
  rw [eread_eq] at h
  have hf : ∀ q' i' e' j', ecall l (eread l) q i q' i' = .ok (e', j') → i' ≤ j' ∧ (q'.moves = true → i' < j') := fun q' i' e' j' hc => by
   obtain ⟨h1, h2⟩ := ecall_ok hc
   exact ih q' i' e' j' (by omega) h2
  have hf1 : ∀ q' i' e' j', ecall l (eread l) q i q' i' = .ok (e', j') → i' ≤ j' := fun q' i' e' j' hc => (hf q' i' e' j' hc).1
  cases q with
  | expr =>
   simp only [estep] at h
   suffices hh : i < j from ⟨by omega, fun _ => hh⟩
   split at h
   ·split at h
    ·cases h
    ·split at h
     ·split at h
      ·cases h
      ·rename_i b k h1
       have i1 := hf1 _ _ _ _ h1
       cases h; omega
     ·cases h
   ·split at h
    ·split at h
     ·have := let_prog hf1 h; omega
     ·have := let_prog hf1 h; omega
    ·split at h
     ·split at h
      ·cases h
      ·rename_i e1 j1 h1
       have i1 := hf1 _ _ _ _ h1
       split at h
       ·have i2 := hf1 _ _ _ _ h; omega
       ·cases h
     ·split at h
      ·cases h
      ·rename_i e1 j1 h1
       have i1 := (hf _ _ _ _ h1).2 rfl
       have i2 := hf1 _ _ _ _ h
       omega
  | apps x =>
   simp only [estep] at h
   suffices hh : i ≤ j from ⟨hh, fun hm => by cases hm⟩
   split at h
   ·split at h
    ·cases h
    ·rename_i a j1 h1
     have i1 := hf1 _ _ _ _ h1
     have i2 := hf1 _ _ _ _ h
     omega
   ·cases h; omega
  | arms p x acc =>
   simp only [estep] at h
   suffices hh : i < j from ⟨by omega, fun _ => hh⟩
   split at h
   ·cases h
   ·split at h
    ·split at h
     ·cases h
     ·rename_i b m h1
      have i1 := hf1 _ _ _ _ h1
      split at h
      ·have i2 := hf1 _ _ _ _ h; omega
      ·split at h
       ·cases h; omega
       ·cases h
    ·cases h
  | atom =>
   simp only [estep] at h
   suffices hh : i < j from ⟨by omega, fun _ => hh⟩
   split at h
   ·cases h
   ·split at h
    ·cases h; omega
    ·split at h
     ·cases h; omega
     ·split at h
      ·cases h; omega
      ·split at h
       ·cases h; omega
       ·split at h
        ·split at h
         ·cases h
         ·rename_i x1 j1 h1
          have i1 := hf1 _ _ _ _ h1
          split at h
          ·cases h; omega
          ·cases h
        ·split at h
         ·split at h
          ·cases h
          ·rename_i x1 j1 h1
           have i1 := hf1 _ _ _ _ h1
           split at h
           ·split at h
            ·cases h
            ·rename_i y k h2
             have i2 := tread_prog l _ _ _ _ (Nat.lt_succ_self _) h2
             simp only at i2
             split at h
             ·cases h; omega
             ·cases h
           ·split at h
            ·cases h; omega
            ·cases h
         ·cases h
theorem eread_le {l : List Tok} {q : EQ} {i : Nat} {e : Ex} {j : Nat} (h : eread l q i = .ok (e, j)) : i ≤ j := (eread_prog l _ q i e j (Nat.lt_succ_self _) h).1
theorem eread_lt {l : List Tok} {q : EQ} {i : Nat} {e : Ex} {j : Nat} (hq : q.moves = true) (h : eread l q i = .ok (e, j)) : i < j := (eread_prog l _ q i e j (Nat.lt_succ_self _) h).2 hq
theorem let_free {l : List Tok} {q : EQ} {i : Nat} (hi : i < l.length) (k p : Int) {j : Nat} (hj : i < j) : letStep l (ecall l (eread l) q i) k p j = letStep l (eread l) k p j := by
 unfold letStep
 rw [ecall_lt hi (by omega)]
 cases nameAt l j 1 with
 | none => rfl
 | some n =>
  simp only
  cases h : eread l .expr (j + 2) with
  | error p => rfl
  | ok x =>
   obtain ⟨a, m⟩ := x
   have := eread_le h
   simp only
   rw [ecall_lt hi (by omega)]
theorem eread_step (l : List Tok) (q : EQ) (i : Nat) : eread l q i = estep l (eread l) q i := by
 rw [eread_eq]
 cases q with
 | expr =>
  simp only [estep]
  cases h1 : markAt l i [92] with
  | true =>
   have hi := tokAt_lt h1
   simp only [if_true]
   rw [ecall_lt hi (by omega)]
  | false =>
   simp only [Bool.false_eq_true, if_false]
   cases h2 : wordAt l i letB with
   | true =>
    have hi := tokAt_lt h2
    simp only [if_true]
    rw [let_free hi _ _ (by omega), let_free hi _ _ (by omega)]
   | false =>
    simp only [Bool.false_eq_true, if_false]
    cases h3 : wordAt l i caseB with
    | true =>
     have hi := tokAt_lt h3
     simp only [if_true]
     rw [ecall_lt hi (by omega)]
     cases h : eread l .expr (i + 1) with
     | error p => rfl
     | ok x =>
      obtain ⟨a, m⟩ := x
      have := eread_le h
      simp only
      rw [ecall_lt hi (by omega)]
    | false =>
     simp only [Bool.false_eq_true, if_false]
     rw [ecall_rank (by decide)]
     cases h : eread l .atom i with
     | error p => rfl
     | ok x =>
      obtain ⟨a, m⟩ := x
      have := eread_le h
      simp only
      unfold ecall
      rw [if_pos (by simp only [emu, EQ.rank]; omega)]
 | apps x =>
  simp only [estep]
  cases h1 : startsEAt l i with
  | false => rfl
  | true =>
   have hi : i < l.length := by
    unfold startsEAt at h1
    cases ht : l[i]? with
    | none => rw [ht] at h1; cases h1
    | some t => exact (List.getElem?_eq_some_iff.1 ht).1
   simp only [if_true]
   rw [ecall_rank (by simp [EQ.rank])]
   cases h : eread l .atom i with
   | error p => rfl
   | ok x =>
    obtain ⟨a, m⟩ := x
    have := eread_lt rfl h
    simp only
    rw [ecall_lt hi this]
 | arms p x acc =>
  simp only [estep]
  cases h1 : nameAt l i 2 with
  | none => rfl
  | some c =>
   have hi : i < l.length := by
    unfold nameAt at h1
    cases ht : l[i]? with
    | none => rw [ht] at h1; cases h1
    | some t => exact (List.getElem?_eq_some_iff.1 ht).1
   simp only
   rw [ecall_lt hi (by omega)]
   cases h : eread l .expr (i + 1 + (lowers (l.drop (i + 1))).length + 1) with
   | error p => rfl
   | ok x =>
    obtain ⟨a, m⟩ := x
    have := eread_le h
    simp only
    rw [ecall_lt hi (by omega)]
 | atom =>
  simp only [estep]
  cases h1 : l[i]? with
  | none => rfl
  | some t =>
   have hi := (List.getElem?_eq_some_iff.1 h1).1
   simp only
   rw [ecall_lt hi (by omega)]
end Go.Th
-- sum c1bbfbae5860d4ee

/- Types in plain words: the canonical text of a type, its tokens, and that they are read back. No program in sight. -/
namespace Go.Th
inductive GoodT : Ty → Prop where
 | name (n : Bytes) (h : kindOf n = 1) : GoodT (nameT n)
 | con (n : Bytes) (az : List Ty) (h : kindOf n = 2) (ha : ∀ a ∈ az, GoodT a) : GoodT (conT n az)
 | arrow (a b : Ty) (ha : GoodT a) (hb : GoodT b) : GoodT (arrowT a b)
def isArrowT (t : Ty) : Bool := decide (t.kind = 4) && decide (t.name = arrowB) && decide (t.args.length = 2)
def parenT (t : Ty) : Bool := decide (t.kind = 4) && decide (0 < t.args.length)
mutual
def showT : Ty → Bytes
 | .mk k n _ _ az => if k = 5 then n else if n = arrowB then showArrow az else n ++ showArgs az
def showArgs : List Ty → Bytes
 | [] => []
 | a :: r => 32 :: ((if parenT a then 40 :: (showT a ++ [41]) else showT a) ++ showArgs r)
def showArrow : List Ty → Bytes
 | [] => []
 | a :: r => (if isArrowT a then 40 :: (showT a ++ [41]) else showT a) ++ showTo r
def showTo : List Ty → Bytes
 | [] => []
 | b :: _ => [32, 45, 62, 32] ++ showT b
end
theorem kts_append (a b : List Bytes) : kts (a ++ b) = kts a ++ kts b := by simp [kts]
def Scans (s : Bytes) (ws : List Bytes) : Prop := ∀ i r us, apart r → (∀ j, okKt (scanFrom j r) us) → okKt (scanFrom i (s ++ r)) (kts ws ++ us)
theorem Scans.word {w : Bytes} (h : kindOf w ≠ 0) : Scans w [w] := fun _ _ _ hr hu => okKt_word h hr (hu _)
theorem Scans.nil : Scans [] [] := fun i _ _ _ hu => hu i
theorem Scans.append {s s' : Bytes} {ws ws' : List Bytes} (h : Scans s ws) (h' : Scans s' ws') (hs : ∀ r, apart r → apart (s' ++ r)) : Scans (s ++ s') (ws ++ ws') := fun i r us hr hu => by
 rw [List.append_assoc, kts_append, List.append_assoc]
 exact h i (s' ++ r) (kts ws' ++ us) (hs r hr) (fun j => h' j r us hr hu)
end Go.Th
-- sum 71503007d4f82c89

/- Expressions in plain words: the canonical text and its tokens. No program in sight. -/
namespace Go.Th
theorem Scans.cons {s : Bytes} {w : Bytes} {ws : List Bytes} (hw : kindOf w ≠ 0) (h : Scans s ws) (hs : ∀ r, apart r → apart (s ++ r)) : Scans (w ++ s) (w :: ws) := Scans.append (ws := [w]) (Scans.word hw) h hs
end Go.Th
-- sum f1b56e408fcda0c1

/- Expressions in plain words: the canonical text's tokens are read back. No program in sight. -/
namespace Go.Th
mutual
def eraseE : Ex → Ex
 | .mk k _ n m ks az t => .mk k 0 n m (eraseEs ks) (eraseAs az) t
def eraseEs : List Ex → List Ex
 | [] => []
 | a :: r => eraseE a :: eraseEs r
def eraseA : Ar → Ar
 | .mk _ c vs b => .mk 0 c vs (eraseE b)
def eraseAs : List Ar → List Ar
 | [] => []
 | a :: r => eraseA a :: eraseAs r
end
end Go.Th
-- sum 4c88bb25711c7818

/- Expressions in plain words: their size; what reads as the same. No program in sight. -/
namespace Go.Th
mutual
def sizeE : Ex → Nat
 | .mk _ _ _ _ ks az _ => 1 + sizeEs ks + sizeAs az
def sizeEs : List Ex → Nat
 | [] => 0
 | a :: r => sizeE a + sizeEs r
def sizeA : Ar → Nat
 | .mk _ _ vs b => 1 + vs.length + sizeE b
def sizeAs : List Ar → Nat
 | [] => 0
 | a :: r => sizeA a + sizeAs r
end
theorem sizeE_pos (e : Ex) : 1 ≤ sizeE e := by cases e; simp only [sizeE]; omega
theorem sizeEs_len : ∀ l : List Ex, l.length ≤ sizeEs l
 | [] => by simp [sizeEs]
 | a :: r => by have := sizeE_pos a; have := sizeEs_len r; simp only [sizeEs, List.length_cons]; omega
theorem sizeAs_len : ∀ l : List Ar, l.length ≤ sizeAs l
 | [] => by simp [sizeAs]
 | .mk _ _ _ _ :: r => by have := sizeAs_len r; simp only [sizeAs, sizeA, List.length_cons]; omega
theorem sizeEs_mem : ∀ {l : List Ex} {a : Ex}, a ∈ l → sizeE a ≤ sizeEs l
 | b :: r, a, h => by
  simp only [sizeEs]
  rcases List.mem_cons.1 h with rfl | h
  ·omega
  ·have := sizeEs_mem h; omega
theorem sizeAs_mem : ∀ {l : List Ar} {a : Ar}, a ∈ l → sizeA a ≤ sizeAs l
 | b :: r, a, h => by
  simp only [sizeAs]
  rcases List.mem_cons.1 h with rfl | h
  ·omega
  ·have := sizeAs_mem h; omega
theorem sizeAs_app : ∀ (x y : List Ar), sizeAs (x ++ y) = sizeAs x + sizeAs y
 | [], y => by simp [sizeAs]
 | a :: x, y => by simp only [List.cons_append, sizeAs, sizeAs_app x y]; omega
def childE (e : Ex) : List Ex := e.kids ++ e.arms.map Ar.body
theorem childE_size {e c : Ex} (h : c ∈ childE e) : sizeE c < sizeE e := by
 cases e with
 | mk k p n m ks az t =>
  simp only [sizeE]
  rcases List.mem_append.1 h with h | h
  ·have := sizeEs_mem h; simp only [Ex.kids] at this; omega
  ·obtain ⟨a, ha, rfl⟩ := List.mem_map.1 h
   have := sizeAs_mem ha
   cases a with
   | mk q c vs b => simp only [sizeA, Ex.arms, Ar.body] at *; omega
theorem childE_len (e : Ex) : (childE e).length ≤ sizeE e := by
 cases e with
 | mk k p n m ks az t =>
  have h1 := sizeEs_len ks
  have h2 := sizeAs_len az
  simp only [childE, Ex.kids, Ex.arms, List.length_append, List.length_map, sizeE]
  omega
theorem eread_size (l : List Tok) : ∀ (N : Nat) (q : EQ) (i : Nat) (e : Ex) (j : Nat), emu l q i < N → eread l q i = .ok (e, j) → match q with
  | .expr => sizeE e + 1 ≤ 2 * (j - i)
  | .atom => sizeE e + 1 ≤ 2 * (j - i)
  | .apps x => sizeE e ≤ sizeE x + 2 * (j - i)
  | .arms _ x acc => sizeE e + 1 ≤ sizeE x + sizeAs acc + 1 + 2 * (j - i)
 | 0, _, _, _, _, h, _ => by omega
 | N + 1, q, i, e, j, hN, h => by
  have ih := eread_size l N
  have hlt : ∀ {i' : Nat} {t : Tok}, l[i']? = some t → i' < l.length := fun h => (List.getElem?_eq_some_iff.1 h).1
  rw [eread_step] at h
  cases q with
  | expr =>
   simp only [estep] at h
   have hlet : ∀ (k p : Int) (i0 : Nat), i < l.length → i < i0 → letStep l (eread l) k p i0 = .ok (e, j) → sizeE e + 1 ≤ 2 * (j - i) := by
    intro k p i0 hi hi0 h
    unfold letStep at h
    split at h
    ·cases h
    ·split at h
     ·split at h
      ·cases h
      ·rename_i a k1 h1
       have g1 := eread_le h1
       have i1 := ih .expr _ _ _ (by simp only [emu, EQ.rank] at *; omega) h1
       split at h
       ·split at h
        ·cases h
        ·rename_i b m h2
         have g2 := eread_le h2
         have i2 := ih .expr _ _ _ (by simp only [emu, EQ.rank] at *; omega) h2
         cases h
         simp only [kidsE, sizeE, sizeEs, sizeAs] at *
         omega
       ·cases h
     ·cases h
   simp only
   split at h
   ·rename_i hm
    have hi := tokAt_lt hm
    split at h
    ·cases h
    ·split at h
     ·split at h
      ·cases h
      ·rename_i b k h1
       have g1 := eread_le h1
       have i1 := ih .expr _ _ _ (by simp only [emu, EQ.rank] at *; omega) h1
       cases h
       simp only [kidsE, sizeE, sizeEs, sizeAs] at *
       omega
     ·cases h
   ·split at h
    ·rename_i hm
     have hi := tokAt_lt hm
     split at h
     ·exact hlet _ _ _ hi (by omega) h
     ·exact hlet _ _ _ hi (by omega) h
    ·split at h
     ·rename_i hm
      have hi := tokAt_lt hm
      split at h
      ·cases h
      ·rename_i x k h1
       have g1 := eread_le h1
       have i1 := ih .expr _ _ _ (by simp only [emu, EQ.rank] at *; omega) h1
       split at h
       ·have g2 := eread_le h
        have i2 := ih (.arms _ _ _) _ _ _ (by simp only [emu, EQ.rank] at *; omega) h
        simp only [sizeAs] at i1 i2
        omega
       ·cases h
     ·split at h
      ·cases h
      ·rename_i x k h1
       have g1 := eread_lt rfl h1
       have i1 := ih .atom _ _ _ (by simp only [emu, EQ.rank] at *; omega) h1
       have g2 := eread_le h
       have i2 := ih (.apps _) _ _ _ (by simp only [emu, EQ.rank] at *; omega) h
       simp only at i1 i2
       omega
  | apps x =>
   simp only [estep] at h
   simp only
   split at h
   ·rename_i hst
    have hi : i < l.length := by
     unfold startsEAt at hst
     split at hst
     ·rename_i ht; exact hlt ht
     ·cases hst
    split at h
    ·cases h
    ·rename_i a k h1
     have g1 := eread_lt rfl h1
     have i1 := ih .atom _ _ _ (by simp only [emu, EQ.rank] at *; omega) h1
     have g2 := eread_le h
     have i2 := ih (.apps _) _ _ _ (by simp only [emu, EQ.rank] at *; omega) h
     simp only [kidsE, sizeE, sizeEs, sizeAs] at *
     omega
   ·cases h; omega
  | arms p x acc =>
   simp only [estep] at h
   simp only
   split at h
   ·cases h
   ·rename_i c hc
    have hi : i < l.length := by
     unfold nameAt at hc
     split at hc
     ·rename_i ht; exact hlt ht
     ·cases hc
    split at h
    ·rename_i hm
     have hlow := tokAt_lt hm
     split at h
     ·cases h
     ·rename_i b k h1
      have g1 := eread_le h1
      have i1 := ih .expr _ _ _ (by simp only [emu, EQ.rank] at *; omega) h1
      split at h
      ·have g2 := eread_le h
       have i2 := ih (.arms _ _ _) _ _ _ (by simp only [emu, EQ.rank] at *; omega) h
       simp only [sizeAs_app, sizeAs, sizeA] at i1 i2
       omega
      ·split at h
       ·cases h
        simp only [caseE, sizeE, sizeEs, sizeAs_app, sizeAs, sizeA] at *
        omega
       ·cases h
    ·cases h
  | atom =>
   simp only [estep] at h
   simp only
   split at h
   ·cases h
   ·rename_i t ht
    have hi := hlt ht
    split at h
    ·cases h; simp [leafE, sizeE, sizeEs, sizeAs]
    ·split at h
     ·cases h; simp [leafE, sizeE, sizeEs, sizeAs]
     ·split at h
      ·cases h; simp [leafE, sizeE, sizeEs, sizeAs]
      ·split at h
       ·cases h; simp [leafE, sizeE, sizeEs, sizeAs]
       ·split at h
        ·split at h
         ·cases h
         ·rename_i x k h1
          have g1 := eread_le h1
          have i1 := ih .expr _ _ _ (by simp only [emu, EQ.rank] at *; omega) h1
          split at h
          ·cases h
           simp only [kidsE, sizeE, sizeEs, sizeAs] at *
           omega
          ·cases h
        ·split at h
         ·split at h
          ·cases h
          ·rename_i x k h1
           have g1 := eread_le h1
           have i1 := ih .expr _ _ _ (by simp only [emu, EQ.rank] at *; omega) h1
           simp only at i1
           split at h
           ·split at h
            ·cases h
            ·rename_i y k2 h2
             have g2 := tread_prog l _ _ _ _ (Nat.lt_succ_self _) h2
             simp only at g2
             split at h
             ·cases h
              simp only [annE, sizeE, sizeEs, sizeAs] at *
              omega
             ·cases h
           ·split at h
            ·cases h; omega
            ·cases h
         ·cases h
end Go.Th
-- sum 5cb40471805d6c70


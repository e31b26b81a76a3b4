/- Plain law: what the reference of chapter 2 computes, on lists of bytes. No program in sight. -/
namespace Go.Th
abbrev Bytes := List UInt8

structure Tok where
  kind : Int
  text : Bytes
  pos : Int

def lower (c : UInt8) : Bool := decide (97 ≤ c.toNat) && decide (c.toNat ≤ 122)
def upper (c : UInt8) : Bool := decide (65 ≤ c.toNat) && decide (c.toNat ≤ 90)
def digit (c : UInt8) : Bool := decide (48 ≤ c.toNat) && decide (c.toNat ≤ 57)
def inner (c : UInt8) : Bool := lower c || upper c || digit c || decide (c.toNat = 95)
def isWord (s : Bytes) : Bool := s.all inner && !s.isEmpty
def keywords : List Bytes := [[100, 97, 116, 97], [108, 101, 116], [114, 101, 99], [105, 110], [99, 97, 115, 101], [111, 102], [101, 110, 100]]
def isKeyword (s : Bytes) : Bool := decide (s ∈ keywords)
def isLower (s : Bytes) : Bool := isWord s && lower (s.headD 0) && decide (s.length ≤ 12) && !isKeyword s
def isUpper (s : Bytes) : Bool := isWord s && upper (s.headD 0) && decide (s.length ≤ 12)
def isInteger (s : Bytes) : Bool := !s.isEmpty && decide (s.length ≤ 9) && !(decide ((s.headD 0).toNat = 48) && decide (1 < s.length)) && s.all digit
def markBytes : Bytes := [92, 46, 61, 59, 58, 124, 40, 41, 123, 125, 63]
def isMark (s : Bytes) : Bool := decide (s = [45, 62]) || markBytes.any fun c => decide (s = [c])
def kindOf (s : Bytes) : Int := if isKeyword s then 4 else if isLower s then 1 else if isUpper s then 2 else if isInteger s then 3 else if isMark s then 5 else 0

def white (c : UInt8) : Bool := decide (c.toNat = 32) || decide (c.toNat = 9) || decide (c.toNat = 13) || decide (c.toNat = 10)

/-- How many bytes the comment at the head of a text takes. -/
def commentLen : Bytes → Nat
  | [] => 0
  | c :: r => if c.toNat = 10 then 0 else commentLen r + 1
def wordLen : Bytes → Nat
  | [] => 0
  | c :: r => if inner c then wordLen r + 1 else 0
/-- How many bytes the token at the head takes (at least one). -/
def tokLen : Bytes → Nat
  | [] => 0
  | c :: r => if inner c then wordLen r + 1 else if c.toNat = 45 then (match r with | x :: _ => if x.toNat = 62 then 2 else 1 | [] => 1) else 1

/-- The tokens from an offset on, or the offset of the first byte that begins none. -/
def scanGo : Nat → Nat → Bytes → Except Nat (List Tok)
  | 0, _, _ => .ok []
  | _ + 1, _, [] => .ok []
  | f + 1, i, c :: r =>
    if white c then scanGo f (i + 1) r
    else if c.toNat = 35 then scanGo f (i + commentLen (c :: r)) ((c :: r).drop (commentLen (c :: r)))
    else if kindOf ((c :: r).take (tokLen (c :: r))) = 0 then .error i
    else match scanGo f (i + tokLen (c :: r)) ((c :: r).drop (tokLen (c :: r))) with
      | .error e => .error e
      | .ok l => .ok (⟨kindOf ((c :: r).take (tokLen (c :: r))), (c :: r).take (tokLen (c :: r)), i⟩ :: l)

inductive Scanned where
  | ok (l : List Tok)
  | bad (err pos : Int)

def scan (s : Bytes) : Scanned :=
  if 4000 < s.length then .bad 1 0 else match scanGo s.length 0 s with
    | .ok l => .ok l
    | .error p => .bad 2 p

def validTok (t : Tok) : Bool := decide (1 ≤ t.kind) && decide (t.kind ≤ 5) && decide (kindOf t.text = t.kind) && decide (0 ≤ t.pos) && decide (t.pos < 4000)

theorem commentLen_le : ∀ s : Bytes, commentLen s ≤ s.length
  | [] => Nat.le_refl 0
  | c :: r => by have := commentLen_le r; simp only [commentLen]; split <;> simp <;> omega
theorem wordLen_le : ∀ s : Bytes, wordLen s ≤ s.length
  | [] => Nat.le_refl 0
  | c :: r => by have := wordLen_le r; simp only [wordLen]; split <;> simp <;> omega
theorem tokLen_le : ∀ s : Bytes, tokLen s ≤ s.length
  | [] => Nat.le_refl 0
  | c :: r => by
    have := wordLen_le r
    simp only [tokLen]
    split
    · simp; omega
    · split
      · cases r with
        | nil => simp
        | cons x l => simp only; split <;> simp
      · simp
theorem tokLen_pos (c : UInt8) (r : Bytes) : 1 ≤ tokLen (c :: r) := by
  simp only [tokLen]
  split
  · omega
  · split
    · cases r with
      | nil => simp
      | cons x l => simp only; split <;> omega
    · omega
theorem commentLen_pos {c : UInt8} (r : Bytes) (h : c.toNat = 35) : 1 ≤ commentLen (c :: r) := by
  simp only [commentLen]
  rw [if_neg (by omega)]
  omega

/-- The fuel plays no part as long as it suffices. -/
theorem scanGo_fuel : ∀ (f f' i : Nat) (s : Bytes), s.length ≤ f → s.length ≤ f' → scanGo f i s = scanGo f' i s := by
  intro f
  induction f with
  | zero =>
    intro f' i s h _
    have : s = [] := List.eq_nil_of_length_eq_zero (by omega)
    subst this
    cases f' <;> simp [scanGo]
  | succ f ih =>
    intro f' i s h h'
    cases s with
    | nil => cases f' <;> simp [scanGo]
    | cons c r =>
      cases f' with
      | zero => simp at h'
      | succ f' =>
        simp only [List.length_cons] at h h'
        simp only [scanGo]
        have h1 := tokLen_pos c r
        split
        · exact ih _ _ _ (by omega) (by omega)
        · split
          · rename_i hc
            have h2 := commentLen_pos r hc
            exact ih _ _ _ (by simp only [List.length_drop, List.length_cons]; omega) (by simp only [List.length_drop, List.length_cons]; omega)
          · rw [ih f' (i + tokLen (c :: r)) ((c :: r).drop (tokLen (c :: r))) (by simp only [List.length_drop, List.length_cons]; omega) (by simp only [List.length_drop, List.length_cons]; omega)]

/-- The tokens of what is left behind an offset. -/
def scanFrom (i : Nat) (s : Bytes) : Except Nat (List Tok) := scanGo s.length i s
theorem scanFrom_nil (i : Nat) : scanFrom i [] = .ok [] := rfl
theorem scanFrom_white {c : UInt8} {r : Bytes} (i : Nat) (h : white c = true) : scanFrom i (c :: r) = scanFrom (i + 1) r := by
  simp [scanFrom, scanGo, h]
theorem scanFrom_comment {c : UInt8} {r : Bytes} (i : Nat) (h : white c = false) (h' : c.toNat = 35) : scanFrom i (c :: r) = scanFrom (i + commentLen (c :: r)) ((c :: r).drop (commentLen (c :: r))) := by
  have := commentLen_pos r h'
  simp only [scanFrom, List.length_cons, scanGo, h, Bool.false_eq_true, if_false, h', if_true]
  exact scanGo_fuel _ _ _ _ (by simp only [List.length_drop, List.length_cons]; omega) (by simp only [List.length_drop, List.length_cons]; omega)
theorem scanFrom_bad {c : UInt8} {r : Bytes} (i : Nat) (h : white c = false) (h' : c.toNat ≠ 35) (hk : kindOf ((c :: r).take (tokLen (c :: r))) = 0) : scanFrom i (c :: r) = .error i := by
  simp [scanFrom, scanGo, h, h', hk]
theorem scanFrom_tok {c : UInt8} {r : Bytes} (i : Nat) (h : white c = false) (h' : c.toNat ≠ 35) (hk : kindOf ((c :: r).take (tokLen (c :: r))) ≠ 0) :
    scanFrom i (c :: r) = match scanFrom (i + tokLen (c :: r)) ((c :: r).drop (tokLen (c :: r))) with
      | .error e => .error e
      | .ok l => .ok (⟨kindOf ((c :: r).take (tokLen (c :: r))), (c :: r).take (tokLen (c :: r)), i⟩ :: l) := by
  have := tokLen_pos c r
  simp only [scanFrom, List.length_cons, scanGo, h, Bool.false_eq_true, if_false, h', hk]
  rw [scanGo_fuel r.length ((c :: r).drop (tokLen (c :: r))).length _ _ (by simp only [List.length_drop, List.length_cons]; omega) (Nat.le_refl _)]
end Go.Th
-- sum 6c34397b2c3ebfcc

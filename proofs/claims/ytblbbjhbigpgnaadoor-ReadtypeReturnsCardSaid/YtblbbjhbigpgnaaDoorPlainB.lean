/- Plain law, second part: the scanner as loops see it. -/
import Derived.Test.YtblbbjhbigpgnaaDoorPlain
namespace Go.Th

/-- What is in front of the rest. -/
def pre (l : List Tok) : Except Nat (List Tok) → Except Nat (List Tok)
  | .ok r => .ok (l ++ r)
  | .error e => .error e
theorem pre_nil (r : Except Nat (List Tok)) : pre [] r = r := by cases r <;> rfl
theorem pre_tok {l : List Tok} {t : Tok} (r : Except Nat (List Tok)) : pre l (match r with | .error e => .error e | .ok x => .ok (t :: x)) = pre (l ++ [t]) r := by
  cases r <;> simp [pre]

theorem drop_cons {s : Bytes} {k : Nat} (h : k < s.length) : s.drop k = s[k] :: s.drop (k + 1) := List.drop_eq_getElem_cons h
theorem commentLen_step {s : Bytes} {k : Nat} (h : k < s.length) (hn : s[k].toNat ≠ 10) : commentLen (s.drop k) = commentLen (s.drop (k + 1)) + 1 := by
  rw [drop_cons h, commentLen, if_neg hn]
theorem commentLen_stop {s : Bytes} {k : Nat} (h : k < s.length) (hn : s[k].toNat = 10) : commentLen (s.drop k) = 0 := by
  rw [drop_cons h, commentLen, if_pos hn]
theorem commentLen_end {s : Bytes} {k : Nat} (h : s.length ≤ k) : commentLen (s.drop k) = 0 := by
  rw [List.drop_eq_nil_of_le h]; rfl
theorem wordLen_step {s : Bytes} {k : Nat} (h : k < s.length) (hn : inner s[k] = true) : wordLen (s.drop k) = wordLen (s.drop (k + 1)) + 1 := by
  rw [drop_cons h, wordLen, if_pos hn]
theorem wordLen_stop {s : Bytes} {k : Nat} (h : k < s.length) (hn : inner s[k] = false) : wordLen (s.drop k) = 0 := by
  rw [drop_cons h, wordLen, hn]; rfl
theorem wordLen_end {s : Bytes} {k : Nat} (h : s.length ≤ k) : wordLen (s.drop k) = 0 := by
  rw [List.drop_eq_nil_of_le h]; rfl
theorem piece_eq (s : Bytes) (i n : Nat) : (s.take (i + n)).drop i = (s.drop i).take n := by
  rw [List.drop_take]; congr 1; omega

theorem tokLen_cons (c : UInt8) (r : Bytes) : tokLen (c :: r) = if inner c then wordLen r + 1 else if c.toNat = 45 then (match r with | x :: _ => if x.toNat = 62 then 2 else 1 | [] => 1) else 1 := by cases r <;> rfl
theorem tokLen_word {s : Bytes} {i : Nat} (h : i < s.length) (hn : inner s[i] = true) : tokLen (s.drop i) = wordLen (s.drop (i + 1)) + 1 := by
  rw [drop_cons h, tokLen_cons, if_pos hn]
theorem tokLen_arrow {s : Bytes} {i : Nat} (h : i + 1 < s.length) (hn : inner s[i] = false) (h1 : s[i].toNat = 45) (h2 : s[i + 1].toNat = 62) : tokLen (s.drop i) = 2 := by
  rw [drop_cons (by omega), drop_cons h, tokLen_cons, if_neg (by simp [hn]), if_pos h1]
  simp [h2]
theorem tokLen_one {s : Bytes} {i : Nat} (h : i < s.length) (hn : inner s[i] = false) (h1 : s[i].toNat = 45 → ∀ h2 : i + 1 < s.length, s[i + 1].toNat ≠ 62) : tokLen (s.drop i) = 1 := by
  rw [drop_cons h, tokLen_cons, if_neg (by simp [hn])]
  split
  · rename_i h45
    by_cases hl : i + 1 < s.length
    · rw [drop_cons hl]
      simp only
      rw [if_neg (h1 h45 hl)]
    · rw [List.drop_eq_nil_of_le (by omega)]
  · rfl

theorem scan_white {s : Bytes} {i : Nat} (h : i < s.length) (hw : white s[i] = true) : scanFrom i (s.drop i) = scanFrom (i + 1) (s.drop (i + 1)) := by
  rw [drop_cons h]; exact scanFrom_white i hw
theorem scan_comment {s : Bytes} {i : Nat} (h : i < s.length) (hw : white s[i] = false) (hc : s[i].toNat = 35) : scanFrom i (s.drop i) = scanFrom (i + commentLen (s.drop i)) (s.drop (i + commentLen (s.drop i))) := by
  have := scanFrom_comment (r := s.drop (i + 1)) i hw hc
  rw [← drop_cons h] at this
  rw [this, List.drop_drop]
theorem scan_bad {s : Bytes} {i : Nat} (h : i < s.length) (hw : white s[i] = false) (hc : s[i].toNat ≠ 35) (hk : kindOf ((s.drop i).take (tokLen (s.drop i))) = 0) : scanFrom i (s.drop i) = .error i := by
  have := scanFrom_bad (r := s.drop (i + 1)) i hw hc
  rw [← drop_cons h] at this
  exact this hk
theorem scan_tok {s : Bytes} {i : Nat} (h : i < s.length) (hw : white s[i] = false) (hc : s[i].toNat ≠ 35) (hk : kindOf ((s.drop i).take (tokLen (s.drop i))) ≠ 0) (l : List Tok) :
    pre l (scanFrom i (s.drop i)) = pre (l ++ [⟨kindOf ((s.drop i).take (tokLen (s.drop i))), (s.drop i).take (tokLen (s.drop i)), i⟩]) (scanFrom (i + tokLen (s.drop i)) (s.drop (i + tokLen (s.drop i)))) := by
  have := scanFrom_tok (r := s.drop (i + 1)) i hw hc
  rw [← drop_cons h] at this
  rw [this hk, List.drop_drop]
  generalize scanFrom (i + tokLen (s.drop i)) (s.drop (i + tokLen (s.drop i))) = r
  cases r <;> simp [pre]
theorem scan_of {s : Bytes} (h : s.length ≤ 4000) : scan s = match scanFrom 0 (s.drop 0) with | .ok l => .ok l | .error p => .bad 2 p := by
  simp only [scan, scanFrom, Nat.not_lt.2 h, if_false, List.drop_zero]
  generalize scanGo s.length 0 s = r
  cases r <;> rfl
end Go.Th
-- sum e843d4970a90764d

/- Chapter 37 in plain words: numbers, words, what a command's text is read as, what is written for a command; each undoes the other. -/
import Derived.Test.YtogmbpepdemdkaaDoorTextF
import Derived.Lib.AtoiAllCases
namespace Go.Proofs.YtogmbpepdemdkaaDoor
open Go Go.Eng Go.Proofs
def isDig (c : UInt8) : Bool := decide (48 ≤ c.toNat) && decide (c.toNat ≤ 57)
def decV (acc : Nat) : Bytes → Nat
  | [] => acc
  | c :: r => decV (10 * acc + (c.toNat - 48)) r
def numOf (w : Bytes) : Option Nat := if w = [] ∨ 6 < w.length ∨ (w.headD 0 = 48 ∧ 1 < w.length) ∨ ¬ (w.all isDig = true) then none else some (decV 0 w)
theorem decV_nil (acc : Nat) : decV acc [] = acc := by delta decV; rfl
theorem decV_cons (acc : Nat) (c : UInt8) (r : Bytes) : decV acc (c :: r) = decV (10 * acc + (c.toNat - 48)) r := by delta decV; rfl
theorem decV_snoc (w : Bytes) : ∀ (acc : Nat) (c : UInt8), decV acc (w ++ [c]) = 10 * decV acc w + (c.toNat - 48) := by
  induction w with
  | nil => intro acc c; rw [List.nil_append, decV_cons, decV_nil, decV_nil]
  | cons x r ih => intro acc c; rw [List.cons_append, decV_cons, decV_cons]; exact ih _ c
theorem decV_lt : ∀ (w : Bytes) (acc : Nat), w.all isDig = true → decV acc w < (acc + 1) * 10 ^ w.length
  | [], acc, _ => by rw [decV_nil]; simp
  | c :: r, acc, h => by
    simp only [List.all_cons, Bool.and_eq_true, isDig, decide_eq_true_eq] at h
    have ih := decV_lt r (10 * acc + (c.toNat - 48)) h.2
    simp only [decV_cons, List.length_cons, Nat.pow_succ]
    refine Nat.lt_of_lt_of_le ih ?_
    rw [show (acc + 1) * (10 ^ r.length * 10) = (acc + 1) * 10 * 10 ^ r.length by rw [Nat.mul_assoc, Nat.mul_comm 10]]
    exact Nat.mul_le_mul_right _ (by omega)
theorem decV_ge : ∀ (w : Bytes) (acc : Nat), acc ≤ decV acc w
  | [], acc => by rw [decV_nil]; exact Nat.le_refl _
  | c :: r, acc => by rw [decV_cons]; exact Nat.le_trans (by omega) (decV_ge r (10 * acc + (c.toNat - 48)))
theorem dig_back {c : UInt8} (h : isDig c = true) : UInt8.ofNat (48 + (c.toNat - 48)) = c := by
  simp only [isDig, Bool.and_eq_true, decide_eq_true_eq] at h
  rw [show 48 + (c.toNat - 48) = c.toNat by omega]; simp
theorem dec_decV : ∀ (k : Nat) (w : Bytes), w.length = k + 1 → w.all isDig = true → w.headD 0 ≠ 48 → Lib.decDigits (decV 0 w) = w ∧ 0 < decV 0 w
  | 0, w, hk, hd, hh => by
    match w, hk with
    | [c], _ =>
      simp only [List.all_cons, List.all_nil, Bool.and_true] at hd
      have hb := dig_back hd
      simp only [List.headD_cons] at hh
      have hne : c.toNat ≠ 48 := fun h => hh (UInt8.toNat_inj.1 h)
      simp only [isDig, Bool.and_eq_true, decide_eq_true_eq] at hd
      simp only [decV_cons, decV_nil]
      rw [dec_small (by omega)]
      exact ⟨by rw [show 48 + (10 * 0 + (c.toNat - 48)) = 48 + (c.toNat - 48) by omega, hb], by omega⟩
  | k + 1, w, hk, hd, hh => by
    obtain ⟨u, c, rfl⟩ : ∃ u c, w = u ++ [c] := ⟨w.dropLast, w.getLast (by intro h; subst h; simp at hk), (List.dropLast_concat_getLast _).symm⟩
    have hu : u.length = k + 1 := by simpa using hk
    simp only [List.all_append, Bool.and_eq_true, List.all_cons, List.all_nil, Bool.and_true] at hd
    have hhu : u.headD 0 ≠ 48 := by
      cases u with
      | nil => simp at hu
      | cons x r => simpa using hh
    obtain ⟨h1, h2⟩ := dec_decV k u hu hd.1 hhu
    have hb := dig_back hd.2
    have hd2 := hd.2
    simp only [isDig, Bool.and_eq_true, decide_eq_true_eq] at hd2
    rw [decV_snoc]
    refine ⟨?_, by omega⟩
    rw [dec_big (by omega), show (10 * decV 0 u + (c.toNat - 48)) / 10 = decV 0 u by omega, show (10 * decV 0 u + (c.toNat - 48)) % 10 = c.toNat - 48 by omega, h1, hb]
theorem parse_dec : ∀ (w : Bytes) (acc : Nat), w.all isDig = true → (acc + 1) * 10 ^ w.length ≤ 10000000 → Lib.parseUint10 acc w = .ok (decV acc w)
  | [], acc, _, _ => rfl
  | c :: r, acc, h, hb => by
    simp only [List.all_cons, Bool.and_eq_true] at h
    have h1 := h.1
    simp only [isDig, Bool.and_eq_true, decide_eq_true_eq] at h1
    simp only [List.length_cons, Nat.pow_succ] at hb
    have hp : 1 ≤ 10 ^ r.length := Nat.pos_of_ne_zero (by simp)
    have hb2 : (acc + 1) * 10 * 10 ^ r.length ≤ 10000000 := by rw [Nat.mul_assoc, Nat.mul_comm 10]; exact hb
    have hb3 : (acc + 1) * 10 ≤ 10000000 := Nat.le_trans (Nat.le_mul_of_pos_right _ hp) hb2
    simp only [Lib.parseUint10, h1, and_self, if_true, decV_cons]
    rw [if_neg (by omega), if_neg (by omega), show acc * 10 + (c.toNat - 48) = 10 * acc + (c.toNat - 48) by omega]
    refine parse_dec r _ h.2 (Nat.le_trans (Nat.mul_le_mul_right _ ?_) hb2)
    omega
theorem numOf_some {w : Bytes} {n : Nat} (h : numOf w = some n) : n ≤ 999999 ∧ Lib.decDigits n = w ∧ Lib.atoiAll w = .ok (n : Int) := by
  unfold numOf at h
  split at h
  · cases h
  · rename_i hc
    simp only [not_or, Decidable.not_not, Nat.not_lt, not_and] at hc
    obtain ⟨h1, h2, h3, h4⟩ := hc
    simp only [Option.some.injEq] at h
    subst h
    have hlt := decV_lt w 0 h4
    have hpw : 10 ^ w.length ≤ 10 ^ 6 := Nat.pow_le_pow_right (by decide) h2
    have hpar := parse_dec w 0 h4 (by omega)
    refine ⟨by omega, ?_, ?_⟩
    · by_cases h48 : w.headD 0 = 48
      · have hl := h3 h48
        match w, h1, hl with
        | [c], _, _ =>
          simp only [List.headD_cons] at h48
          subst h48
          exact dec_small (by decide)
      · refine (dec_decV (w.length - 1) w ?_ h4 h48).1
        have := List.length_pos_iff.2 h1
        omega
    · match w, h1, h4 with
      | c :: r, _, h4 =>
        have hc : isDig c = true := by simp only [List.all_cons, Bool.and_eq_true] at h4; exact h4.1
        simp only [isDig, Bool.and_eq_true, decide_eq_true_eq] at hc
        rw [Lib.atoiAll_plain c r (by omega) (by omega), Lib.parseMag, if_neg (by simp), hpar]
        simp only [Lib.signless]
        rw [if_neg (by omega)]
theorem dec_facts : ∀ (k n : Nat), n < k → (Lib.decDigits n).all isDig = true ∧ decV 0 (Lib.decDigits n) = n ∧ Lib.decDigits n ≠ [] ∧ (n ≠ 0 → (Lib.decDigits n).headD 0 ≠ 48)
  | 0, n, h => by omega
  | k + 1, n, h => by
    have hdig : ∀ d : Nat, d < 10 → isDig (UInt8.ofNat (48 + d)) = true ∧ (UInt8.ofNat (48 + d)).toNat = 48 + d := by
      have : ∀ d : Fin 10, isDig (UInt8.ofNat (48 + d.val)) = true ∧ (UInt8.ofNat (48 + d.val)).toNat = 48 + d.val := by decide
      exact fun d hd => this ⟨d, hd⟩
    by_cases hn : n < 10
    · obtain ⟨h1, h2⟩ := hdig n hn
      rw [dec_small hn]
      refine ⟨by simp only [List.all_cons, List.all_nil, Bool.and_true, h1], by simp only [decV_cons, decV_nil, h2]; omega, List.cons_ne_nil _ _, fun h0 h => ?_⟩
      simp only [List.headD_cons] at h
      have := congrArg UInt8.toNat h
      rw [h2] at this
      simp at this
      exact h0 this
    · obtain ⟨h1, h2⟩ := hdig (n % 10) (by omega)
      obtain ⟨a1, a2, a3, a4⟩ := dec_facts k (n / 10) (by omega)
      rw [dec_big hn]
      refine ⟨by rw [List.all_append, a1]; simp only [List.all_cons, List.all_nil, Bool.and_true, h1], by rw [decV_snoc, a2, h2]; omega, by simp, fun _ => ?_⟩
      have := a4 (by omega)
      cases hq : Lib.decDigits (n / 10) with
      | nil => exact absurd hq a3
      | cons x r => rw [hq] at this; simpa using this
theorem numOf_dec {n : Nat} (h : n ≤ 999999) : numOf (Lib.decDigits n) = some n := by
  obtain ⟨h1, h2, h3, h4⟩ := dec_facts (n + 1) n (by omega)
  have hl := dec_len 5 n (by omega)
  unfold numOf
  rw [if_neg, h2]
  simp only [not_or, Decidable.not_not, Nat.not_lt, not_and]
  refine ⟨h3, by omega, fun hh => ?_, h1⟩
  by_cases h0 : n = 0
  · subst h0; rw [dec_small (by decide)]; simp
  · exact absurd hh (h4 h0)
theorem itoa_nat (n : Nat) : Lib.itoa (n : Int) = Lib.decDigits n := by
  unfold Lib.itoa; rw [if_neg (by omega)]; simp
theorem dec_no32 (n : Nat) : ∀ c ∈ Lib.decDigits n, c ≠ 32 := by
  obtain ⟨h1, _⟩ := dec_facts (n + 1) n (by omega)
  intro c hc h
  subst h
  have := List.all_eq_true.1 h1 _ hc
  revert this; decide
/-- The first word, and what is behind the space. -/
def cutSp : Bytes → Bytes × Option Bytes
  | [] => ([], none)
  | x :: r => if x = 32 then ([], some r) else (x :: (cutSp r).1, (cutSp r).2)
def tailO : Option Bytes → Bytes
  | none => []
  | some t => 32 :: t
theorem tailO_some (t : Bytes) : tailO (some t) = 32 :: t := rfl
theorem cut_glue : ∀ s : Bytes, s = (cutSp s).1 ++ tailO (cutSp s).2
  | [] => rfl
  | x :: r => by
    have ih := cut_glue r
    by_cases h : x = 32
    · simp [cutSp, h, tailO]
    · simp only [cutSp, h, if_false, List.cons_append]
      rw [← ih]
theorem cut_of : ∀ (a : Bytes) (r : Option Bytes), (∀ c ∈ a, c ≠ 32) → cutSp (a ++ tailO r) = (a, r)
  | [], none, _ => rfl
  | [], some t, _ => by simp [tailO, cutSp]
  | x :: a, r, h => by
    have ih := cut_of a r (fun c hc => h c (List.mem_cons_of_mem _ hc))
    have hx := h x (by simp)
    simp [cutSp, hx, ih]
structure Form where
  word : Bytes
  kind : Int
  cnt : Nat
  txt : Bool
deriving DecidableEq
structure Cmd where
  kind : Int
  nums : List Int
  text : Bytes
def formList : List Form := [⟨[108, 111, 97, 100], 1, 0, true⟩, ⟨[116, 121, 112, 101, 115], 2, 0, false⟩, ⟨[104, 111, 108, 101, 115], 3, 0, false⟩, ⟨[115, 121, 110, 116, 104], 4, 3, false⟩, ⟨[102, 105, 108, 108], 5, 2, false⟩, ⟨[112, 117, 116], 6, 1, true⟩,
  ⟨[109, 111, 118, 101, 115], 7, 1, false⟩, ⟨[109, 111, 118, 101], 8, 2, false⟩, ⟨[114, 117, 110], 9, 1, false⟩, ⟨[117, 110, 100, 111], 10, 0, false⟩, ⟨[112, 114, 105, 110, 116], 11, 0, false⟩]
def takeNums : Nat → Option Bytes → Option (List Int × Option Bytes)
  | 0, r => some ([], r)
  | _ + 1, none => none
  | k + 1, some r => match numOf (cutSp r).1 with
    | none => none
    | some n => match takeNums k (cutSp r).2 with
      | none => none
      | some (l, r') => some ((n : Int) :: l, r')
def endForm (f : Form) (l : List Int) : Option Bytes → Option Cmd
  | none => if f.txt then none else some ⟨f.kind, l, []⟩
  | some t => if f.txt then (if t = [] then none else some ⟨f.kind, l, t⟩) else none
def parseForm (f : Form) (r : Option Bytes) : Option Cmd := match takeNums f.cnt r with
  | none => none
  | some (l, r') => endForm f l r'
def formOf (w : Bytes) : Option Form := formList.find? fun f => f.word = w
def parseCmd (s : Bytes) : Option Cmd := if 4100 < s.length then none else match formOf (cutSp s).1 with
  | none => none
  | some f => parseForm f (cutSp s).2
def numsText : List Int → Bytes
  | [] => []
  | n :: r => 32 :: (Lib.itoa n ++ numsText r)
def textOf (f : Form) (c : Cmd) : Bytes := f.word ++ numsText c.nums ++ (if f.txt then 32 :: c.text else [])
def formatForm (f : Form) (c : Cmd) : Option Bytes := if c.nums.length ≠ f.cnt ∨ decide (c.text ≠ []) ≠ f.txt then none else
  if ∀ n ∈ c.nums, 0 ≤ n ∧ n ≤ 999999 then (if (textOf f c).length ≤ 4100 then some (textOf f c) else none) else none
def kindForm (k : Int) : Option Form := formList.find? fun f => f.kind = k
def formatCmd (c : Cmd) : Option Bytes := match kindForm c.kind with
  | none => none
  | some f => formatForm f c
theorem form_facts : ∀ f ∈ formList, formOf f.word = some f ∧ kindForm f.kind = some f ∧ (∀ c ∈ f.word, c ≠ 32) ∧ f.word ≠ [] ∧ f.cnt ≤ 3 ∧ f.word.length ≤ 5 := by decide
theorem formOf_mem {w : Bytes} {f : Form} (h : formOf w = some f) : f ∈ formList ∧ f.word = w := ⟨List.mem_of_find?_eq_some h, by simpa using List.find?_some h⟩
theorem kindForm_mem {k : Int} {f : Form} (h : kindForm k = some f) : f ∈ formList ∧ f.kind = k := ⟨List.mem_of_find?_eq_some h, by simpa using List.find?_some h⟩
theorem takeNums_some : ∀ {k : Nat} {r : Option Bytes} {l : List Int} {r' : Option Bytes}, takeNums k r = some (l, r') → tailO r = numsText l ++ tailO r' ∧ l.length = k ∧ ∀ n ∈ l, 0 ≤ n ∧ n ≤ 999999
  | 0, r, l, r', h => by simp only [takeNums, Option.some.injEq, Prod.mk.injEq] at h; obtain ⟨rfl, rfl⟩ := h; simp [numsText]
  | k + 1, none, l, r', h => by simp [takeNums] at h
  | k + 1, some t, l, r', h => by
    simp only [takeNums] at h
    split at h
    · cases h
    · rename_i n hn
      split at h
      · cases h
      · rename_i l0 r0 h0
        simp only [Option.some.injEq, Prod.mk.injEq] at h
        obtain ⟨rfl, rfl⟩ := h
        obtain ⟨h1, h2, h3⟩ := takeNums_some h0
        obtain ⟨n1, n2, n3⟩ := numOf_some hn
        refine ⟨?_, by simp [h2], ?_⟩
        · rw [tailO_some, numsText, itoa_nat, n2, List.cons_append, List.append_assoc, ← h1, ← cut_glue]
        · intro m hm
          rcases List.mem_cons.1 hm with rfl | hm
          · omega
          · exact h3 m hm
theorem format_parse {x : Bytes} {c : Cmd} (h : parseCmd x = some c) : formatCmd c = some x := by
  unfold parseCmd at h
  split at h
  · cases h
  · rename_i hlen
    split at h
    · cases h
    · rename_i f hf
      obtain ⟨hm, hw⟩ := formOf_mem hf
      obtain ⟨h1, h2, h3, _⟩ := form_facts f hm
      unfold parseForm at h
      split at h
      · cases h
      · rename_i l r' ht
        obtain ⟨t1, t2, t3⟩ := takeNums_some ht
        have hx := cut_glue x
        rw [t1, ← hw] at hx
        unfold endForm at h
        have key : c.kind = f.kind ∧ c.nums = l ∧ decide (c.text ≠ []) = f.txt ∧ (if f.txt = true then 32 :: c.text else []) = tailO r' := by
          split at h
          · split at h
            · cases h
            · rename_i hx
              simp only [Option.some.injEq] at h
              subst h
              simp [tailO, hx]
          · split at h
            · rename_i hx
              split at h
              · cases h
              · rename_i hne
                simp only [Option.some.injEq] at h
                subst h
                simp [tailO, hx, hne]
            · cases h
        obtain ⟨k1, k2, k3, k4⟩ := key
        unfold formatCmd
        rw [k1, h2]
        simp only
        unfold formatForm
        have htx : textOf f c = x := by
          unfold textOf
          rw [k2, k4, List.append_assoc]; exact hx.symm
        rw [if_neg (by rw [k2, k3]; simp [t2]), if_pos (by rw [k2]; exact t3), htx, if_pos (by omega)]
def mkNums : List Int → Option Bytes → Option Bytes
  | [], r => r
  | n :: l, r => some (Lib.itoa n ++ tailO (mkNums l r))
theorem mkNums_tail : ∀ (l : List Int) (r : Option Bytes), tailO (mkNums l r) = numsText l ++ tailO r
  | [], r => rfl
  | n :: l, r => by rw [mkNums, tailO_some, numsText, mkNums_tail l r, List.cons_append, List.append_assoc]
theorem takeNums_mk : ∀ (l : List Int) (r : Option Bytes), (∀ n ∈ l, 0 ≤ n ∧ n ≤ 999999) → takeNums l.length (mkNums l r) = some (l, r)
  | [], r, _ => rfl
  | n :: l, r, h => by
    have ih := takeNums_mk l r (fun m hm => h m (List.mem_cons_of_mem _ hm))
    have hn := h n (by simp)
    obtain ⟨k, rfl⟩ : ∃ k : Nat, n = k := ⟨n.toNat, by omega⟩
    simp only [mkNums, List.length_cons, takeNums]
    rw [itoa_nat, cut_of _ _ (dec_no32 k), numOf_dec (by omega)]
    simp only
    rw [ih]
theorem parse_format {c : Cmd} {t : Bytes} (h : formatCmd c = some t) : parseCmd t = some c := by
  unfold formatCmd at h
  split at h
  · cases h
  · rename_i f hf
    obtain ⟨hm, hk⟩ := kindForm_mem hf
    obtain ⟨h1, h2, h3, _⟩ := form_facts f hm
    unfold formatForm at h
    split at h
    · cases h
    · rename_i hc
      simp only [not_or, Decidable.not_not] at hc
      split at h
      · rename_i hall
        split at h
        · rename_i hlen
          simp only [Option.some.injEq] at h
          subst h
          have hl4 : ¬ 4100 < (textOf f c).length := by omega
          have htx : textOf f c = f.word ++ tailO (mkNums c.nums (if f.txt then some c.text else none)) := by
            unfold textOf
            rw [mkNums_tail, List.append_assoc]
            cases f.txt <;> rfl
          unfold parseCmd
          rw [if_neg hl4, htx, cut_of _ _ h3]
          simp only
          rw [h1]
          simp only
          unfold parseForm
          rw [← hc.1, takeNums_mk _ _ hall]
          simp only
          have h5 := hc.2
          cases hx : f.txt with
          | true =>
            rw [hx] at h5
            simp only [ne_eq, decide_eq_true_eq] at h5
            simp [endForm, hx, h5, hk]
          | false =>
            rw [hx] at h5
            simp only [ne_eq, decide_eq_false_iff_not, Decidable.not_not] at h5
            simp only [endForm, hx, Bool.false_eq_true, if_false, hk]
            rw [← h5]
        · cases h
      · cases h
end Go.Proofs.YtogmbpepdemdkaaDoor

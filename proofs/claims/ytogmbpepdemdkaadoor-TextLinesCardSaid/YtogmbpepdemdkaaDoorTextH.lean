/- Chapter 1, in plain words: the place of an offset and the offset of a place, over the lines of a text. -/
import Derived.Test.YtogmbpepdemdkaaDoorTextC
namespace Go.Proofs.YtogmbpepdemdkaaDoor
open Go Go.Eng Go.Proofs
/-- The place of an offset, by recursion. -/
def pl : Bytes → Nat → Nat × Nat
  | [], _ => (1, 1)
  | _ :: _, 0 => (1, 1)
  | x :: r, k + 1 => if x = 10 then ((pl r k).1 + 1, (pl r k).2) else if (pl r k).1 = 1 then (1, (pl r k).2 + 1) else pl r k
theorem pl_pos : ∀ (s : Bytes) (k : Nat), 1 ≤ (pl s k).1 ∧ 1 ≤ (pl s k).2
  | [], _ => by simp [pl]
  | _ :: _, 0 => by simp [pl]
  | x :: r, k + 1 => by
    have := pl_pos r k
    simp only [pl]
    split
    · simp; omega
    · split
      · simp
      · exact this
theorem fold_pl : ∀ (s : Bytes) (l c : Nat), s.foldl step (l, c) = if (s.foldl step (1, 1)).1 = 1 then (l, (s.foldl step (1, 1)).2 + c - 1) else ((s.foldl step (1, 1)).1 + l - 1, (s.foldl step (1, 1)).2)
  | [], l, c => by simp
  | x :: r, l, c => by
    have hge : ∀ (s : Bytes) (l c : Nat), l ≤ (s.foldl step (l, c)).1 := by
      intro s
      induction s with
      | nil => intro l c; exact Nat.le_refl _
      | cons y t ih => intro l c; simp only [List.foldl_cons, step]; split
                       · exact Nat.le_trans (Nat.le_succ _) (ih _ _)
                       · exact ih _ _
    simp only [List.foldl_cons]
    by_cases hx : x.toNat = 10
    · simp only [step, hx, if_true]
      rw [fold_pl r (l + 1) 1, fold_pl r (1 + 1) 1]
      have h1 := hge r 1 1
      by_cases h : (r.foldl step (1, 1)).1 = 1
      · simp [h]; omega
      · simp only [h, if_false]
        rw [if_neg (by omega)]
        simp only [Prod.mk.injEq, and_true]; omega
    · simp only [step, hx, if_false]
      rw [fold_pl r l (c + 1), fold_pl r 1 (1 + 1)]
      have h1 := hge r 1 1
      by_cases h : (r.foldl step (1, 1)).1 = 1
      · simp [h]
      · simp only [h, if_false]
        rw [if_neg (by omega)]
        simp only [Prod.mk.injEq, and_true]; omega
theorem pl_eq : ∀ (s : Bytes) (k : Nat), placeAt (s.take k) = pl s k
  | [], k => by simp [placeAt, pl]
  | x :: r, 0 => by simp [placeAt, pl]
  | x :: r, k + 1 => by
    have ih := pl_eq r k
    have hp := pl_pos r k
    have hf : ∀ s : Bytes, placeAt s = s.foldl step (1, 1) := fun s => rfl
    rw [hf] at ih ⊢
    simp only [List.take_succ_cons, List.foldl_cons, pl]
    by_cases hx : x = 10
    · subst hx
      simp only [step, if_true, show (10 : UInt8).toNat = 10 from rfl]
      rw [fold_pl, ih]
      by_cases h : (pl r k).1 = 1
      · simp [h]
      · simp only [h, if_false]
        simp only [Prod.mk.injEq, and_true]; omega
    · have hx' : ¬ x.toNat = 10 := fun h => hx (UInt8.toNat_inj.1 h)
      simp only [step, hx, hx', if_false]
      rw [fold_pl, ih]
      by_cases h : (pl r k).1 = 1
      · simp [h]
      · simp only [h, if_false]
        simp
/-- The offset of a place among lines. -/
def offR : List Bytes → Nat → Nat → Option Nat
  | [], _, _ => none
  | l :: ls, line, col => if line = 1 then (if 1 ≤ col ∧ col ≤ l.length + 1 then some (col - 1) else none) else (offR ls (line - 1) col).map (· + (l.length + 1))
theorem offR_zero : ∀ (ls : List Bytes) (c : Nat), offR ls 0 c = none
  | [], _ => rfl
  | l :: ls, c => by simp [offR, offR_zero ls c]
theorem offR_iff : ∀ (s : Bytes) (line col i : Nat), offR (parts 10 s) line col = some i ↔ i ≤ s.length ∧ pl s i = (line, col)
  | [], line, col, i => by
    simp only [parts, offR, List.length_nil, pl, Prod.mk.injEq]
    by_cases h : line = 1
    · subst h
      by_cases hc : 1 ≤ col ∧ col ≤ 0 + 1
      · simp [hc]; omega
      · simp [hc]; omega
    · simp [h]; omega
  | x :: r, line, col, i => by
    have ih := offR_iff r
    by_cases hx : x = 10
    · simp only [parts, hx, if_true, offR, List.length_nil]
      cases i with
      | zero =>
        simp only [pl, Prod.mk.injEq, Nat.zero_le, true_and]
        by_cases h : line = 1
        · subst h
          by_cases hc : 1 ≤ col ∧ col ≤ 0 + 1
          · simp [hc]; omega
          · simp [hc]; omega
        · simp [h]; omega
      | succ i =>
        simp only [pl, if_true, Prod.mk.injEq, List.length_cons, Nat.add_le_add_iff_right]
        have hp := pl_pos r i
        by_cases h : line = 1
        · subst h
          simp; omega
        · simp only [h, if_false, Option.map_eq_some_iff]
          constructor
          · rintro ⟨a, ha, hb⟩
            have ha' : a = i := by omega
            subst ha'
            have := (ih _ _ _).1 ha
            rw [this.2]
            refine ⟨this.1, ?_, rfl⟩
            have := congrArg Prod.fst this.2
            simp only at this; omega
          · rintro ⟨h1, h2, h3⟩
            exact ⟨i, (ih _ _ _).2 ⟨h1, by rw [← h3, ← h2]; rfl⟩, by omega⟩
    · obtain ⟨l, ls, hls⟩ : ∃ l ls, parts 10 r = l :: ls := by
        cases hp : parts 10 r with
        | nil => have := parts_len 10 r; rw [hp] at this; simp at this
        | cons l ls => exact ⟨l, ls, rfl⟩
      simp only [parts, hx, if_false, hls, offR, List.length_cons]
      rw [hls] at ih
      cases i with
      | zero =>
        simp only [pl, Prod.mk.injEq, Nat.zero_le, true_and]
        by_cases h : line = 1
        · subst h
          by_cases hc : 1 ≤ col ∧ col ≤ l.length + 1 + 1
          · simp [hc]; omega
          · simp [hc]; omega
        · simp [h]; omega
      | succ i =>
        simp only [pl, hx, if_false, Nat.add_le_add_iff_right]
        have hp := pl_pos r i
        by_cases h : line = 1
        · subst h
          have ih1 := ih 1 (col - 1) i
          simp only [offR, if_true] at ih1
          simp only [if_true]
          by_cases hc : 1 ≤ col ∧ col ≤ l.length + 1 + 1
          · rw [if_pos hc]
            by_cases hc1 : col = 1
            · subst hc1
              simp
              intro h1
              split
              · simp; omega
              · intro h2; rw [h2] at hp; rename_i h3; rw [h2] at h3; exact absurd rfl h3
            · rw [if_pos (by omega)] at ih1
              simp only [Option.some.injEq] at ih1 ⊢
              constructor
              · intro h1
                have h2 := ih1.1 (by omega)
                refine ⟨h2.1, ?_⟩
                rw [h2.2]; simp; omega
              · rintro ⟨h1, h2⟩
                have h4 : pl r i = (1, col - 1) := by
                  split at h2
                  · rename_i h3
                    simp only [Prod.mk.injEq, true_and] at h2
                    rw [← h2, ← h3]; simp
                  · rename_i h3
                    rw [h2] at h3; exact absurd rfl h3
                have := ih1.2 ⟨h1, h4⟩
                omega
          · rw [if_neg hc]
            simp only [reduceCtorEq, false_iff, not_and]
            intro h1 h2
            by_cases h3 : (pl r i).1 = 1
            · rw [if_pos h3] at h2
              simp only [Prod.mk.injEq, true_and] at h2
              have h5 := ih1.2 ⟨h1, by rw [← h2, ← h3]; simp⟩
              split at h5
              · omega
              · cases h5
            · rw [if_neg h3] at h2; rw [h2] at h3; exact h3 rfl
        · have ih1 := ih line col
          simp only [offR, h, if_false] at ih1 ⊢
          simp only [Option.map_eq_some_iff] at ih1 ⊢
          constructor
          · rintro ⟨a, ha, hb⟩
            have := (ih1 i).1 ⟨a, ha, by omega⟩
            refine ⟨this.1, ?_⟩
            rw [this.2]; simp [h]
          · rintro ⟨h1, h2⟩
            have h3 : pl r i = (line, col) := by
              split at h2
              · simp only [Prod.mk.injEq] at h2; omega
              · exact h2
            obtain ⟨a, ha, hb⟩ := (ih1 i).2 ⟨h1, h3⟩
            exact ⟨a, ha, by omega⟩
/-- The lines have no line feed, and joined they are the text. -/
theorem parts_clean : ∀ (c : UInt8) (s : Bytes), ∀ l ∈ parts c s, ∀ x ∈ l, x ≠ c
  | c, [] => by simp [parts]
  | c, x :: r => by
    have ih := parts_clean c r
    intro l hl y hy
    by_cases hx : x = c
    · simp only [parts, hx, if_true, List.mem_cons] at hl
      rcases hl with rfl | hl
      · cases hy
      · exact ih l hl y hy
    · cases hp : parts c r with
      | nil => simp only [parts, hx, if_false, hp, List.mem_singleton] at hl
               subst hl; simp at hy; subst hy; exact hx
      | cons m ms =>
        simp only [parts, hx, if_false, hp, List.mem_cons] at hl
        rcases hl with rfl | hl
        · rcases List.mem_cons.1 hy with rfl | hy
          · exact hx
          · exact ih m (by rw [hp]; simp) y hy
        · exact ih l (by rw [hp]; simp [hl]) y hy
def joinL : List Bytes → Bytes
  | [] => []
  | [l] => l
  | l :: m :: ms => l ++ 10 :: joinL (m :: ms)
theorem joinL_cons (l : Bytes) {ms : List Bytes} (h : ms ≠ []) : joinL (l :: ms) = l ++ 10 :: joinL ms := by
  cases ms with
  | nil => exact absurd rfl h
  | cons m r => rfl
theorem parts_ne (c : UInt8) (s : Bytes) : parts c s ≠ [] := fun h => by have := parts_len c s; rw [h] at this; simp at this
theorem joinL_parts : ∀ s : Bytes, joinL (parts 10 s) = s
  | [] => rfl
  | x :: r => by
    have ih := joinL_parts r
    by_cases hx : x = 10
    · simp only [parts, hx, if_true]
      rw [joinL_cons _ (parts_ne 10 r), ih]; rfl
    · cases hp : parts 10 r with
      | nil => exact absurd hp (parts_ne 10 r)
      | cons l ls =>
        rw [hp] at ih
        simp only [parts, hx, if_false, hp]
        cases ls with
        | nil => simp only [joinL] at ih ⊢; rw [ih]
        | cons m ms => simp only [joinL] at ih ⊢; rw [← ih]; rfl
theorem joinL_snoc : ∀ (ls : List Bytes) (l : Bytes), joinL (ls ++ [l]) = if ls = [] then l else joinL ls ++ 10 :: l
  | [], l => rfl
  | [x], l => by simp [joinL]
  | x :: y :: r, l => by
    have ih := joinL_snoc (y :: r) l
    simp only [List.cons_append] at ih ⊢
    simp only [joinL, ih]
    simp
theorem joinL_len : ∀ (ls : List Bytes) (k : Nat), (joinL (ls.take k)).length ≤ (joinL ls).length
  | [], k => by simp [joinL]
  | [x], 0 => by simp [joinL]
  | [x], k + 1 => by simp
  | x :: y :: r, 0 => by simp [joinL]
  | x :: y :: r, k + 1 => by
    have ih := joinL_len (y :: r) k
    rw [List.take_succ_cons, joinL_cons x (by simp : y :: r ≠ [])]
    cases k with
    | zero => simp [joinL]
    | succ k =>
      rw [List.take_succ_cons] at ih ⊢
      rw [joinL_cons x (by simp)]
      simp only [List.length_append, List.length_cons] at ih ⊢; omega
end Go.Proofs.YtogmbpepdemdkaaDoor

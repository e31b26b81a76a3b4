/- Expressions in plain words: what is read moves on; the reading without guards. No program in sight. -/
import Derived.Test.YtblbbjhbigpgnaaDoorExA
namespace Go.Th
theorem ecall_ok {l : List Tok} {f : EQ → Nat → ER} {q q' : EQ} {i i' : Nat} {x : Ex × Nat} (h : ecall l f q i q' i' = .ok x) : emu l q' i' < emu l q i ∧ f q' i' = .ok x := by
  unfold ecall at h
  split at h
  · rename_i hlt; exact ⟨hlt, h⟩
  · cases h
def EQ.moves : EQ → Bool
  | .apps _ => false
  | _ => true
/-- What is read as a type moves on. -/
theorem tread_prog (l : List Tok) : ∀ (N : Nat) (q : TQ) (i : Nat) (x : Ty × Nat), tmu l q i < N → tread l q i = .ok x → i ≤ x.2
  | 0, _, _, _, h, _ => by omega
  | N + 1, q, i, x, hN, h => by
    have ih := tread_prog l N
    cases q with
    | atom =>
      rw [tread_atom] at h
      split at h
      · cases h
      · rename_i t ht
        have hi := (List.getElem?_eq_some_iff.1 ht).1
        split at h
        · cases h; simp
        · split at h
          · cases h; simp
          · split at h
            · split at h
              · cases h
              · rename_i y j h1
                have i1 := ih .whole (i + 1) (y, j) (by simp only [tmu, TQ.rank] at *; omega) h1
                split at h
                · cases h; simp only at *; omega
                · cases h
            · cases h
    | args n acc =>
      rw [tread_args] at h
      split at h
      · rename_i hs
        have hi := startsAt_lt hs
        split at h
        · cases h
        · rename_i y j h1
          split at h
          · rename_i hij
            have i1 := ih _ j x (by simp only [tmu, TQ.rank] at *; omega) h
            omega
          · cases h
      · cases h; simp
    | applied =>
      rw [tread_applied] at h
      split at h
      · rename_i t ht
        have hi := (List.getElem?_eq_some_iff.1 ht).1
        split at h
        · have i1 := ih _ (i + 1) x (by simp only [tmu, TQ.rank] at *; omega) h
          omega
        · exact ih _ i x (by simp only [tmu, TQ.rank] at *; omega) h
      · exact ih _ i x (by simp only [tmu, TQ.rank] at *; omega) h
    | whole =>
      rw [tread_whole] at h
      split at h
      · cases h
      · rename_i a j h1
        have i1 := ih _ i (a, j) (by simp only [tmu, TQ.rank] at *; omega) h1
        simp only at i1
        split at h
        · rename_i hm
          have hj := tokAt_lt hm
          split at h
          · split at h
            · cases h
            · rename_i b k h2
              have i2 := ih _ (j + 1) (b, k) (by simp only [tmu, TQ.rank] at *; omega) h2
              cases h
              simp only at *; omega
          · cases h
        · cases h; exact i1
theorem let_prog {l : List Tok} {f : EQ → Nat → ER} {k p : Int} {i : Nat} {e : Ex} {j : Nat} (hf : ∀ q i e j, f q i = .ok (e, j) → i ≤ j) (h : letStep l f k p i = .ok (e, j)) : i < j := by
  unfold letStep at h
  split at h
  · cases h
  · split at h
    · split at h
      · cases h
      · rename_i a k1 h1
        have i1 := hf _ _ _ _ h1
        split at h
        · split at h
          · cases h
          · rename_i b m h2
            have i2 := hf _ _ _ _ h2
            cases h
            omega
        · cases h
    · cases h
theorem eread_prog (l : List Tok) : ∀ (N : Nat) (q : EQ) (i : Nat) (e : Ex) (j : Nat), emu l q i < N → eread l q i = .ok (e, j) → i ≤ j ∧ (q.moves = true → i < j)
  | 0, _, _, _, _, h, _ => by omega
  | N + 1, q, i, e, j, hN, h => by
    have ih := eread_prog l N
    rw [eread_eq] at h
    have hf : ∀ q' i' e' j', ecall l (eread l) q i q' i' = .ok (e', j') → i' ≤ j' ∧ (q'.moves = true → i' < j') := fun q' i' e' j' hc => by
      obtain ⟨h1, h2⟩ := ecall_ok hc
      exact ih q' i' e' j' (by omega) h2
    have hf1 : ∀ q' i' e' j', ecall l (eread l) q i q' i' = .ok (e', j') → i' ≤ j' := fun q' i' e' j' hc => (hf q' i' e' j' hc).1
    cases q with
    | expr =>
      simp only [estep] at h
      suffices hh : i < j from ⟨by omega, fun _ => hh⟩
      split at h
      · split at h
        · cases h
        · split at h
          · split at h
            · cases h
            · rename_i b k h1
              have i1 := hf1 _ _ _ _ h1
              cases h; omega
          · cases h
      · split at h
        · split at h
          · have := let_prog hf1 h; omega
          · have := let_prog hf1 h; omega
        · split at h
          · split at h
            · cases h
            · rename_i e1 j1 h1
              have i1 := hf1 _ _ _ _ h1
              split at h
              · have i2 := hf1 _ _ _ _ h; omega
              · cases h
          · split at h
            · cases h
            · rename_i e1 j1 h1
              have i1 := (hf _ _ _ _ h1).2 rfl
              have i2 := hf1 _ _ _ _ h
              omega
    | apps x =>
      simp only [estep] at h
      suffices hh : i ≤ j from ⟨hh, fun hm => by cases hm⟩
      split at h
      · split at h
        · cases h
        · rename_i a j1 h1
          have i1 := hf1 _ _ _ _ h1
          have i2 := hf1 _ _ _ _ h
          omega
      · cases h; omega
    | arms p x acc =>
      simp only [estep] at h
      suffices hh : i < j from ⟨by omega, fun _ => hh⟩
      split at h
      · cases h
      · split at h
        · split at h
          · cases h
          · rename_i b m h1
            have i1 := hf1 _ _ _ _ h1
            split at h
            · have i2 := hf1 _ _ _ _ h; omega
            · split at h
              · cases h; omega
              · cases h
        · cases h
    | atom =>
      simp only [estep] at h
      suffices hh : i < j from ⟨by omega, fun _ => hh⟩
      split at h
      · cases h
      · split at h
        · cases h; omega
        · split at h
          · cases h; omega
          · split at h
            · cases h; omega
            · split at h
              · cases h; omega
              · split at h
                · split at h
                  · cases h
                  · rename_i x1 j1 h1
                    have i1 := hf1 _ _ _ _ h1
                    split at h
                    · cases h; omega
                    · cases h
                · split at h
                  · split at h
                    · cases h
                    · rename_i x1 j1 h1
                      have i1 := hf1 _ _ _ _ h1
                      split at h
                      · split at h
                        · cases h
                        · rename_i y k h2
                          have i2 := tread_prog l _ _ _ _ (Nat.lt_succ_self _) h2
                          simp only at i2
                          split at h
                          · cases h; omega
                          · cases h
                      · split at h
                        · cases h; omega
                        · cases h
                  · cases h
theorem eread_le {l : List Tok} {q : EQ} {i : Nat} {e : Ex} {j : Nat} (h : eread l q i = .ok (e, j)) : i ≤ j := (eread_prog l _ q i e j (Nat.lt_succ_self _) h).1
theorem eread_lt {l : List Tok} {q : EQ} {i : Nat} {e : Ex} {j : Nat} (hq : q.moves = true) (h : eread l q i = .ok (e, j)) : i < j := (eread_prog l _ q i e j (Nat.lt_succ_self _) h).2 hq
theorem let_free {l : List Tok} {q : EQ} {i : Nat} (hi : i < l.length) (k p : Int) {j : Nat} (hj : i < j) : letStep l (ecall l (eread l) q i) k p j = letStep l (eread l) k p j := by
  unfold letStep
  rw [ecall_lt hi (by omega)]
  cases nameAt l j 1 with
  | none => rfl
  | some n =>
    simp only
    cases h : eread l .expr (j + 2) with
    | error p => rfl
    | ok x =>
      obtain ⟨a, m⟩ := x
      have := eread_le h
      simp only
      rw [ecall_lt hi (by omega)]
theorem eread_step (l : List Tok) (q : EQ) (i : Nat) : eread l q i = estep l (eread l) q i := by
  rw [eread_eq]
  cases q with
  | expr =>
    simp only [estep]
    cases h1 : markAt l i [92] with
    | true =>
      have hi := tokAt_lt h1
      simp only [if_true]
      rw [ecall_lt hi (by omega)]
    | false =>
      simp only [Bool.false_eq_true, if_false]
      cases h2 : wordAt l i letB with
      | true =>
        have hi := tokAt_lt h2
        simp only [if_true]
        rw [let_free hi _ _ (by omega), let_free hi _ _ (by omega)]
      | false =>
        simp only [Bool.false_eq_true, if_false]
        cases h3 : wordAt l i caseB with
        | true =>
          have hi := tokAt_lt h3
          simp only [if_true]
          rw [ecall_lt hi (by omega)]
          cases h : eread l .expr (i + 1) with
          | error p => rfl
          | ok x =>
            obtain ⟨a, m⟩ := x
            have := eread_le h
            simp only
            rw [ecall_lt hi (by omega)]
        | false =>
          simp only [Bool.false_eq_true, if_false]
          rw [ecall_rank (by decide)]
          cases h : eread l .atom i with
          | error p => rfl
          | ok x =>
            obtain ⟨a, m⟩ := x
            have := eread_le h
            simp only
            unfold ecall
            rw [if_pos (by simp only [emu, EQ.rank]; omega)]
  | apps x =>
    simp only [estep]
    cases h1 : startsEAt l i with
    | false => rfl
    | true =>
      have hi : i < l.length := by
        unfold startsEAt at h1
        cases ht : l[i]? with
        | none => rw [ht] at h1; cases h1
        | some t => exact (List.getElem?_eq_some_iff.1 ht).1
      simp only [if_true]
      rw [ecall_rank (by simp [EQ.rank])]
      cases h : eread l .atom i with
      | error p => rfl
      | ok x =>
        obtain ⟨a, m⟩ := x
        have := eread_lt rfl h
        simp only
        rw [ecall_lt hi this]
  | arms p x acc =>
    simp only [estep]
    cases h1 : nameAt l i 2 with
    | none => rfl
    | some c =>
      have hi : i < l.length := by
        unfold nameAt at h1
        cases ht : l[i]? with
        | none => rw [ht] at h1; cases h1
        | some t => exact (List.getElem?_eq_some_iff.1 ht).1
      simp only
      rw [ecall_lt hi (by omega)]
      cases h : eread l .expr (i + 1 + (lowers (l.drop (i + 1))).length + 1) with
      | error p => rfl
      | ok x =>
        obtain ⟨a, m⟩ := x
        have := eread_le h
        simp only
        rw [ecall_lt hi (by omega)]
  | atom =>
    simp only [estep]
    cases h1 : l[i]? with
    | none => rfl
    | some t =>
      have hi := (List.getElem?_eq_some_iff.1 h1).1
      simp only
      rw [ecall_lt hi (by omega)]
end Go.Th
-- sum c1bbfbae5860d4ee

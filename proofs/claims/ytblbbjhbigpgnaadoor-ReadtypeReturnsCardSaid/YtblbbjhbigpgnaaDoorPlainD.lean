/- What a scan's tokens are like: bounds, kinds. No program in sight. -/
import Derived.Test.YtblbbjhbigpgnaaDoorPlainC
namespace Go.Th
def KWp (l : List Tok) : Prop := ∀ t ∈ l, t.kind = kindOf t.text
theorem scanGo_facts : ∀ (f i : Nat) (s : Bytes) (l : List Tok), scanGo f i s = .ok l → l.length ≤ s.length ∧ ∀ t ∈ l, t.kind = kindOf t.text ∧ kindOf t.text ≠ 0 ∧ (i : Int) ≤ t.pos ∧ t.pos + t.text.length ≤ (i + s.length : Nat)
  | 0, _, _, l, h => by
    simp only [scanGo, Except.ok.injEq] at h; subst h; simp
  | _ + 1, _, [], l, h => by
    simp only [scanGo, Except.ok.injEq] at h; subst h; simp
  | f + 1, i, c :: r, l, h => by
    simp only [scanGo] at h
    split at h
    · have ih := scanGo_facts f (i + 1) r l h
      refine ⟨by simp; omega, fun t ht => ?_⟩
      obtain ⟨h1, h2, h3, h4⟩ := ih.2 t ht
      exact ⟨h1, h2, by omega, by simp only [List.length_cons]; omega⟩
    · split at h
      · have ih := scanGo_facts f _ _ l h
        have hle := commentLen_le (c :: r)
        rw [List.length_drop] at ih
        refine ⟨by omega, fun t ht => ?_⟩
        obtain ⟨h1, h2, h3, h4⟩ := ih.2 t ht
        exact ⟨h1, h2, by omega, by omega⟩
      · split at h
        · cases h
        · rename_i hk
          split at h
          · cases h
          · rename_i l' hl
            simp only [Except.ok.injEq] at h
            subst h
            have ih := scanGo_facts f _ _ l' hl
            have hle := tokLen_le (c :: r)
            have hpos := tokLen_pos c r
            rw [List.length_drop] at ih
            refine ⟨by simp only [List.length_cons] at *; omega, fun t ht => ?_⟩
            rcases List.mem_cons.1 ht with rfl | ht
            · refine ⟨rfl, hk, by simp, ?_⟩
              simp only [List.length_take]
              omega
            · obtain ⟨h1, h2, h3, h4⟩ := ih.2 t ht
              exact ⟨h1, h2, by omega, by omega⟩
def toksOf (s : Bytes) : List Tok := match scan s with | .ok l => l | .bad _ _ => []
theorem toksOf_facts (s : Bytes) : (toksOf s).length ≤ 4000 ∧ ∀ t ∈ toksOf s, t.kind = kindOf t.text ∧ kindOf t.text ≠ 0 ∧ 0 ≤ t.pos ∧ t.pos + t.text.length ≤ 4000 := by
  unfold toksOf scan
  by_cases h : 4000 < s.length
  · rw [if_pos h]; simp
  · rw [if_neg h]
    cases hq : scanGo s.length 0 s with
    | error p => simp
    | ok l =>
      obtain ⟨h1, h2⟩ := scanGo_facts _ _ _ _ hq
      simp only
      refine ⟨by omega, fun t ht => ?_⟩
      obtain ⟨a1, a2, a3, a4⟩ := h2 t ht
      exact ⟨a1, a2, by omega, by omega⟩
end Go.Th
-- sum 166aa291451055b0

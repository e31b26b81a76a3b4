/- Expressions in plain words: their size; what reads as the same. No program in sight. -/
import Derived.Test.YtblbbjhbigpgnaaGreatDoorExR
namespace Go.Th
mutual
def sizeE : Ex → Nat
  | .mk _ _ _ _ ks as _ => 1 + sizeEs ks + sizeAs as
def sizeEs : List Ex → Nat
  | [] => 0
  | a :: r => sizeE a + sizeEs r
def sizeA : Ar → Nat
  | .mk _ _ vs b => 1 + vs.length + sizeE b
def sizeAs : List Ar → Nat
  | [] => 0
  | a :: r => sizeA a + sizeAs r
end
theorem sizeE_pos (e : Ex) : 1 ≤ sizeE e := by cases e; simp only [sizeE]; omega
theorem sizeEs_len : ∀ l : List Ex, l.length ≤ sizeEs l
  | [] => by simp [sizeEs]
  | a :: r => by have := sizeE_pos a; have := sizeEs_len r; simp only [sizeEs, List.length_cons]; omega
theorem sizeAs_len : ∀ l : List Ar, l.length ≤ sizeAs l
  | [] => by simp [sizeAs]
  | .mk _ _ _ _ :: r => by have := sizeAs_len r; simp only [sizeAs, sizeA, List.length_cons]; omega
theorem sizeEs_mem : ∀ {l : List Ex} {a : Ex}, a ∈ l → sizeE a ≤ sizeEs l
  | b :: r, a, h => by
    simp only [sizeEs]
    rcases List.mem_cons.1 h with rfl | h
    · omega
    · have := sizeEs_mem h; omega
theorem sizeAs_mem : ∀ {l : List Ar} {a : Ar}, a ∈ l → sizeA a ≤ sizeAs l
  | b :: r, a, h => by
    simp only [sizeAs]
    rcases List.mem_cons.1 h with rfl | h
    · omega
    · have := sizeAs_mem h; omega
theorem sizeAs_app : ∀ (x y : List Ar), sizeAs (x ++ y) = sizeAs x + sizeAs y
  | [], y => by simp [sizeAs]
  | a :: x, y => by simp only [List.cons_append, sizeAs, sizeAs_app x y]; omega
/-- The parts of an expression. -/
def childE (e : Ex) : List Ex := e.kids ++ e.arms.map Ar.body
theorem childE_size {e c : Ex} (h : c ∈ childE e) : sizeE c < sizeE e := by
  cases e with
  | mk k p n m ks as t =>
    simp only [sizeE]
    rcases List.mem_append.1 h with h | h
    · have := sizeEs_mem h; simp only [Ex.kids] at this; omega
    · obtain ⟨a, ha, rfl⟩ := List.mem_map.1 h
      have := sizeAs_mem ha
      cases a with
      | mk q c vs b => simp only [sizeA, Ex.arms, Ar.body] at *; omega
theorem childE_len (e : Ex) : (childE e).length ≤ sizeE e := by
  cases e with
  | mk k p n m ks as t =>
    have h1 := sizeEs_len ks
    have h2 := sizeAs_len as
    simp only [childE, Ex.kids, Ex.arms, List.length_append, List.length_map, sizeE]
    omega
theorem eread_size (l : List Tok) : ∀ (N : Nat) (q : EQ) (i : Nat) (e : Ex) (j : Nat), emu l q i < N → eread l q i = .ok (e, j) → match q with
    | .expr => sizeE e + 1 ≤ 2 * (j - i)
    | .atom => sizeE e + 1 ≤ 2 * (j - i)
    | .apps x => sizeE e ≤ sizeE x + 2 * (j - i)
    | .arms _ x acc => sizeE e + 1 ≤ sizeE x + sizeAs acc + 1 + 2 * (j - i)
  | 0, _, _, _, _, h, _ => by omega
  | N + 1, q, i, e, j, hN, h => by
    have ih := eread_size l N
    have hlt : ∀ {i' : Nat} {t : Tok}, l[i']? = some t → i' < l.length := fun h => (List.getElem?_eq_some_iff.1 h).1
    rw [eread_step] at h
    cases q with
    | expr =>
      simp only [estep] at h
      have hlet : ∀ (k p : Int) (i0 : Nat), i < l.length → i < i0 → letStep l (eread l) k p i0 = .ok (e, j) → sizeE e + 1 ≤ 2 * (j - i) := by
        intro k p i0 hi hi0 h
        unfold letStep at h
        split at h
        · cases h
        · split at h
          · split at h
            · cases h
            · rename_i a k1 h1
              have g1 := eread_le h1
              have i1 := ih .expr _ _ _ (by simp only [emu, EQ.rank] at *; omega) h1
              split at h
              · split at h
                · cases h
                · rename_i b m h2
                  have g2 := eread_le h2
                  have i2 := ih .expr _ _ _ (by simp only [emu, EQ.rank] at *; omega) h2
                  cases h
                  simp only [kidsE, sizeE, sizeEs, sizeAs] at *
                  omega
              · cases h
          · cases h
      simp only
      split at h
      · rename_i hm
        have hi := tokAt_lt hm
        split at h
        · cases h
        · split at h
          · split at h
            · cases h
            · rename_i b k h1
              have g1 := eread_le h1
              have i1 := ih .expr _ _ _ (by simp only [emu, EQ.rank] at *; omega) h1
              cases h
              simp only [kidsE, sizeE, sizeEs, sizeAs] at *
              omega
          · cases h
      · split at h
        · rename_i hm
          have hi := tokAt_lt hm
          split at h
          · exact hlet _ _ _ hi (by omega) h
          · exact hlet _ _ _ hi (by omega) h
        · split at h
          · rename_i hm
            have hi := tokAt_lt hm
            split at h
            · cases h
            · rename_i x k h1
              have g1 := eread_le h1
              have i1 := ih .expr _ _ _ (by simp only [emu, EQ.rank] at *; omega) h1
              split at h
              · have g2 := eread_le h
                have i2 := ih (.arms _ _ _) _ _ _ (by simp only [emu, EQ.rank] at *; omega) h
                simp only [sizeAs] at i1 i2
                omega
              · cases h
          · split at h
            · cases h
            · rename_i x k h1
              have g1 := eread_lt rfl h1
              have i1 := ih .atom _ _ _ (by simp only [emu, EQ.rank] at *; omega) h1
              have g2 := eread_le h
              have i2 := ih (.apps _) _ _ _ (by simp only [emu, EQ.rank] at *; omega) h
              simp only at i1 i2
              omega
    | apps x =>
      simp only [estep] at h
      simp only
      split at h
      · rename_i hst
        have hi : i < l.length := by
          unfold startsEAt at hst
          split at hst
          · rename_i ht; exact hlt ht
          · cases hst
        split at h
        · cases h
        · rename_i a k h1
          have g1 := eread_lt rfl h1
          have i1 := ih .atom _ _ _ (by simp only [emu, EQ.rank] at *; omega) h1
          have g2 := eread_le h
          have i2 := ih (.apps _) _ _ _ (by simp only [emu, EQ.rank] at *; omega) h
          simp only [kidsE, sizeE, sizeEs, sizeAs] at *
          omega
      · cases h; omega
    | arms p x acc =>
      simp only [estep] at h
      simp only
      split at h
      · cases h
      · rename_i c hc
        have hi : i < l.length := by
          unfold nameAt at hc
          split at hc
          · rename_i ht; exact hlt ht
          · cases hc
        split at h
        · rename_i hm
          have hlow := tokAt_lt hm
          split at h
          · cases h
          · rename_i b k h1
            have g1 := eread_le h1
            have i1 := ih .expr _ _ _ (by simp only [emu, EQ.rank] at *; omega) h1
            split at h
            · have g2 := eread_le h
              have i2 := ih (.arms _ _ _) _ _ _ (by simp only [emu, EQ.rank] at *; omega) h
              simp only [sizeAs_app, sizeAs, sizeA] at i1 i2
              omega
            · split at h
              · cases h
                simp only [caseE, sizeE, sizeEs, sizeAs_app, sizeAs, sizeA] at *
                omega
              · cases h
        · cases h
    | atom =>
      simp only [estep] at h
      simp only
      split at h
      · cases h
      · rename_i t ht
        have hi := hlt ht
        split at h
        · cases h; simp [leafE, sizeE, sizeEs, sizeAs]
        · split at h
          · cases h; simp [leafE, sizeE, sizeEs, sizeAs]
          · split at h
            · cases h; simp [leafE, sizeE, sizeEs, sizeAs]
            · split at h
              · cases h; simp [leafE, sizeE, sizeEs, sizeAs]
              · split at h
                · split at h
                  · cases h
                  · rename_i x k h1
                    have g1 := eread_le h1
                    have i1 := ih .expr _ _ _ (by simp only [emu, EQ.rank] at *; omega) h1
                    split at h
                    · cases h
                      simp only [kidsE, sizeE, sizeEs, sizeAs] at *
                      omega
                    · cases h
                · split at h
                  · split at h
                    · cases h
                    · rename_i x k h1
                      have g1 := eread_le h1
                      have i1 := ih .expr _ _ _ (by simp only [emu, EQ.rank] at *; omega) h1
                      simp only at i1
                      split at h
                      · split at h
                        · cases h
                        · rename_i y k2 h2
                          have g2 := tread_prog l _ _ _ _ (Nat.lt_succ_self _) h2
                          simp only at g2
                          split at h
                          · cases h
                            simp only [annE, sizeE, sizeEs, sizeAs] at *
                            omega
                          · cases h
                      · split at h
                        · cases h; omega
                        · cases h
                  · cases h
end Go.Th
-- sum fae99ae375048149

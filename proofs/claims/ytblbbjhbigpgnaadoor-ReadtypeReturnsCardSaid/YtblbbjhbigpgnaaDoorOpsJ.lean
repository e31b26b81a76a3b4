/- The walking engine: three operations of a drawn region that can come up in any order; parts of what is read; over any program. -/
import Derived.Test.YtblbbjhbigpgnaaDoorOpsI
namespace Go.Eng
open Go
section
variable {P : Program} {E : Env} {n : Nat} {L : Slots} {g : Ghost} {own : List Res} {Q : Exit → Act → World → Prop} {ops : Array Oper} {S : World → Prop} {fuel : Nat} {listed : Array Bool}
theorem h_three {o o' o'' : Oper} (i i' i'' : Nat) (hr : Region.ready .any ops listed = [i, i', i'']) (hi : ops[i]? = some o) (hi' : ops[i']? = some o') (hi'' : ops[i'']? = some o'')
    (h : Run E n L g own (wpList P ops (Exit.then (fun a w => S w ∧ Hq P ops Q S fuel (listed.setIfInBounds i true) a w) Q) [o]))
    (h' : Run E n L g own (wpList P ops (Exit.then (fun a w => S w ∧ Hq P ops Q S fuel (listed.setIfInBounds i' true) a w) Q) [o']))
    (h'' : Run E n L g own (wpList P ops (Exit.then (fun a w => S w ∧ Hq P ops Q S fuel (listed.setIfInBounds i'' true) a w) Q) [o''])) : Run E n L g own (Hq P ops Q S (fuel + 1) listed) := fun a w hF hI => by
  have aux : ∀ (j : Nat) (q : Oper), ops[j]? = some q → wpList P ops (Exit.then (fun a w => S w ∧ Hq P ops Q S fuel (listed.setIfInBounds j true) a w) Q) [q] a w →
      wpOp P ops Q j (fun a' w' => S w' ∧ wpAnyH P .any ops Q S fuel (listed.setIfInBounds j true) a' w') a w := by
    intro j q hq h1
    unfold wpOp
    simp only [hq]
    unfold wpList at h1
    split
    · rename_i hw
      rw [if_pos hw] at h1
      rcases h1 with h1 | ⟨h1, h2⟩
      · exact .inl (upon_then h1)
      · exact .inr ⟨h1, h2⟩
    · rename_i hw
      rw [if_neg hw] at h1
      exact h1
  refine wpAnyH_all hr (by simp) ?_
  intro j hj
  simp only [List.mem_cons, List.not_mem_nil, or_false] at hj
  rcases hj with rfl | rfl | rfl
  · exact aux _ _ hi (h a w hF hI)
  · exact aux _ _ hi' (h' a w hF hI)
  · exact aux _ _ hi'' (h'' a w hF hI)
end
theorem Rd.at1 {g : Ghost} {own : List Res} {b off : Nat} {xs : List Value} (h : Rd g own b off xs) (d : Nat) {v : Value} (hv : xs[d]? = some v) : Rd g own b (off + d) [v] :=
  h.part d fun j x hj => by
    cases j with
    | zero => simp at hj; subst hj; simpa using hv
    | succ j => simp at hj
theorem Rd.tail3 {g : Ghost} {own : List Res} {b off : Nat} {x y z : Value} {bc : List Value} (h : Rd g own b off (x :: y :: z :: bc)) : Rd g own b (off + 3) bc :=
  h.part 3 fun j v hj => by rw [Nat.add_comm]; simpa using hj
end Go.Eng
-- sum 2dd0cdf93865e33d

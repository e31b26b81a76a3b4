/- The canonical text of an expression is read as this expression up to positions, in parentheses too. -/
import Derived.Test.YtpjehhnaojjanaaGreatDoorK14
import Derived.Test.YtpjehhnaojjanaaGreatDoorK1
import Derived.Test.YtpjehhnaojjanaaGreatDoorK3
import Derived.ProofKit
namespace Go.Proofs.YtpjehhnaojjanaaGreatDoor
open Go Go.Eng Go.Th Go.Proofs
end Go.Proofs.YtpjehhnaojjanaaGreatDoor
-- sum d0bed938f0bc38c7

/- The frame of a law: from a contract to the statement's call; over any program. -/
namespace Go.Eng
open Go Go.RowKit Go.ChangeShapes Go.WideShapes Go.ChangeAt
def worldGhost (w : World) : Ghost := fun b o => w.cell? ⟨b, o, none⟩
theorem worldHolds (w : World) : Holds (worldGhost w) [] w := ⟨fun _ _ _ h => h, by simp, by simp [foots], by simp [foots]⟩
theorem below_of_pure {P : Program} {f : FuncId} {vals : List Value} {v : Value} {W : World} (h : Pure P f vals (worldGhost W) v) : Calls P f vals.toArray W fun e w' => e = .returned v ∧ Below W.heap.size W w' :=
 (h W (worldHolds W)).mono fun e w' ⟨v', g', own', he, ⟨h1, _, _⟩, hI⟩ => ⟨by rw [he, h1], ⟨hI.2.os, hI.2.tape, hI.2.output, hI.2.size, fun b hb => hI.2.kept b hb (by simp [foots])⟩⟩
theorem slAt_ints {P : Program} {H : Type} {enc : TypeId × Value → H} {W : World} {t e : TypeId} {k : IntKind} {a : Option Addr} {len cap : Nat} {d : DataW H} {ps : List MemPlace} (ht : P.underlying t = some (.slice e)) (he : P.underlying e = some (.int k)) (hc : P.cellsOf e = 1)
  (h : DataW.Trod enc P W 0 (fun _ => true) true t (.slice a len cap) d ps) : ∃ l : List Int, l.length = len ∧ SlAt (worldGhost W) 1 (.slice a len cap) l.length (l.map (Value.int k)) ∧ ∀ n ∈ l, (Lit.int k n).wf = true := by
 obtain ⟨fuel, hf⟩ := h
 rcases open_ints ht he hc hf with ⟨hcs, _⟩ | ⟨x, l, c, zs, hcs, _, hl, hm, hz, _, hcell, hwz⟩
 ·simp [Value.cells] at hcs
  obtain ⟨rfl, rfl, rfl⟩ := hcs
  exact ⟨[], rfl, ⟨rfl, .inl ⟨⟨_, _, rfl⟩, rfl⟩⟩, by simp⟩
 ·simp [Value.cells] at hcs
  obtain ⟨rfl, rfl, rfl⟩ := hcs
  simp at hz
  refine ⟨zs.take len, by simp; omega, ⟨by simp, ?_⟩, fun n hn => hwz n (List.mem_of_mem_take hn)⟩
  rcases Nat.eq_zero_or_pos len with h0 | h0
  ·subst h0; exact .inl ⟨⟨_, _, rfl⟩, by simp⟩
  ·obtain ⟨b, off, spot⟩ := x
   have hc0 := hcell 0 (by omega)
   have hspot : spot = none := by simpa [Addr.add] using World.cell?_spot hc0
   subst hspot
   have hlen : (zs.take len).length = len := by simp; omega
   refine .inr ⟨b, off, cap, by rw [hlen], by omega, hm, fun j v hv => ?_⟩
   simp only [List.getElem?_map, Option.map_eq_some_iff] at hv
   obtain ⟨z, hz1, rfl⟩ := hv
   rw [List.getElem?_take] at hz1
   split at hz1
   ·obtain ⟨hj, hzj⟩ := List.getElem?_eq_some_iff.1 hz1
    have := hcell j hj
    rw [List.getD_eq_getElem?_getD, hz1] at this
    simpa [worldGhost, add_none] using this
   ·cases hz1
end Go.Eng
-- sum 270b925d6396a6b8


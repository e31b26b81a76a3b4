/- The frame of a law that reads a table of the library. -/
import Derived.Test.YtogmbpepdemdkaaDoorTextF
import Derived.Test.YtogmbpepdemdkaaDoorFrame
import Derived.Test.YtogmbpepdemdkaaDoorRows
import Derived.Lib.LaidTab
namespace Go.Eng
open Go Go.RowKit
def ghostBut (w : World) (c : Nat) : Ghost := fun b o => if b = c then none else w.cell? ⟨b, o, none⟩
theorem holdsBut {w : World} {c : Nat} {x : Obj} (h : w.heap[c]? = some x) : Holds (ghostBut w c) [.obj c x] w := by
  refine ⟨fun b o v hv => ?_, ?_, by simp [foots, Res.foot], ?_⟩
  · unfold ghostBut at hv
    split at hv
    · cases hv
    · exact hv
  · intro r hr
    rw [List.mem_singleton] at hr
    subst hr; exact h
  · intro b hb o
    simp [foots, Res.foot] at hb
    simp [ghostBut, hb]
theorem below_of_pureO {P : Program} {f : FuncId} {vals : List Value} {v : Value} {W : World} {c : Nat} {x : Obj} (hx : W.heap[c]? = some x) (h : PureO P f vals (ghostBut W c) (.obj c x) v) : Calls P f vals.toArray W fun e w' => e = .returned v ∧ Below W.heap.size W w' :=
  (h W (holdsBut hx)).mono fun e w' ⟨v', g', own', he, ⟨h1, _, h3⟩, hI⟩ => ⟨by rw [he, h1], ⟨hI.2.os, hI.2.tape, hI.2.output, hI.2.size, fun b hb => by
    by_cases hc : b = c
    · subst hc
      have : w'.heap[b]? = some x := hI.1.sat (.obj b x) (by rw [h3]; simp)
      rw [this, hx]
    · exact hI.2.kept b hb (by simp [foots, Res.foot, hc])⟩⟩
end Go.Eng
namespace Go.Proofs.YtogmbpepdemdkaaDoor
open Go Go.Eng Go.Proofs
theorem powTab_of {W : World} {x y : String × DataW Unit} {rest : List (String × DataW Unit)} (h : laidMet Tryd.prog (x :: y :: ("internal/strconv.uint64pow10", Rows.laid_internal_strconv_uint64pow10) :: rest) W) : ∃ o, W.heap[1]? = some o ∧ PowTab o := by
  obtain ⟨ps, ⟨g0, t0, cs0, f0, p0, q0, hg0, ht0, hv0, hd0, ⟨g1, t1, cs1, f1, p1, q1, hg1, ht1, hv1, hd1, ⟨g2, t2, cs2, f2, p2, q2, hg2, ht2, hv2, hd2, _, _⟩, _⟩, _⟩, _⟩ := h
  obtain rfl := Option.some.inj (gPow.symm.trans hg2)
  have ht : (Tryd.prog.globals[1]?).map (·.type) = some 95 := by kernel_rfl
  obtain rfl := Option.some.inj (ht.symm.trans ht2)
  have hc := Lib.cells_of_tab (n := 20) (k := .u64) (zs := Lib.pow10Tab) (show Tryd.prog.underlying 95 = some (.array 20 86) by kernel_rfl) (show Tryd.prog.underlying 86 = some (.int .u64) by kernel_rfl) (by kernel_rfl) (by kernel_rfl) hd2
  unfold World.var? at hv2
  rw [gPow] at hv2
  simp only [Option.bind_some] at hv2
  split at hv2
  · rename_i cs T z hh
    simp only [Option.some.injEq] at hv2
    subst hv2
    refine ⟨_, hh, T, z, ?_⟩
    have : cs = powCells := by
      apply Array.ext'
      rw [hc, powCells]
    rw [this]
  · cases hv2
end Go.Proofs.YtogmbpepdemdkaaDoor

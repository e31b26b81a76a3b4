/- The frame of the laws of chapter 37: the two errors of package strconv, commands that come in, slices beside the table. -/
import Derived.Test.YtogmbpepdemdkaaDoorFrameT
import Derived.Test.YtogmbpepdemdkaaDoorCmdC
import Derived.Stop.LaidErr
import Derived.Lib.SmallJoins
namespace Go.Proofs.YtogmbpepdemdkaaDoor
open Go Go.Eng Go.Proofs Go.Joins Go.ChangeShapes Go.WideShapes Go.RowKit Go.Deep
theorem err_row (u : TypeId) (h : Tryd.prog.typeName? 3 u = some "*errors.errorString") : u = 122 :=
  typeName_ptr_named (nm := "errors.errorString") (by rw [show "*" ++ "errors.errorString" = "*errors.errorString" by decide]; kernel_rfl) (by kernel_rfl) (by decide) u (by rw [show "*" ++ "errors.errorString" = "*errors.errorString" by decide]; exact h)
theorem errOk_of {W : World} {x y z : String × DataW Unit} {rest : List (String × DataW Unit)} (h : laidMet Tryd.prog (x :: y :: z :: ("strconv.ErrRange", Rows.laid_strconv_ErrRange) :: ("strconv.ErrSyntax", Rows.laid_strconv_ErrSyntax) :: rest) W) : ErrOk (ghostBut W 1) := by
  have h3 := h.tail.tail.tail
  have gR : Tryd.prog.globalNamed "strconv.ErrRange" = some 5 := by kernel_rfl
  have gS : Tryd.prog.globalNamed "strconv.ErrSyntax" = some 4 := by kernel_rfl
  have tR : (Tryd.prog.globals[5]?).map (·.type) = some 78 := by kernel_rfl
  have tS : (Tryd.prog.globals[4]?).map (·.type) = some 78 := by kernel_rfl
  obtain ⟨a0, s0, hv0, _⟩ := laid_sentinel h3 gR tR Tryd.underlying78 err_row Tryd.underlying122 Tryd.underlying124 rfl rfl Tryd.underlying9 (by kernel_rfl) (by kernel_rfl)
  obtain ⟨a1, s1, hv1, _⟩ := laid_sentinel h3.tail gS tS Tryd.underlying78 err_row Tryd.underlying122 Tryd.underlying124 rfl rfl Tryd.underlying9 (by kernel_rfl) (by kernel_rfl)
  have c0 := World.var?_cell gR hv0 0
  have c1 := World.var?_cell gS hv1 0
  refine ⟨⟨122, .pointer (some a1), ?_⟩, 122, .pointer (some a0), ?_⟩
  · unfold ghostBut
    rw [if_neg (by decide)]
    simpa using c1
  · unfold ghostBut
    rw [if_neg (by decide)]
    simpa using c0
/-- A slice of integers is not the table. -/
theorem slAt_but {W : World} {c : Nat} {o : Obj} (ho : W.heap[c]? = some o) (hp : PowTab o) {v : Value} {n : Nat} {l : List Int} (h : SlAt (worldGhost W) 1 v n (ints l)) : SlAt (ghostBut W c) 1 v n (ints l) := by
  refine ⟨h.1, ?_⟩
  rcases h.2 with h0 | ⟨b, off, cap, rfl, h1, h2, h3⟩
  · exact .inl h0
  · refine .inr ⟨b, off, cap, rfl, h1, h2, fun j x hx => ?_⟩
    have hc := h3 j x hx
    unfold ghostBut
    split
    · rename_i hb
      subst hb
      exfalso
      obtain ⟨T, z, rfl⟩ := hp
      unfold worldGhost World.cell? at hc
      simp only [ho] at hc
      simp only [List.getElem?_map, Option.map_eq_some_iff] at hx
      obtain ⟨k, _, rfl⟩ := hx
      simp [powCells] at hc
    · exact hc
set_option maxRecDepth 100000 in
theorem open_cmd {H : Type} {enc : TypeId × Value → H} {W : World} {r : Reach} {b0 : Nat} {v : Value} {d : DataW H} {p : List MemPlace} {o : Obj} (ho : W.heap[1]? = some o) (hp : PowTab o)
    (hv : Value.okWide Tryd.prog W r b0 42 v) (h : DataW.Trod enc Tryd.prog W 0 (fun _ => true) true 42 v d p) :
    ∃ c : Cmd, CmdAt (ghostBut W 1) v c ∧ ∀ n ∈ c.nums, -9223372036854775808 ≤ n ∧ n ≤ 9223372036854775807 := by
  obtain ⟨v0, v1, v2, y0, y1, y2, n, rfl, _, _, h0, h1, h2⟩ := open_agg3 (Tryd.underlying42) (by kernel_rfl) (by kernel_rfl) hv h
  obtain ⟨k, hk, _, hkw⟩ := DataW.trod_int (k := .i64) (Tryd.underlying3) h0
  obtain ⟨t, ht, _, htl⟩ := DataW.trod_string (Tryd.underlying9) h2
  obtain ⟨a, m, c, hs⟩ := slice_form (Tryd.underlying40) h1
  simp only [List.cons.injEq, and_true] at hk ht hs
  subst hk; subst ht; subst hs
  have hT : DataW.Trod enc Tryd.prog W 0 (fun _ => true) true 40 (.slice a m c) y1.1 y1.2 := ⟨n, by simpa [Value.cells] using h1⟩
  obtain ⟨l, hl, hsl, hw⟩ := slAt_ints (Tryd.underlying40) (Tryd.underlying3) (by kernel_rfl) hT
  obtain ⟨⟨tl⟩⟩ := t
  exact ⟨⟨k, l, tl⟩, ⟨.slice a m c, rfl, rfl, slAt_but ho hp hsl⟩, fun n hn => by simpa [Lit.wf, IntKind.min, IntKind.max, IntKind.signed, IntKind.bits] using hw n hn⟩
end Go.Proofs.YtogmbpepdemdkaaDoor

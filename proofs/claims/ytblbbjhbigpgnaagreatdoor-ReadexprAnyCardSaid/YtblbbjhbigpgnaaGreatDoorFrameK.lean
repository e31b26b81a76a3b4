/- An argument of tokens, opened to its cells. -/
import Derived.Test.YtblbbjhbigpgnaaGreatDoorFrameH
import Derived.Test.YtblbbjhbigpgnaaGreatDoorRefC
import Derived.Deep.Slices
import Derived.Deep.Fields
namespace Go.Proofs.YtblbbjhbigpgnaaGreatDoor
open Go Go.Eng Go.Th Go.Proofs Go.RowKit Go.ChangeShapes Go.WideShapes Go.Deep
set_option maxRecDepth 100000 in
theorem tok_open {H : Type} {enc : TypeId × Value → H} {W : World} {fuel : Nat} {cs : List Value} {x : DataW H × List MemPlace} (h : DataW.trod enc Tryz.prog W 0 (fun _ => true) true fuel 51 cs = some x) :
    ∃ t : Tok, cs = tokCells t ∧ t.text.length ≤ 9223372036854775807 := by
  obtain ⟨xs, n, _, _, hlen, hxl, hf⟩ := DataW.trod_struct Tryz.underlying51 h
  rw [show Tryz.prog.cellsOf 51 = 3 by kernel_rfl] at hlen
  have hi : Tryz.prog.cellsOf 3 = 1 := by kernel_rfl
  have hst : Tryz.prog.cellsOf 9 = 1 := by kernel_rfl
  match cs, hlen with
  | [c0, c1, c2], _ =>
    match xs, hxl with
    | [y0, y1, y2], _ =>
      have h0 := hf 0 _ rfl
      have h1 := hf 1 _ rfl
      have h2 := hf 2 _ rfl
      simp [hi, hst] at h0 h1 h2
      obtain ⟨k, hk, _, _⟩ := DataW.trod_int (k := .i64) (Tryz.underlying3) h0
      obtain ⟨t, ht, _, htl⟩ := DataW.trod_string (Tryz.underlying9) h1
      obtain ⟨p, hp, _, _⟩ := DataW.trod_int (k := .i64) (Tryz.underlying3) h2
      simp only [List.cons.injEq, and_true] at hk ht hp
      subst hk; subst ht; subst hp
      obtain ⟨⟨tl⟩⟩ := t
      exact ⟨⟨k, tl, p⟩, rfl, htl⟩
set_option maxRecDepth 100000 in
theorem slAt_toks {H : Type} {enc : TypeId × Value → H} {W : World} {t : TypeId} {a : Option Addr} {len cap : Nat} {d : DataW H} {ps : List MemPlace} (ht : Tryz.prog.underlying t = some (.slice 51))
    (h : DataW.Trod enc Tryz.prog W 0 (fun _ => true) true t (.slice a len cap) d ps) : ∃ l : List Tok, ToksAt (worldGhost W) (.slice a len cap) l ∧ ∀ x ∈ l, x.text.length ≤ 9223372036854775807 := by
  obtain ⟨fuel, hf⟩ := h
  rcases open_slice ht hf with ⟨hcs, _⟩ | ⟨x, ln, cp, m, n, D, Pl, hcs, _, hl, hm, hmm, _, hi⟩
  · simp [Value.cells] at hcs
    obtain ⟨rfl, rfl, rfl⟩ := hcs
    exact ⟨[], ⟨rfl, .inl ⟨⟨_, _, rfl⟩, rfl⟩⟩, by simp⟩
  · simp [Value.cells] at hcs
    obtain ⟨rfl, rfl, rfl⟩ := hcs
    simp only [if_true] at hmm
    subst hmm
    rw [show Tryz.prog.cellsOf 51 = 3 by kernel_rfl] at hi
    have hall : ∀ i, ∃ t : Tok, i < len → (∀ j, j < 3 → W.cell? ((x.add (i * 3)).add j) = (tokCells t)[j]?) ∧ t.text.length ≤ 9223372036854775807 := fun i => by
      by_cases hlt : i < len
      · obtain ⟨cs', h1, h2⟩ := hi i (by omega)
        obtain ⟨t, rfl, h3⟩ := tok_open h2
        obtain ⟨_, _, h4⟩ := World.cells?_some h1
        exact ⟨t, fun _ => ⟨h4, h3⟩⟩
      · exact ⟨⟨0, [], 0⟩, fun h => absurd h hlt⟩
    obtain ⟨f, hf⟩ := Classical.axiomOfChoice hall
    have hlen : ((List.range len).map f).length = len := by simp
    refine ⟨(List.range len).map f, ⟨flat_len tokCells 3 tokCells_len _, ?_⟩, fun t ht => ?_⟩
    · rcases Nat.eq_zero_or_pos len with h0 | h0
      · subst h0; exact .inl ⟨⟨_, _, rfl⟩, by simp⟩
      · obtain ⟨b, off, spot⟩ := x
        have hc0 := (hf 0 h0).1 0 (by omega)
        have hspot : spot = none := by simpa [Addr.add] using World.cell?_spot (show W.cell? _ = some _ from hc0)
        subst hspot
        refine .inr ⟨b, off, _, by rw [hlen], by rw [hlen]; exact hl, hm, fun j v hv => ?_⟩
        have hjl := (List.getElem?_eq_some_iff.1 hv).1
        rw [flat_len tokCells 3 tokCells_len, hlen] at hjl
        have hk : j / 3 < len := by omega
        rw [show j = j / 3 * 3 + j % 3 by omega, flat_get tokCells 3 tokCells_len _ _ _ (Nat.mod_lt _ (by omega)), List.getElem?_map, List.getElem?_range hk] at hv
        have := (hf (j / 3) hk).1 (j % 3) (Nat.mod_lt _ (by omega))
        simp only [Option.map_some, Option.bind_some] at hv
        rw [hv] at this
        show W.cell? ⟨b, off + j, none⟩ = some v
        have he : ((⟨b, off, none⟩ : Addr).add (j / 3 * 3)).add (j % 3) = ⟨b, off + j, none⟩ := by
          rw [add_none, add_none, Nat.add_assoc, Nat.div_add_mod' j 3]
        rw [← he]; exact this
    · obtain ⟨i, hi', rfl⟩ := List.mem_map.1 ht
      exact (hf i (List.mem_range.1 hi')).2
end Go.Proofs.YtblbbjhbigpgnaaGreatDoor
-- sum 4a374a72435744a3

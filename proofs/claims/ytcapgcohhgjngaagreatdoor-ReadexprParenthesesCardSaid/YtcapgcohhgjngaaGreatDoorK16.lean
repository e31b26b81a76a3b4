/- The canonical text of a type is read as this type, in parentheses too. -/
import Derived.Test.YtcapgcohhgjngaaGreatDoorK15
import Derived.Test.YtcapgcohhgjngaaGreatDoorK11
import Derived.Test.YtcapgcohhgjngaaGreatDoorK1
import Derived.ProofKit
namespace Go.Proofs.YtcapgcohhgjngaaGreatDoor
open Go Go.Eng Go.Th Go.Proofs
theorem kt_scan {s : Bytes} {ws : List Bytes} (h : Scans s ws) (hl : s.length ≤ 4000) : kt (toksOf s) = kts ws := by
  have h1 := h 0 [] [] apart_nil (fun j => ⟨[], rfl, rfl⟩)
  rw [List.append_nil, List.append_nil] at h1
  obtain ⟨l, e1, e2⟩ := scan_okKt hl h1
  rw [toksOf, e1]
  exact e2
theorem ktl_len (l : List Tok) : List.length (kt l) = l.length := by simp [kt]
theorem ktAt_zero {l : List Tok} {ws : List (Int × Bytes)} (h : kt l = ws) : KtAt l 0 ws := by
  unfold KtAt
  rw [List.drop_zero, h]
theorem stopT_nil : StopT [] := ⟨(fun _ _ _ e => by cases e), (fun _ _ _ e => by cases e)⟩
theorem stopT_semi (ws : List (Int × Bytes)) : StopT ((5, [59]) :: ws) := ⟨(fun k w r e => by cases e; decide), (fun k w r e => by cases e; decide)⟩
theorem idx_zero (n : Nat) : idxOf n 0 = 0 := by unfold idxOf; split <;> omega
theorem show_reads {t : Ty} (h : GoodT t) (hl : (showT t).length ≤ 4000) {l r : List Tok} (he : l = toksOf (showT t) ++ r) (hr : StopT (kt r)) : tread l .whole (idxOf l.length 0) = .ok (t, (toksOf (showT t)).length) := by
  have h1 := kt_scan (scans_T h) hl
  have h2 : kt l = kts (toksT t) ++ kt r := by
    rw [he, ← h1]
    simp [kt]
  have h3 := (reads_T h l 0 (kt r)).1 hr (ktAt_zero h2)
  have h4 := congrArg List.length h1
  rw [ktl_len, kts_len] at h4
  rw [idx_zero, h3, h4, Nat.zero_add]
/-- A text in parentheses. -/
def parS : Nat → Bytes → Bytes
  | 0, s => s
  | k + 1, s => [40] ++ parS k s ++ [41]
def parW : Nat → List Bytes → List Bytes
  | 0, s => s
  | k + 1, s => [40] :: (parW k s ++ [[41]])
theorem parS_len (k : Nat) (s : Bytes) : (parS k s).length = s.length + 2 * k := by
  induction k with
  | zero => rfl
  | succ k ih => simp only [parS, List.length_append, List.length_cons, List.length_nil, ih]; omega
theorem scans_par {s : Bytes} {ws : List Bytes} (h : Scans s ws) : ∀ k, Scans (parS k s) (parW k ws)
  | 0 => h
  | k + 1 => Scans.paren (scans_par h k)
theorem applied_paren {l : List Tok} {i : Nat} {ws : List (Int × Bytes)} (h : KtAt l i ((5, [40]) :: ws)) : tread l .applied i = tread l .atom i := by
  obtain ⟨x, h1, h2, _, _⟩ := ktAt_cons h
  rw [tread_applied, h1]
  simp only
  rw [if_neg (by rw [h2]; decide)]
theorem ktAt_paren {l : List Tok} {i : Nat} {W : List Bytes} {ws : List (Int × Bytes)} (h : KtAt l i (kts ([40] :: (W ++ [[41]])) ++ ws)) : KtAt l i ((5, [40]) :: (kts W ++ (5, [41]) :: ws)) := by
  rw [ktsP] at h
  exact h
theorem par_whole {t : Ty} (h : GoodT t) (l : List Tok) : ∀ (k i : Nat) (ws : List (Int × Bytes)), KtAt l i (kts (parW k (toksT t)) ++ (5, [41]) :: ws) → tread l .whole i = .ok (t, i + (parW k (toksT t)).length)
  | 0, i, ws, hk => (reads_T h l i _).1 (stopT_close ws) hk
  | k + 1, i, ws, hk => by
    have h1 := ktAt_paren hk
    have h2 := atom_paren (t := t) (kts_len _) h1 (fun h3 => par_whole h l k (i + 1) _ h3)
    rw [← applied_paren h1] at h2
    have h4 := ktAt_app hk
    rw [kts_len] at h4
    have hn : (parW (k + 1) (toksT t)).length = (parW k (toksT t)).length + 2 := by simp only [parW, List.length_cons, List.length_append, List.length_nil]
    rw [hn] at h4 ⊢
    exact whole_applied h2 h4 (stopT_close ws)
theorem par_atom {t : Ty} (h : GoodT t) (k : Nat) (hl : (parS (k + 1) (showT t)).length ≤ 4000) : tread (toksOf (parS (k + 1) (showT t))) .atom (idxOf (toksOf (parS (k + 1) (showT t))).length 0) = .ok (t, (toksOf (parS (k + 1) (showT t))).length) := by
  have h1 := kt_scan (scans_par (scans_T h) (k + 1)) hl
  have h4 := congrArg List.length h1
  rw [ktl_len, kts_len] at h4
  rw [h4, idx_zero]
  generalize toksOf (parS (k + 1) (showT t)) = l at h1
  have h0 : KtAt l 0 (kts ([40] :: (parW k (toksT t) ++ [[41]])) ++ []) := by rw [List.append_nil]; exact ktAt_zero h1
  have h2 := atom_paren (t := t) (kts_len _) (ktAt_paren h0) (fun h3 => par_whole h l k (0 + 1) _ h3)
  rw [h2]
  simp only [parW, List.length_cons, List.length_append, List.length_nil]
  congr 2
  omega
end Go.Proofs.YtcapgcohhgjngaaGreatDoor
-- sum cc73277c9c5c4e7a
/- The canonical text of an expression is read as this expression up to positions, in parentheses too. -/
namespace Go.Proofs.YtcapgcohhgjngaaGreatDoor
open Go Go.Eng Go.Th Go.Proofs
theorem stopE_nil : StopE [] := fun _ _ _ e => by cases e
theorem showE_reads {e : Ex} (h : GoodE e) (hl : (showE e).length ≤ 4000) {l r : List Tok} (he : l = toksOf (showE e) ++ r) (hr : StopE (kt r)) : ∃ y, eread l .expr (idxOf l.length 0) = .ok (y, (toksOf (showE e)).length) ∧ eraseE y = eraseE e := by
  have h1 := kt_scan (scans_E h) hl
  have h2 : kt l = kts (toksE e) ++ kt r := by
    rw [he, ← h1]
    simp [kt]
  obtain ⟨y, h3, h5⟩ := (reads_E h l 0 (kt r)).1 hr (ktAt_zero h2)
  have h4 := congrArg List.length h1
  rw [ktl_len, kts_len] at h4
  exact ⟨y, by rw [idx_zero, h3, h4, Nat.zero_add], h5⟩
theorem par_exprE {e : Ex} (h : GoodE e) (l : List Tok) : ∀ (k i : Nat) (ws : List (Int × Bytes)), KtAt l i (kts (parW k (toksE e)) ++ (5, [41]) :: ws) → ∃ y, eread l .expr i = .ok (y, i + (parW k (toksE e)).length) ∧ eraseE y = eraseE e
  | 0, i, ws, hk => (reads_E h l i _).1 (stopE_mark _ (by decide)) hk
  | k + 1, i, ws, hk => by
    have h1 := ktAt_paren hk
    obtain ⟨y, a1, a2⟩ := eatom_paren (e := e) (kts_len _) h1 (fun h3 => par_exprE h l k (i + 1) _ h3)
    have h4 := ktAt_app hk
    rw [kts_len] at h4
    have hn : (parW (k + 1) (toksE e)).length = (parW k (toksE e)).length + 2 := by simp only [parW, List.length_cons, List.length_append, List.length_nil]
    rw [hn] at h4 ⊢
    exact expr_fun (w := [40]) (.inr (.inr (.inr (.inr (.inl rfl))))) h1 h4 (stopE_mark _ (by decide)) a1 rfl a2
theorem par_atomE {e : Ex} (h : GoodE e) (k : Nat) (hl : (parS (k + 1) (showE e)).length ≤ 4000) : ∃ y, eread (toksOf (parS (k + 1) (showE e))) .atom (idxOf (toksOf (parS (k + 1) (showE e))).length 0) = .ok (y, (toksOf (parS (k + 1) (showE e))).length) ∧ eraseE y = eraseE e := by
  have h1 := kt_scan (scans_par (scans_E h) (k + 1)) hl
  have h4 := congrArg List.length h1
  rw [ktl_len, kts_len] at h4
  rw [h4, idx_zero]
  generalize toksOf (parS (k + 1) (showE e)) = l at h1
  have h0 : KtAt l 0 (kts ([40] :: (parW k (toksE e) ++ [[41]])) ++ []) := by rw [List.append_nil]; exact ktAt_zero h1
  obtain ⟨y, a1, a2⟩ := eatom_paren (e := e) (kts_len _) (ktAt_paren h0) (fun h3 => par_exprE h l k (0 + 1) _ h3)
  refine ⟨y, ?_, a2⟩
  rw [a1]
  simp only [parW, List.length_cons, List.length_append, List.length_nil]
  congr 2
  omega
end Go.Proofs.YtcapgcohhgjngaaGreatDoor
-- sum d0bed938f0bc38c7
/- The frame of a law: from a contract to the statement's call; over any program. -/
namespace Go.Eng
open Go Go.RowKit Go.ChangeShapes Go.WideShapes Go.ChangeAt
/-- All that lies in memory, taken as known. -/
def worldGhost (w : World) : Ghost := fun b o => w.cell? ⟨b, o, none⟩
theorem worldHolds (w : World) : Holds (worldGhost w) [] w := ⟨fun _ _ _ h => h, by simp, by simp [foots], by simp [foots]⟩
theorem below_of_pure {P : Program} {f : FuncId} {vals : List Value} {v : Value} {W : World} (h : Pure P f vals (worldGhost W) v) : Calls P f vals.toArray W fun e w' => e = .returned v ∧ Below W.heap.size W w' :=
  (h W (worldHolds W)).mono fun e w' ⟨v', g', own', he, ⟨h1, _, _⟩, hI⟩ => ⟨by rw [he, h1], ⟨hI.2.os, hI.2.tape, hI.2.output, hI.2.size, fun b hb => hI.2.kept b hb (by simp [foots])⟩⟩
/-- A slice of integers that came in. -/
theorem slAt_ints {P : Program} {H : Type} {enc : TypeId × Value → H} {W : World} {t e : TypeId} {k : IntKind} {a : Option Addr} {len cap : Nat} {d : DataW H} {ps : List MemPlace} (ht : P.underlying t = some (.slice e)) (he : P.underlying e = some (.int k)) (hc : P.cellsOf e = 1)
    (h : DataW.Trod enc P W 0 (fun _ => true) true t (.slice a len cap) d ps) : ∃ l : List Int, l.length = len ∧ SlAt (worldGhost W) 1 (.slice a len cap) l.length (l.map (Value.int k)) ∧ ∀ n ∈ l, (Lit.int k n).wf = true := by
  obtain ⟨fuel, hf⟩ := h
  rcases open_ints ht he hc hf with ⟨hcs, _⟩ | ⟨x, l, c, zs, hcs, _, hl, hm, hz, _, hcell, hwz⟩
  · simp [Value.cells] at hcs
    obtain ⟨rfl, rfl, rfl⟩ := hcs
    exact ⟨[], rfl, ⟨rfl, .inl ⟨⟨_, _, rfl⟩, rfl⟩⟩, by simp⟩
  · simp [Value.cells] at hcs
    obtain ⟨rfl, rfl, rfl⟩ := hcs
    simp at hz
    refine ⟨zs.take len, by simp; omega, ⟨by simp, ?_⟩, fun n hn => hwz n (List.mem_of_mem_take hn)⟩
    rcases Nat.eq_zero_or_pos len with h0 | h0
    · subst h0; exact .inl ⟨⟨_, _, rfl⟩, by simp⟩
    · obtain ⟨b, off, spot⟩ := x
      have hc0 := hcell 0 (by omega)
      have hspot : spot = none := by simpa [Addr.add] using World.cell?_spot hc0
      subst hspot
      have hlen : (zs.take len).length = len := by simp; omega
      refine .inr ⟨b, off, cap, by rw [hlen], by omega, hm, fun j v hv => ?_⟩
      simp only [List.getElem?_map, Option.map_eq_some_iff] at hv
      obtain ⟨z, hz1, rfl⟩ := hv
      rw [List.getElem?_take] at hz1
      split at hz1
      · obtain ⟨hj, hzj⟩ := List.getElem?_eq_some_iff.1 hz1
        have := hcell j hj
        rw [List.getD_eq_getElem?_getD, hz1] at this
        simpa [worldGhost, add_none] using this
      · cases hz1
end Go.Eng
-- sum 270b925d6396a6b8

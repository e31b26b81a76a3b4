/- Programs in plain words: declarations, bindings, programs, and what is read from tokens as one. No program in sight. -/
import Derived.Test.YtpjehhnaojjanaaGreatDoorK1
import Derived.WalkKit
import Derived.Deep.QuietTactic
import Derived.Deep.LoopGhost
namespace Go.Th
structure Cn where
 pos : Int
 name : Bytes
 fields : List Ty
structure Da where
 pos : Int
 name : Bytes
 params : List Bytes
 cons : List Cn
structure Bi where
 pos : Int
 isRec : Bool
 name : Bytes
 hasSig : Bool
 sig : Ty
 body : Ex
structure Pg where
 datas : List Da
 binds : List Bi
def dataB : Bytes := [100, 97, 116, 97]
def consGo (l : List Tok) : Nat → List Cn → Nat → Except Int (List Cn × Nat)
 | 0, _, j => .error (failPos l j)
 | f + 1, acc, j => match nameAt l j 2 with
  | none => .error (failPos l j)
  | some c => match tread l (.args c []) (j + 1) with
   | .error p => .error p
   | .ok (t, k) => if markAt l k [124] then consGo l f (acc ++ [⟨posOf l j, c, t.args⟩]) (k + 1)
    else if markAt l k [59] then .ok (acc ++ [⟨posOf l j, c, t.args⟩], k + 1) else .error (failPos l k)
theorem consGo_fuel (l : List Tok) : ∀ (f f' : Nat) (acc : List Cn) (j : Nat), l.length < j + f → l.length < j + f' → consGo l f acc j = consGo l f' acc j
 | 0, 0, _, _, _, _ => rfl
 | 0, f' + 1, acc, j, h, _ => by
  have : nameAt l j 2 = none := by unfold nameAt; rw [List.getElem?_eq_none (by omega)]
  simp only [consGo, this]
 | f + 1, 0, acc, j, _, h => by
  have : nameAt l j 2 = none := by unfold nameAt; rw [List.getElem?_eq_none (by omega)]
  simp only [consGo, this]
 | f + 1, f' + 1, acc, j, h, h' => by
  simp only [consGo]
  cases nameAt l j 2 with
  | none => rfl
  | some c =>
   simp only
   cases hq : tread l (.args c []) (j + 1) with
   | error p => rfl
   | ok q =>
    obtain ⟨t, k⟩ := q
    have := tread_prog l _ _ _ _ (Nat.lt_succ_self _) hq
    simp only at this ⊢
    rw [consGo_fuel l f f' _ (k + 1) (by omega) (by omega)]
def consR (l : List Tok) (acc : List Cn) (j : Nat) : Except Int (List Cn × Nat) := consGo l (l.length + 1 - j) acc j
theorem consR_eq (l : List Tok) (acc : List Cn) (j : Nat) : consR l acc j = match nameAt l j 2 with
  | none => .error (failPos l j)
  | some c => match tread l (.args c []) (j + 1) with
   | .error p => .error p
   | .ok (t, k) => if markAt l k [124] then consR l (acc ++ [⟨posOf l j, c, t.args⟩]) (k + 1)
    else if markAt l k [59] then .ok (acc ++ [⟨posOf l j, c, t.args⟩], k + 1) else .error (failPos l k) := by
 unfold consR
 rw [consGo_fuel l (l.length + 1 - j) ((l.length + 1) + 1) acc j (by omega) (by omega)]
 show (match nameAt l j 2 with
  | none => _
  | some c => _) = _
 cases nameAt l j 2 with
 | none => rfl
 | some c =>
  simp only
  cases hq : tread l (.args c []) (j + 1) with
  | error p => rfl
  | ok q =>
   obtain ⟨t, k⟩ := q
   simp only
   rw [consGo_fuel l (l.length + 1) (l.length + 1 - (k + 1)) _ (k + 1) (by omega) (by omega)]
def declR (l : List Tok) (i : Nat) : Except Int (Da × Nat) :=
 if wordAt l i dataB then match nameAt l (i + 1) 2 with
  | none => .error (failPos l (i + 1))
  | some n => if markAt l (i + 2 + (lowers (l.drop (i + 2))).length) [61] then match consR l [] (i + 2 + (lowers (l.drop (i + 2))).length + 1) with
    | .error p => .error p
    | .ok (cs, k) => .ok (⟨posOf l i, n, lowers (l.drop (i + 2)), cs⟩, k)
   else .error (failPos l (i + 2 + (lowers (l.drop (i + 2))).length))
 else .error (failPos l i)
def bodyR (l : List Tok) (mk : Ex → Bi) (k : Nat) : Except Int (Bi × Nat) :=
 if markAt l k [61] then match eread l .expr (k + 1) with
  | .error p => .error p
  | .ok (e, m) => if markAt l m [59] then .ok (mk e, m + 1) else .error (failPos l m)
 else .error (failPos l k)
def sigR (l : List Tok) (pos : Int) (r : Bool) (j : Nat) : Except Int (Bi × Nat) := match nameAt l j 1 with
 | none => .error (failPos l j)
 | some n => if markAt l (j + 1) [58] then match tread l .whole (j + 2) with
   | .error p => .error p
   | .ok (t, k) => bodyR l (fun e => ⟨pos, r, n, true, t, e⟩) k
  else bodyR l (fun e => ⟨pos, r, n, false, noT, e⟩) (j + 1)
def bindR (l : List Tok) (i : Nat) : Except Int (Bi × Nat) :=
 if wordAt l i letB then (if wordAt l (i + 1) recB then sigR l (posOf l i) true (i + 2) else sigR l (posOf l i) false (i + 1)) else .error (failPos l i)
theorem consGo_bnd (l : List Tok) : ∀ (f : Nat) (acc : List Cn) (j : Nat) (x : List Cn × Nat), consGo l f acc j = .ok x → j < x.2 ∧ x.2 ≤ l.length
 | 0, _, _, _, h => by cases h
 | f + 1, acc, j, x, h => by
  simp only [consGo] at h
  split at h
  ·cases h
  ·split at h
   ·cases h
   ·rename_i c hc t k hq
    have h1 := tread_prog l _ _ _ _ (Nat.lt_succ_self _) hq
    simp only at h1
    split at h
    ·have := consGo_bnd l f _ _ _ h; omega
    ·split at h
     ·rename_i hm
      have := tokAt_lt hm
      cases h
      simp only; omega
     ·cases h
theorem declR_bnd {l : List Tok} {i : Nat} {d : Da} {j : Nat} (h : declR l i = .ok (d, j)) : i < j ∧ j ≤ l.length := by
 unfold declR at h
 split at h
 ·split at h
  ·cases h
  ·split at h
   ·split at h
    ·cases h
    ·rename_i cs k hq
     have := consGo_bnd l _ _ _ _ hq
     cases h
     simp only at this; omega
   ·cases h
 ·cases h
theorem bodyR_bnd {l : List Tok} {mk : Ex → Bi} {i : Nat} {d : Bi} {j : Nat} (h : bodyR l mk i = .ok (d, j)) : i < j ∧ j ≤ l.length := by
 unfold bodyR at h
 split at h
 ·split at h
  ·cases h
  ·rename_i e m hq
   have := eread_le hq
   split at h
   ·rename_i hm
    have := tokAt_lt hm
    cases h; omega
   ·cases h
 ·cases h
theorem sigR_bnd {l : List Tok} {p : Int} {r : Bool} {i : Nat} {d : Bi} {j : Nat} (h : sigR l p r i = .ok (d, j)) : i < j ∧ j ≤ l.length := by
 unfold sigR at h
 split at h
 ·cases h
 ·split at h
  ·split at h
   ·cases h
   ·rename_i t k hq
    have h1 := tread_prog l _ _ _ _ (Nat.lt_succ_self _) hq
    have h2 := bodyR_bnd h
    simp only at h1; omega
  ·have h2 := bodyR_bnd h; omega
theorem bindR_bnd {l : List Tok} {i : Nat} {d : Bi} {j : Nat} (h : bindR l i = .ok (d, j)) : i < j ∧ j ≤ l.length := by
 unfold bindR at h
 split at h
 ·split at h
  ·have h2 := sigR_bnd h; omega
  ·have h2 := sigR_bnd h; omega
 ·cases h
def progGo (l : List Tok) : Nat → Pg → Nat → Except Int Pg
 | 0, p, _ => .ok p
 | f + 1, p, i => if i < l.length then (if wordAt l i dataB then match declR l i with
    | .error q => .error q
    | .ok (d, j) => progGo l f ⟨p.datas ++ [d], p.binds⟩ j
   else match bindR l i with
    | .error q => .error q
    | .ok (b, j) => progGo l f ⟨p.datas, p.binds ++ [b]⟩ j) else .ok p
theorem progGo_fuel (l : List Tok) : ∀ (f f' : Nat) (p : Pg) (i : Nat), l.length ≤ i + f → l.length ≤ i + f' → progGo l f p i = progGo l f' p i
 | 0, 0, _, _, _, _ => rfl
 | 0, f' + 1, p, i, h, _ => by simp only [progGo]; rw [if_neg (by omega)]
 | f + 1, 0, p, i, _, h => by simp only [progGo]; rw [if_neg (by omega)]
 | f + 1, f' + 1, p, i, h, h' => by
  simp only [progGo]
  split
  ·split
   ·cases hq : declR l i with
    | error q => rfl
    | ok x =>
     obtain ⟨d, j⟩ := x
     have := declR_bnd hq
     simp only
     exact progGo_fuel l f f' _ _ (by omega) (by omega)
   ·cases hq : bindR l i with
    | error q => rfl
    | ok x =>
     obtain ⟨d, j⟩ := x
     have := bindR_bnd hq
     simp only
     exact progGo_fuel l f f' _ _ (by omega) (by omega)
  ·rfl
def progR (l : List Tok) (p : Pg) (i : Nat) : Except Int Pg := progGo l (l.length - i) p i
theorem progR_eq (l : List Tok) (p : Pg) (i : Nat) : progR l p i = if i < l.length then (if wordAt l i dataB then match declR l i with
    | .error q => .error q
    | .ok (d, j) => progR l ⟨p.datas ++ [d], p.binds⟩ j
   else match bindR l i with
    | .error q => .error q
    | .ok (b, j) => progR l ⟨p.datas, p.binds ++ [b]⟩ j) else .ok p := by
 unfold progR
 rw [progGo_fuel l (l.length - i) (l.length + 1) p i (by omega) (by omega)]
 simp only [progGo]
 split
 ·split
  ·cases hq : declR l i with
   | error q => rfl
   | ok x =>
    obtain ⟨d, j⟩ := x
    simp only
    exact progGo_fuel l _ _ _ _ (by omega) (by omega)
  ·cases hq : bindR l i with
   | error q => rfl
   | ok x =>
    obtain ⟨d, j⟩ := x
    simp only
    exact progGo_fuel l _ _ _ _ (by omega) (by omega)
 ·rfl
end Go.Th
-- sum 792b6ade2bb218ac

/- The walking engine: a judgement 'Run' over symbolic slots, ghost memory and owned blocks, with one rule for each operation; over any program. -/
namespace Go.Eng
open Go Go.RowKit

abbrev Ghost := Nat → Nat → Option Value
def Ghost.le (g g' : Ghost) : Prop := ∀ b o v, g b o = some v → g' b o = some v
theorem Ghost.le_refl (g : Ghost) : Ghost.le g g := fun _ _ _ h => h
theorem Ghost.le_trans {g g' g'' : Ghost} (h : Ghost.le g g') (h' : Ghost.le g' g'') : Ghost.le g g'' := fun b o v e => h' b o v (h b o v e)

inductive Res where
 | blk (b : Nat) (T : TypeId) (cells : List Value)
 | row (T : TypeId) (size : Nat) (v : Value) (n : Nat) (xs : List Value)
 /-- A block that is known whole, whatever it is (a table of the library). -/
 | obj (b : Nat) (o : Obj)

def Res.foot : Res → List Nat
 | .blk b _ _ => [b]
 | .row _ _ v _ _ => v.ownBlock.toList
 | .obj b _ => [b]
def Res.sat (w : World) : Res → Prop
 | .blk b T cs => w.heap[b]? = some (.cells cs.toArray T (0, 0))
 | .row T size v n xs => w.ownsRow 0 T size v n xs
 | .obj b o => w.heap[b]? = some o
def foots (own : List Res) : List Nat := own.flatMap Res.foot

theorem Res.foot_lt {w : World} {r : Res} (h : r.sat w) : ∀ b ∈ r.foot, b < w.heap.size := by
 intro b hb
 cases r with
 | blk b' T cs =>
  simp only [Res.foot, List.mem_singleton] at hb
  subst hb
  exact (Array.getElem?_eq_some_iff.1 h).1
 | row T size v n xs =>
  simp only [Res.foot, Option.mem_toList] at hb
  exact (World.ownsRow.lt h b (by simpa using hb)).2
 | obj b' o =>
  simp only [Res.foot, List.mem_singleton] at hb
  subst hb
  exact (Array.getElem?_eq_some_iff.1 h).1

theorem Res.sat_keep {w w' : World} {r : Res} (h : r.sat w) (hk : ∀ b ∈ r.foot, w'.heap[b]? = w.heap[b]?) : r.sat w' := by
 cases r with
 | blk b T cs =>
  have := hk b (by simp [Res.foot])
  simp only [Res.sat] at h ⊢
  rw [this]; exact h
 | row T size v n xs =>
  simp only [Res.sat, World.ownsRow] at h ⊢
  refine ⟨h.1, ?_⟩
  rcases h.2 with hn | ⟨g, cap, cur, rfl, hb, hg, rest⟩
  ·exact .inl hn
  ·refine .inr ⟨g, cap, cur, rfl, hb, ?_, rest⟩
   rw [hk g (by simp [Res.foot, Value.ownBlock])]; exact hg
 | obj b o =>
  have := hk b (by simp [Res.foot])
  simp only [Res.sat] at h ⊢
  rw [this]; exact h

structure Holds (g : Ghost) (own : List Res) (w : World) : Prop where
 cov : ∀ b o v, g b o = some v → w.cell? ⟨b, o, none⟩ = some v
 sat : ∀ r ∈ own, r.sat w
 dis : (foots own).Nodup
 gn : ∀ b ∈ foots own, ∀ o, g b o = none

structure Since (w0 : World) (F0 : List Nat) (g0 g : Ghost) (own : List Res) (w : World) : Prop where
 size : w0.heap.size ≤ w.heap.size
 kept : ∀ b, b < w0.heap.size → b ∉ F0 → w.heap[b]? = w0.heap[b]?
 tape : w.tape = w0.tape
 os : w.os = w0.os
 output : w.output = w0.output
 gle : Ghost.le g0 g
 gnew : ∀ b o, g b o ≠ g0 b o → w0.heap.size ≤ b ∨ b ∈ F0
 ofoot : ∀ b ∈ foots own, w0.heap.size ≤ b ∨ b ∈ F0

structure Env where
 w0 : World
 F0 : List Nat
 g0 : Ghost

def Inv (E : Env) (g : Ghost) (own : List Res) (w : World) : Prop := Holds g own w ∧ Since E.w0 E.F0 E.g0 g own w

theorem foots_lt {own : List Res} {w : World} (h : ∀ r ∈ own, r.sat w) : ∀ b ∈ foots own, b < w.heap.size := by
 intro b hb
 obtain ⟨r, hr, hb'⟩ := List.mem_flatMap.1 hb
 exact Res.foot_lt (h r hr) b hb'

theorem cov_lt {g : Ghost} {w : World} (hc : ∀ b o v, g b o = some v → w.cell? ⟨b, o, none⟩ = some v) {b o : Nat} {v : Value} (h : g b o = some v) : b < w.heap.size :=
 World.block_lt_of_cell? w ⟨b, o, none⟩ (hc b o v h)

theorem cov_none {g : Ghost} {w : World} (hc : ∀ b o v, g b o = some v → w.cell? ⟨b, o, none⟩ = some v) {b : Nat} (hb : w.heap.size ≤ b) (o : Nat) : g b o = none := by
 cases h : g b o with
 | none => rfl
 | some v => exact absurd (cov_lt hc h) (by omega)

theorem Inv.move {E : Env} {g g' : Ghost} {lent got kept : List Res} {w w' : World} (hI : Inv E g (lent ++ kept) w)
  (hsz : w.heap.size ≤ w'.heap.size) (ht : w'.tape = w.tape) (ho : w'.os = w.os) (hu : w'.output = w.output)
  (hk : ∀ b, b < w.heap.size → b ∉ foots lent → w'.heap[b]? = w.heap[b]?)
  (hgl : Ghost.le g g') (hcov : ∀ b o v, g' b o = some v → w'.cell? ⟨b, o, none⟩ = some v)
  (hgn : ∀ b o, g' b o ≠ g b o → w.heap.size ≤ b ∨ b ∈ foots lent)
  (hsat : ∀ r ∈ got, r.sat w') (hdis : (foots got).Nodup) (hgnone : ∀ b ∈ foots got, ∀ o, g' b o = none)
  (hfoot : ∀ b ∈ foots got, w.heap.size ≤ b ∨ b ∈ foots lent) : Inv E g' (got ++ kept) w' := by
 obtain ⟨hH, hS⟩ := hI
 have hfl := foots_lt hH.sat
 have hfa : ∀ b, b ∈ foots (lent ++ kept) ↔ b ∈ foots lent ∨ b ∈ foots kept := by intro b; simp [foots, List.flatMap_append]
 have hfa' : ∀ b, b ∈ foots (got ++ kept) ↔ b ∈ foots got ∨ b ∈ foots kept := by intro b; simp [foots, List.flatMap_append]
 have hnd := hH.dis
 simp only [foots, List.flatMap_append] at hnd
 rw [List.nodup_append] at hnd
 have hkl : ∀ b ∈ foots kept, b < w.heap.size ∧ b ∉ foots lent := fun b hb => ⟨hfl b ((hfa b).2 (.inr hb)), fun h => hnd.2.2 b h b hb rfl⟩
 refine ⟨⟨hcov, ?_, ?_, ?_⟩, ⟨Nat.le_trans hS.size hsz, ?_, ht.trans hS.tape, ho.trans hS.os, hu.trans hS.output, Ghost.le_trans hS.gle hgl, ?_, ?_⟩⟩
 ·intro r hr
  rcases List.mem_append.1 hr with hr | hr
  ·exact hsat r hr
  ·refine Res.sat_keep (hH.sat r (List.mem_append.2 (.inr hr))) (fun b hb => ?_)
   have hb' : b ∈ foots kept := List.mem_flatMap.2 ⟨r, hr, hb⟩
   exact hk b (hkl b hb').1 (hkl b hb').2
 ·simp only [foots, List.flatMap_append]
  rw [List.nodup_append]
  refine ⟨hdis, hnd.2.1, ?_⟩
  rintro b hb c hc rfl
  rcases hfoot b hb with h | h
  ·have := (hkl b hc).1; omega
  ·exact (hkl b hc).2 h
 ·intro b hb o
  rcases (hfa' b).1 hb with hb | hb
  ·exact hgnone b hb o
  ·have h0 := hH.gn b ((hfa b).2 (.inr hb)) o
   by_cases he : g' b o = g b o
   ·rw [he]; exact h0
   ·rcases hgn b o he with h | h
    ·have := (hkl b hb).1; omega
    ·exact absurd h (hkl b hb).2
 ·intro b hb hF
  have hb' : b < w.heap.size := Nat.lt_of_lt_of_le hb hS.size
  rw [hk b hb' ?_, hS.kept b hb hF]
  intro hl
  rcases hS.ofoot b ((hfa b).2 (.inl hl)) with h | h
  ·omega
  ·exact hF h
 ·intro b o hne
  by_cases he : g' b o = g b o
  ·exact hS.gnew b o (by rwa [he] at hne)
  ·rcases hgn b o he with h | h
   ·exact .inl (Nat.le_trans hS.size h)
   ·exact hS.ofoot b ((hfa b).2 (.inl h))
 ·intro b hb
  rcases (hfa' b).1 hb with hb | hb
  ·rcases hfoot b hb with h | h
   ·exact .inl (Nat.le_trans hS.size h)
   ·exact hS.ofoot b ((hfa b).2 (.inl h))
  ·exact hS.ofoot b ((hfa b).2 (.inr hb))

theorem Inv.perm {E : Env} {g : Ghost} {own own' : List Res} {w : World} (hp : own.Perm own') (hI : Inv E g own w) : Inv E g own' w := by
 obtain ⟨hH, hS⟩ := hI
 have hf : (foots own).Perm (foots own') := hp.flatMap_right _
 exact ⟨⟨hH.cov, fun r hr => hH.sat r (hp.mem_iff.2 hr), hf.nodup_iff.1 hH.dis, fun b hb => hH.gn b (hf.mem_iff.2 hb)⟩,
  ⟨hS.size, hS.kept, hS.tape, hS.os, hS.output, hS.gle, hS.gnew, fun b hb => hS.ofoot b (hf.mem_iff.2 hb)⟩⟩

theorem foots_sub {own own' : List Res} (hs : own'.Sublist own) : (foots own').Sublist (foots own) := by
 unfold foots
 induction hs with
 | slnil => exact List.Sublist.refl _
 | cons a _ ih => simp only [List.flatMap_cons]; exact ih.trans (List.sublist_append_right _ _)
 | cons_cons a _ ih => simp only [List.flatMap_cons]; exact List.Sublist.append (List.Sublist.refl _) ih

theorem Inv.drop {E : Env} {g : Ghost} {own own' : List Res} {w : World} (hs : own'.Sublist own) (hI : Inv E g own w) : Inv E g own' w := by
 obtain ⟨hH, hS⟩ := hI
 have hf := foots_sub hs
 exact ⟨⟨hH.cov, fun r hr => hH.sat r (hs.subset hr), hf.nodup hH.dis, fun b hb => hH.gn b (hf.subset hb)⟩,
  ⟨hS.size, hS.kept, hS.tape, hS.os, hS.output, hS.gle, hS.gnew, fun b hb => hS.ofoot b (hf.subset hb)⟩⟩

theorem cov_keep {g : Ghost} {own : List Res} {w w' : World} (hH : Holds g own w) {lent : List Nat} (hl : ∀ b ∈ lent, b ∈ foots own)
  (hk : ∀ b, b < w.heap.size → b ∉ lent → w'.heap[b]? = w.heap[b]?) : ∀ b o v, g b o = some v → w'.cell? ⟨b, o, none⟩ = some v := by
 intro b o v h
 have hc := hH.cov b o v h
 have hlt := World.block_lt_of_cell? w ⟨b, o, none⟩ hc
 rw [World.cell?_of_block (w := w) (hk b hlt (fun hb => by rw [hH.gn b (hl b hb) o] at h; cases h))]
 exact hc

theorem Inv.alloc {E : Env} {g : Ghost} {own : List Res} {w : World} (hI : Inv E g own w) (T : TypeId) (cs : List Value) :
  Inv E g (.blk w.heap.size T cs :: own) (w.alloc (.cells cs.toArray T)) := by
 have hold : ∀ b, b < w.heap.size → b ∉ foots [] → (w.alloc (.cells cs.toArray T)).heap[b]? = w.heap[b]? := fun b hb _ => Below.heap_alloc w _ b hb
 refine Inv.move (lent := []) (got := [.blk w.heap.size T cs]) (kept := own) hI (by simp) rfl rfl rfl hold (Ghost.le_refl g)
  (cov_keep hI.1 (lent := []) (by simp) (fun b hb _ => Below.heap_alloc w _ b hb)) (fun b o h => absurd rfl h) ?_ ?_ ?_ ?_
 ·intro r hr
  simp only [List.mem_singleton] at hr
  subst hr
  exact heap_alloc_new w _
 ·simp [foots, Res.foot]
 ·intro b hb o
  simp only [foots, Res.foot, List.flatMap_cons, List.flatMap_nil, List.append_nil, List.mem_singleton] at hb
  subst hb
  exact cov_none hI.1.cov (Nat.le_refl _) o
 ·intro b hb
  simp only [foots, Res.foot, List.flatMap_cons, List.flatMap_nil, List.append_nil, List.mem_singleton] at hb
  exact .inl (by omega)

theorem Inv.drew {E : Env} {g : Ghost} {own : List Res} {w : World} (hI : Inv E g own w) : Inv E g own w.drew :=
 ⟨⟨hI.1.cov, fun r hr => Res.sat_keep (hI.1.sat r hr) (fun _ _ => rfl), hI.1.dis, hI.1.gn⟩, ⟨hI.2.size, hI.2.kept, hI.2.tape, hI.2.os, hI.2.output, hI.2.gle, hI.2.gnew, hI.2.ofoot⟩⟩

theorem Inv.swap {E : Env} {g : Ghost} {pre post : List Res} {r r' : Res} {w w' : World} (hI : Inv E g (pre ++ r :: post) w)
  (hsz : w.heap.size ≤ w'.heap.size) (ht : w'.tape = w.tape) (ho : w'.os = w.os) (hu : w'.output = w.output)
  (hk : ∀ b, b < w.heap.size → b ∉ r.foot → w'.heap[b]? = w.heap[b]?) (hsat : r'.sat w') (hnd : r'.foot.Nodup)
  (hfoot : ∀ b ∈ r'.foot, w.heap.size ≤ b ∨ b ∈ r.foot) : Inv E g (pre ++ r' :: post) w' := by
 have hI' : Inv E g ([r] ++ (pre ++ post)) w := hI.perm (List.perm_middle (l₁ := pre) (l₂ := post))
 have hf1 : foots [r] = r.foot := by simp [foots]
 have hf2 : foots [r'] = r'.foot := by simp [foots]
 refine (Inv.move (g' := g) (lent := [r]) (got := [r']) (kept := pre ++ post) hI' hsz ht ho hu (by rw [hf1]; exact hk) (Ghost.le_refl g) ?_ (fun b o h => absurd rfl h) ?_ (by rw [hf2]; exact hnd) ?_ (by rw [hf1, hf2]; exact hfoot)).perm (List.perm_middle (l₁ := pre) (l₂ := post)).symm
 ·exact cov_keep hI'.1 (lent := r.foot) (fun b hb => by simp [foots, List.flatMap_append]; exact .inl hb) hk
 ·intro q hq; simp only [List.mem_singleton] at hq; subst hq; exact hsat
 ·intro b hb o
  rw [hf2] at hb
  rcases hfoot b hb with h | h
  ·exact cov_none hI.1.cov h o
  ·exact hI'.1.gn b (by simp [foots, List.flatMap_append]; exact .inl h) o

theorem split_at {own : List Res} {i : Nat} {r : Res} (h : own[i]? = some r) : ∃ pre post, own = pre ++ r :: post ∧ ∀ r', own.set i r' = pre ++ r' :: post := by
 induction own generalizing i with
 | nil => simp at h
 | cons a l ih =>
  cases i with
  | zero => simp at h; subst h; exact ⟨[], l, rfl, fun _ => rfl⟩
  | succ i =>
   obtain ⟨pre, post, h1, h2⟩ := ih (by simpa using h)
   exact ⟨a :: pre, post, by rw [h1]; rfl, fun r' => by simp [h2]⟩

theorem sat_at {E : Env} {g : Ghost} {own : List Res} {w : World} (hI : Inv E g own w) {i : Nat} {r : Res} (h : own[i]? = some r) : r.sat w :=
 hI.1.sat r (List.mem_of_getElem? h)

theorem Inv.setBlk {E : Env} {g : Ghost} {own : List Res} {w : World} (hI : Inv E g own w) {i b : Nat} {T : TypeId} {cs : List Value} (h : own[i]? = some (.blk b T cs)) (cs' : List Value) :
  Inv E g (own.set i (.blk b T cs')) (w.setRow b cs'.toArray) := by
 obtain ⟨pre, post, h1, h2⟩ := split_at h
 have hs : w.heap[b]? = some (.cells cs.toArray T (0, 0)) := sat_at hI h
 rw [h2]
 rw [h1] at hI
 refine Inv.swap hI (by simp) rfl rfl rfl (fun k _ hk => setRow_other w b k _ (by simpa [Res.foot] using hk)) ?_ (by simp [Res.foot]) (fun k hk => .inr (by simpa [Res.foot] using hk))
 exact setRow_heap w b _ _ T _ hs

def Ghost.add (g : Ghost) (b : Nat) (cs : List Value) : Ghost := fun b' o => if b' = b then cs[o]? else g b' o

theorem Inv.publishBlk {E : Env} {g : Ghost} {own : List Res} {w : World} {b : Nat} {T : TypeId} {cs : List Value} (hI : Inv E g (.blk b T cs :: own) w) :
  Inv E (g.add b cs) own w ∧ Ghost.le g (g.add b cs) := by
 have hn : ∀ o, g b o = none := hI.1.gn b (by simp [foots, Res.foot])
 have hle : Ghost.le g (g.add b cs) := by
  intro b' o v h
  unfold Ghost.add
  split
  ·rename_i he; subst he; rw [hn] at h; cases h
  ·exact h
 refine ⟨?_, hle⟩
 have hs : w.heap[b]? = some (.cells cs.toArray T (0, 0)) := hI.1.sat (.blk b T cs) (by simp)
 refine Inv.move (lent := [.blk b T cs]) (got := []) (kept := own) hI (Nat.le_refl _) rfl rfl rfl (fun _ _ _ => rfl) hle ?_ ?_ (by simp) (by simp [foots]) (by simp [foots]) (by simp [foots])
 ·intro b' o v h
  unfold Ghost.add at h
  split at h
  ·rename_i he; subst he
   simp only [World.cell?, hs]
   simpa using h
  ·exact hI.1.cov b' o v h
 ·intro b' o h
  unfold Ghost.add at h
  split at h
  ·rename_i he; subst he; exact .inr (by simp [foots, Res.foot])
  ·exact absurd rfl h

def SlAt (g : Ghost) (size : Nat) (v : Value) (n : Nat) (xs : List Value) : Prop :=
 xs.length = n * size ∧ (((∃ a c, v = .slice a 0 c) ∧ n = 0) ∨ ∃ b off cap, v = .slice (some ⟨b, off, none⟩) n cap ∧ n ≤ cap ∧ cap ≤ maxLen ∧ ∀ j x, xs[j]? = some x → g b (off + j) = some x)

theorem SlAt.mono {g g' : Ghost} (hle : Ghost.le g g') {size : Nat} {v : Value} {n : Nat} {xs : List Value} (h : SlAt g size v n xs) : SlAt g' size v n xs := by
 refine ⟨h.1, ?_⟩
 rcases h.2 with h | ⟨b, off, cap, rfl, h1, h2, h3⟩
 ·exact .inl h
 ·exact .inr ⟨b, off, cap, rfl, h1, h2, fun j x hx => hle _ _ _ (h3 j x hx)⟩

theorem Inv.publishRow {E : Env} {g : Ghost} {own : List Res} {w : World} {T : TypeId} {size : Nat} {v : Value} {n : Nat} {xs : List Value} (hI : Inv E g (.row T size v n xs :: own) w) :
  ∃ g', Inv E g' own w ∧ Ghost.le g g' ∧ SlAt g' size v n xs := by
 have hs : w.ownsRow 0 T size v n xs := hI.1.sat (.row T size v n xs) (by simp)
 obtain ⟨hl, hs⟩ := hs
 rcases hs with ⟨rfl, hn⟩ | ⟨b, cap, cur, rfl, _, hg, hnc, hcm, hcs, htake⟩
 ·exact ⟨g, hI.drop (List.sublist_cons_self _ _), Ghost.le_refl g, hl, .inl ⟨⟨_, _, rfl⟩, hn⟩⟩
 ·have hn : ∀ o, g b o = none := hI.1.gn b (by simp [foots, Res.foot, Value.ownBlock])
  have hle : Ghost.le g (g.add b xs) := by
   intro b' o v h
   unfold Ghost.add
   split
   ·rename_i he; subst he; rw [hn] at h; cases h
   ·exact h
  refine ⟨g.add b xs, ?_, hle, hl, .inr ⟨b, 0, cap, rfl, hnc, hcm, fun j x hx => by simp [Ghost.add, hx]⟩⟩
  refine Inv.move (lent := [.row T size (.slice (some ⟨b, 0, none⟩) n cap) n xs]) (got := []) (kept := own) hI (Nat.le_refl _) rfl rfl rfl (fun _ _ _ => rfl) hle ?_ ?_ (by simp) (by simp [foots]) (by simp [foots]) (by simp [foots])
  ·intro b' o u h
   unfold Ghost.add at h
   split at h
   ·rename_i he; subst he
    simp only [World.cell?, hg]
    rw [← htake, List.getElem?_take] at h
    split at h
    ·simpa using h
    ·cases h
   ·exact hI.1.cov b' o u h
  ·intro b' o h
   unfold Ghost.add at h
   split at h
   ·rename_i he; subst he; exact .inr (by simp [foots, Res.foot, Value.ownBlock])
   ·exact absurd rfl h

/-! Slots. -/
abbrev Slots := List (Nat × Value)
def look : Slots → Nat → Option Value
 | [], _ => none
 | (k, v) :: r, n => bif Nat.beq k n then some v else look r n
def Sub : Slots → Slots → Prop
 | [], _ => True
 | (k, v) :: r, L => look L k = some v ∧ Sub r L

structure Fr (n : Nat) (L : Slots) (a : Act) : Prop where
 defers : a.defers = []
 size : a.tmps.size = n
 at_ : ∀ k v, look L k = some v → a.tmps[k]? = some v

theorem look_sub {L' L : Slots} (h : Sub L' L) : ∀ k v, look L' k = some v → look L k = some v := by
 induction L' with
 | nil => intro k v hk; simp [look] at hk
 | cons p r ih =>
  obtain ⟨k0, v0⟩ := p
  intro k v hk
  simp only [look] at hk
  cases hb : Nat.beq k0 k with
  | true =>
   rw [hb] at hk
   simp only [cond_true, Option.some.injEq] at hk
   have : k0 = k := Nat.eq_of_beq_eq_true hb
   subst this; subst hk
   exact h.1
  | false => rw [hb] at hk; exact ih h.2 k v hk

theorem Fr.sub {n : Nat} {L L' : Slots} {a : Act} (hs : Sub L' L) (h : Fr n L a) : Fr n L' a :=
 ⟨h.defers, h.size, fun k v hk => h.at_ k v (look_sub hs k v hk)⟩

theorem Fr.put {n d : Nat} {L : Slots} {a : Act} (hd : Nat.blt d n = true) (h : Fr n L a) (v : Value) : Fr n ((d, v) :: L) (a.put (some d) v) := by
 have hd' : d < a.tmps.size := by rw [h.size]; exact Nat.blt_eq.mp hd
 refine ⟨h.defers, by simp [Act.put, h.size], fun k u hk => ?_⟩
 simp only [look] at hk
 cases hb : Nat.beq d k with
 | true =>
  rw [hb] at hk
  simp only [cond_true, Option.some.injEq] at hk
  have : d = k := Nat.eq_of_beq_eq_true hb
  subst this; subst hk
  simp [Act.put, hd']
 | false =>
  rw [hb] at hk
  have hne : d ≠ k := Nat.ne_of_beq_eq_false hb
  have := h.at_ k u hk
  simp [Act.put, hne, this]

def ev (L : Slots) : Operand → Option Value
 | .tmp t => look L t
 | .const v => some v
 | .global g => some (.pointer (some ⟨g, 0, none⟩))
 | .func f => some (.func (.func f) #[] #[])

theorem Fr.eval {n : Nat} {L : Slots} {a : Act} {x : Operand} {v : Value} (h : Fr n L a) (hx : ev L x = some v) : a.eval x = v := by
 cases x with
 | tmp t =>
  have := h.at_ t v hx
  simp [Act.eval, this]
 | const u => simpa [ev, Act.eval] using hx
 | global g => simpa [ev, Act.eval] using hx
 | func f => simpa [ev, Act.eval] using hx

def evs (L : Slots) : List Operand → Option (List Value)
 | [] => some []
 | x :: r => match ev L x with
  | none => none
  | some v => match evs L r with
   | none => none
   | some vs => some (v :: vs)

theorem Fr.evals {n : Nat} {L : Slots} {a : Act} (h : Fr n L a) : ∀ {xs : List Operand} {vs : List Value}, evs L xs = some vs → xs.map a.eval = vs
 | [], vs, hx => by simp [evs] at hx; simp [hx]
 | x :: r, vs, hx => by
  simp only [evs] at hx
  cases h1 : ev L x with
  | none => simp [h1] at hx
  | some v =>
   cases h2 : evs L r with
   | none => simp [h1, h2] at hx
   | some us =>
    simp [h1, h2] at hx
    subst hx
    simp [h.eval h1, h.evals h2]

def Run (E : Env) (n : Nat) (L : Slots) (g : Ghost) (own : List Res) (X : Act → World → Prop) : Prop := ∀ a w, Fr n L a → Inv E g own w → X a w

section
variable {P : Program} {E : Env} {n : Nat} {L : Slots} {g : Ghost} {own : List Res} {Q : Exit → Act → World → Prop} {ops : Array Oper} {rest : List Oper}

theorem r_sub {X : Act → World → Prop} (L' : Slots) (hs : Sub L' L) (h : Run E n L' g own X) : Run E n L g own X := fun a w hF hI => h a w (hF.sub hs) hI
theorem r_perm {X : Act → World → Prop} {own' : List Res} (hp : own.Perm own') (h : Run E n L g own' X) : Run E n L g own X := fun a w hF hI => h a w hF (hI.perm hp)
theorem r_drop {X : Act → World → Prop} {own' : List Res} (hp : own'.Sublist own) (h : Run E n L g own' X) : Run E n L g own X := fun a w hF hI => h a w hF (hI.drop hp)
theorem r_publishRow {X : Act → World → Prop} {T : TypeId} {size : Nat} {v : Value} {m : Nat} {xs : List Value}
  (h : ∀ g', Ghost.le g g' → SlAt g' size v m xs → Run E n L g' own X) : Run E n L g (.row T size v m xs :: own) X := fun a w hF hI =>
 let ⟨g', h1, h2, h3⟩ := hI.publishRow
 h g' h2 h3 a w hF h1
theorem r_publishBlk {X : Act → World → Prop} {T : TypeId} {b : Nat} {cs : List Value}
  (h : ∀ g', Ghost.le g g' → (∀ j x, cs[j]? = some x → g' b j = some x) → Run E n L g' own X) : Run E n L g (.blk b T cs :: own) X := fun a w hF hI =>
 h _ hI.publishBlk.2 (fun j x hx => by simp [Ghost.add, hx]) a w hF hI.publishBlk.1

theorem r_seq {x y : Code} (h : Run E n L g own (x.wp P (Exit.then (y.wp P Q) Q))) : Run E n L g own ((Code.seq x y).wp P Q) := fun a w hF hI => wp_seq (h a w hF hI)
theorem r_region {id : Nat} {l : List Oper} (h : Run E n L g own (wpList P l.toArray Q l)) : Run E n L g own ((Code.region id l.toArray false).wp P Q) := fun a w hF hI => wp_region_lit (h a w hF hI)
theorem r_nil (h : Run E n L g own (Q .normal)) : Run E n L g own (wpList P ops Q []) := h
theorem r_skip (h : Run E n L g own (Q .normal)) : Run E n L g own (Code.skip.wp P Q) := fun a w hF hI => wp_skip (h a w hF hI)
theorem r_retc (h : Run E n L g own (Q .ret)) : Run E n L g own (Code.ret.wp P Q) := fun a w hF hI => wp_ret (h a w hF hI)
theorem r_exit {id : Nat} (h : Run E n L g own (Q (.exit id))) : Run E n L g own ((Code.exit id).wp P Q) := fun a w hF hI => wp_exit (h a w hF hI)
theorem r_block {id : Nat} {c : Code} (h : Run E n L g own (c.wp P (Exit.inBlock id Q))) : Run E n L g own ((Code.block id c).wp P Q) := fun a w hF hI => wp_block (h a w hF hI)
theorem r_then_normal {next : Act → World → Prop} (h : Run E n L g own next) : Run E n L g own (Exit.then next Q .normal) := h
theorem r_then_ret {next : Act → World → Prop} (h : Run E n L g own (Q .ret)) : Run E n L g own (Exit.then next Q .ret) := h
theorem r_then_exit {next : Act → World → Prop} {id : Nat} (h : Run E n L g own (Q (.exit id))) : Run E n L g own (Exit.then next Q (.exit id)) := h
theorem r_in_normal {id : Nat} (h : Run E n L g own (Q .normal)) : Run E n L g own (Exit.inBlock id Q .normal) := h
theorem r_in_ret {id : Nat} (h : Run E n L g own (Q .ret)) : Run E n L g own (Exit.inBlock id Q .ret) := h
theorem r_in_exit {id : Nat} (h : Run E n L g own (Q .normal)) : Run E n L g own (Exit.inBlock id Q (.exit id)) := fun a w hF hI => by simp only [Exit.inBlock, if_true]; exact h a w hF hI
theorem r_in_exit_other {id id' : Nat} (hne : Nat.beq id' id = false) (h : Run E n L g own (Q (.exit id'))) : Run E n L g own (Exit.inBlock id Q (.exit id')) := fun a w hF hI => by
 have := Nat.ne_of_beq_eq_false hne
 simp only [Exit.inBlock, this, if_false]; exact h a w hF hI

theorem r_cond_true {c : Operand} {x y : Code} (hc : ev L c = some (.bool true)) (h : Run E n L g own (x.wp P Q)) : Run E n L g own ((Code.cond c x y).wp P Q) := fun a w hF hI => wp_cond_true (hF.eval hc) (h a w hF hI)
theorem r_cond_false {c : Operand} {x y : Code} (hc : ev L c = some (.bool false)) (h : Run E n L g own (y.wp P Q)) : Run E n L g own ((Code.cond c x y).wp P Q) := fun a w hF hI => wp_cond_false (hF.eval hc) (h a w hF hI)
theorem r_cond {c : Operand} {x y : Code} {p : Prop} [Decidable p] (hc : ev L c = some (.bool (decide p))) (ht : p → Run E n L g own (x.wp P Q)) (hf : ¬ p → Run E n L g own (y.wp P Q)) :
  Run E n L g own ((Code.cond c x y).wp P Q) := fun a w hF hI =>
 wp_cond_split (hF.eval hc) (fun h => ht (by simpa using h) a w hF hI) (fun h => hf (by simpa using h) a w hF hI)

theorem r_dec {X : Act → World → Prop} (t : Nat) {p : Prop} [Decidable p] (hc : look L t = some (.bool (decide p)))
  (ht : p → Run E n ((t, .bool true) :: L) g own X) (hf : ¬ p → Run E n ((t, .bool false) :: L) g own X) : Run E n L g own X := by
 intro a w hF hI
 have hdo : ∀ v, look L t = some v → Fr n ((t, v) :: L) a := fun v hv => ⟨hF.defers, hF.size, fun k u hk => by
  simp only [look] at hk
  cases hb : Nat.beq t k with
  | true =>
   rw [hb] at hk
   simp only [cond_true, Option.some.injEq] at hk
   have : t = k := Nat.eq_of_beq_eq_true hb
   subst this; subst hk
   exact hF.at_ _ _ hv
  | false => rw [hb] at hk; exact hF.at_ k u hk⟩
 by_cases hp : p
 ·exact ht hp a w (hdo _ (by rw [hc]; simp [hp])) hI
 ·exact hf hp a w (hdo _ (by rw [hc]; simp [hp])) hI

theorem r_rw {X : Act → World → Prop} (t : Nat) {v v' : Value} (hc : look L t = some v) (he : v = v') (h : Run E n ((t, v') :: L) g own X) : Run E n L g own X := by
 subst he
 intro a w hF hI
 refine h a w ⟨hF.defers, hF.size, fun k u hk => ?_⟩ hI
 simp only [look] at hk
 cases hb : Nat.beq t k with
 | true =>
  rw [hb] at hk
  simp only [cond_true, Option.some.injEq] at hk
  have : t = k := Nat.eq_of_beq_eq_true hb
  subst this; subst hk
  exact hF.at_ _ _ hc
 | false => rw [hb] at hk; exact hF.at_ k u hk

/-! Loops. -/
def Again (E : Env) (n : Nat) {ι : Type} (Lf : ι → Slots) (gf : ι → Ghost) (of : ι → List Res) (I : ι → Prop) (μ : ι → Nat) (i : ι) : Act → World → Prop :=
 fun a w => ∃ j, I j ∧ μ j < μ i ∧ Fr n (Lf j) a ∧ Inv E (gf j) (of j) w

theorem r_loop {c : Code} {ι : Type} (Lf : ι → Slots) (gf : ι → Ghost) (of : ι → List Res) (I : ι → Prop) (μ : ι → Nat) (i0 : ι) (h0 : I i0) (hL : Sub (Lf i0) L) (hg : gf i0 = g) (ho : of i0 = own)
  (round : ∀ i, I i → Run E n (Lf i) (gf i) (of i) (c.wp P (Exit.then (Again E n Lf gf of I μ i) Q))) : Run E n L g own ((Code.loop c).wp P Q) := by
 intro a w hF hI
 subst hg; subst ho
 refine wp_loop_ghost (fun k a w => ∃ i, μ i = k ∧ I i ∧ Fr n (Lf i) a ∧ Inv E (gf i) (of i) w) (μ i0) ⟨i0, rfl, h0, hF.sub hL, hI⟩ ?_
 rintro k a w ⟨i, rfl, hi, hFi, hIi⟩
 refine wp_mono (round i hi a w hFi hIi) ?_
 intro e a' w' hq
 cases e with
 | normal =>
  obtain ⟨j, hj, hlt, hFj, hIj⟩ := hq
  exact ⟨μ j, hlt, j, rfl, hj, hFj, hIj⟩
 | exit id => exact hq
 | goto l => exact hq
 | ret => exact hq
 | panic ch => exact hq
 | outgrown => exact hq

theorem r_again {ι : Type} {Lf : ι → Slots} {gf : ι → Ghost} {of : ι → List Res} {I : ι → Prop} {μ : ι → Nat} {i : ι} (j : ι) (hj : I j) (hlt : μ j < μ i) (hL : Sub (Lf j) L) (hg : gf j = g) (ho : of j = own) :
  Run E n L g own (Again E n Lf gf of I μ i) := fun _ _ hF hI => ⟨j, hj, hlt, hF.sub hL, by rw [hg, ho]; exact hI⟩
end
end Go.Eng
-- sum 3ffeaf80fa25bd16


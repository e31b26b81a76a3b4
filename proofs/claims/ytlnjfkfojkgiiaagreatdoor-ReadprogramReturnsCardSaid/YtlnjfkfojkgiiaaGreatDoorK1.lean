/- Words for frequent proofs: each holds because a tactic shows it where the word stands. -/
import Derived.KernelRfl
import Derived.WalkKit
import Derived.Deep.QuietTactic
import Derived.Deep.LoopGhost
theorem fM {p : Prop} (h : p := by first | omega | (simp; omega)) : p := h
theorem uM {p : Prop} (h : p := by simp only; omega) : p := h
theorem nM {p : Prop} (h : p := by simp; omega) : p := h
theorem oM {p : Prop} (h : p := by omega) : p := h
theorem rL {p : Prop} (h : p := by rfl) : p := h
theorem sM {p : Prop} (h : p := by simp) : p := h
theorem dC {p : Prop} (h : p := by decide) : p := h
/- A word for a comparison by the kernel. -/
theorem kR {p : Prop} (h : p := by kernel_rfl) : p := h
/- The walking engine: a judgement 'Run' over symbolic slots, ghost memory and owned blocks, with one rule for each operation; over any program. -/
namespace Go.aZ
open Go Go.RowKit

abbrev ab := Nat → Nat → Option Value
def ab.le (g g' : ab) : Prop := ∀ b o v, g b o = some v → g' b o = some v
theorem ab.le_refl (g : ab) : ab.le g g := fun _ _ _ h => h
theorem ab.le_trans {g g' Jl : ab} (h : ab.le g g') (h' : ab.le g' Jl) : ab.le g Jl := fun b o v e => h' b o v (h b o v e)

inductive aA where
 | ae (b : Nat) (T : TypeId) (cells : List Value)
 | row (T : TypeId) (size : Nat) (v : Value) (n : Nat) (xs : List Value)
 /-- A block that is known whole, whatever it is (a table of the library). -/
 | obj (b : Nat) (o : Obj)

def aA.ew : aA → List Nat
 | .ae b _ _ => [b]
 | .row _ _ v _ _ => v.ownBlock.toList
 | .obj b _ => [b]
def aA.sat (w : World) : aA → Prop
 | .ae b T cs => w.heap[b]? = some (.cells cs.toArray T (0, 0))
 | .row T size v n xs => w.ownsRow 0 T size v n xs
 | .obj b o => w.heap[b]? = some o
def cI (own : List aA) : List Nat := own.flatMap aA.ew

theorem aA.Jm {w : World} {r : aA} (h : r.sat w) : ∀ b ∈ r.ew, b < w.heap.size := by
 intro b hb
 cases r with
 | ae b' T cs =>
  simp only [aA.ew, List.mem_singleton] at hb
  subst hb
  exact (Array.getElem?_eq_some_iff.1 h).1
 | row T size v n xs =>
  simp only [aA.ew, Option.mem_toList] at hb
  exact (World.ownsRow.lt h b (by simpa using hb)).2
 | obj b' o =>
  simp only [aA.ew, List.mem_singleton] at hb
  subst hb
  exact (Array.getElem?_eq_some_iff.1 h).1

theorem aA.Er {w w' : World} {r : aA} (h : r.sat w) (hk : ∀ b ∈ r.ew, w'.heap[b]? = w.heap[b]?) : r.sat w' := by
 cases r with
 | ae b T cs =>
  have := hk b (by simp [aA.ew])
  simp only [aA.sat] at h ⊢
  rw [this]; exact h
 | row T size v n xs =>
  simp only [aA.sat, World.ownsRow] at h ⊢
  refine ⟨h.1, ?_⟩
  rcases h.2 with hn | ⟨g, cap, cur, rfl, hb, hg, rest⟩
  ·exact .inl hn
  ·refine .inr ⟨g, cap, cur, rfl, hb, ?_, rest⟩
   rw [hk g (by simp [aA.ew, Value.ownBlock])]; exact hg
 | obj b o =>
  have := hk b (by simp [aA.ew])
  simp only [aA.sat] at h ⊢
  rw [this]; exact h

structure Holds (g : ab) (own : List aA) (w : World) : Prop where
 jF : ∀ b o v, g b o = some v → w.cell? ⟨b, o, none⟩ = some v
 sat : ∀ r ∈ own, r.sat w
 mW : (cI own).Nodup
 gn : ∀ b ∈ cI own, ∀ o, g b o = none

structure Since (w0 : World) (F0 : List Nat) (g0 g : ab) (own : List aA) (w : World) : Prop where
 size : w0.heap.size ≤ w.heap.size
 kept : ∀ b, b < w0.heap.size → b ∉ F0 → w.heap[b]? = w0.heap[b]?
 tape : w.tape = w0.tape
 os : w.os = w0.os
 output : w.output = w0.output
 mX : ab.le g0 g
 oS : ∀ b o, g b o ≠ g0 b o → w0.heap.size ≤ b ∨ b ∈ F0
 lW : ∀ b ∈ cI own, w0.heap.size ≤ b ∨ b ∈ F0

structure Env where
 w0 : World
 F0 : List Nat
 g0 : ab

def Inv (E : Env) (g : ab) (own : List aA) (w : World) : Prop := Holds g own w ∧ Since E.w0 E.F0 E.g0 g own w

theorem Sk {own : List aA} {w : World} (h : ∀ r ∈ own, r.sat w) : ∀ b ∈ cI own, b < w.heap.size := by
 intro b hb
 obtain ⟨r, hr, jX⟩ := List.mem_flatMap.1 hb
 exact aA.Jm (h r hr) b jX

theorem Sl {g : ab} {w : World} (hc : ∀ b o v, g b o = some v → w.cell? ⟨b, o, none⟩ = some v) {b o : Nat} {v : Value} (h : g b o = some v) : b < w.heap.size :=
 World.block_lt_of_cell? w ⟨b, o, none⟩ (hc b o v h)

theorem Es {g : ab} {w : World} (hc : ∀ b o v, g b o = some v → w.cell? ⟨b, o, none⟩ = some v) {b : Nat} (hb : w.heap.size ≤ b) (o : Nat) : g b o = none := by
 cases h : g b o with
 | none => rfl
 | some v => exact absurd (Sl hc h) oM

theorem Inv.move {E : Env} {g g' : ab} {lent got kept : List aA} {w w' : World} (hI : Inv E g (lent ++ kept) w)
  (bN : w.heap.size ≤ w'.heap.size) (ht : w'.tape = w.tape) (ho : w'.os = w.os) (hu : w'.output = w.output)
  (hk : ∀ b, b < w.heap.size → b ∉ cI lent → w'.heap[b]? = w.heap[b]?)
  (Sm : ab.le g g') (Sn : ∀ b o v, g' b o = some v → w'.cell? ⟨b, o, none⟩ = some v)
  (lX : ∀ b o, g' b o ≠ g b o → w.heap.size ≤ b ∨ b ∈ cI lent)
  (Et : ∀ r ∈ got, r.sat w') (So : (cI got).Nodup) (Sp : ∀ b ∈ cI got, ∀ o, g' b o = none)
  (vV : ∀ b ∈ cI got, w.heap.size ≤ b ∨ b ∈ cI lent) : Inv E g' (got ++ kept) w' := by
 obtain ⟨hH, hS⟩ := hI
 have pI := Sk hH.sat
 have uo : ∀ b, b ∈ cI (lent ++ kept) ↔ b ∈ cI lent ∨ b ∈ cI kept := by intro b; simp [cI, List.flatMap_append]
 have Jn : ∀ b, b ∈ cI (got ++ kept) ↔ b ∈ cI got ∨ b ∈ cI kept := by intro b; simp [cI, List.flatMap_append]
 have jY := hH.mW
 simp only [cI, List.flatMap_append] at jY
 rw [List.nodup_append] at jY
 have dj : ∀ b ∈ cI kept, b < w.heap.size ∧ b ∉ cI lent := fun b hb => ⟨pI b ((uo b).2 (.inr hb)), fun h => jY.2.2 b h b hb rfl⟩
 refine ⟨⟨Sn, ?_, ?_, ?_⟩, ⟨Nat.le_trans hS.size bN, ?_, ht.trans hS.tape, ho.trans hS.os, hu.trans hS.output, ab.le_trans hS.mX Sm, ?_, ?_⟩⟩
 ·intro r hr
  rcases List.mem_append.1 hr with hr | hr
  ·exact Et r hr
  ·refine aA.Er (hH.sat r (List.mem_append.2 (.inr hr))) (fun b hb => ?_)
   have jX : b ∈ cI kept := List.mem_flatMap.2 ⟨r, hr, hb⟩
   exact hk b (dj b jX).1 (dj b jX).2
 ·simp only [cI, List.flatMap_append]
  rw [List.nodup_append]
  refine ⟨So, jY.2.1, ?_⟩
  rintro b hb c hc rfl
  rcases vV b hb with h | h
  ·have := (dj b hc).1; omega
  ·exact (dj b hc).2 h
 ·intro b hb o
  rcases (Jn b).1 hb with hb | hb
  ·exact Sp b hb o
  ·have h0 := hH.gn b ((uo b).2 (.inr hb)) o
   by_cases he : g' b o = g b o
   ·rw [he]; exact h0
   ·rcases lX b o he with h | h
    ·have := (dj b hb).1; omega
    ·exact absurd h (dj b hb).2
 ·intro b hb hF
  have jX : b < w.heap.size := Nat.lt_of_lt_of_le hb hS.size
  rw [hk b jX ?_, hS.kept b hb hF]
  intro hl
  rcases hS.lW b ((uo b).2 (.inl hl)) with h | h
  ·omega
  ·exact hF h
 ·intro b o hne
  by_cases he : g' b o = g b o
  ·exact hS.oS b o (by rwa [he] at hne)
  ·rcases lX b o he with h | h
   ·exact .inl (Nat.le_trans hS.size h)
   ·exact hS.lW b ((uo b).2 (.inl h))
 ·intro b hb
  rcases (Jn b).1 hb with hb | hb
  ·rcases vV b hb with h | h
   ·exact .inl (Nat.le_trans hS.size h)
   ·exact hS.lW b ((uo b).2 (.inl h))
  ·exact hS.lW b ((uo b).2 (.inr hb))

theorem Inv.perm {E : Env} {g : ab} {own own' : List aA} {w : World} (hp : own.Perm own') (hI : Inv E g own w) : Inv E g own' w := by
 obtain ⟨hH, hS⟩ := hI
 have hf : (cI own).Perm (cI own') := hp.flatMap_right _
 exact ⟨⟨hH.jF, fun r hr => hH.sat r (hp.mem_iff.2 hr), hf.nodup_iff.1 hH.mW, fun b hb => hH.gn b (hf.mem_iff.2 hb)⟩,
  ⟨hS.size, hS.kept, hS.tape, hS.os, hS.output, hS.mX, hS.oS, fun b hb => hS.lW b (hf.mem_iff.2 hb)⟩⟩

theorem Sq {own own' : List aA} (hs : own'.Sublist own) : (cI own').Sublist (cI own) := by
 unfold cI
 induction hs with
 | slnil => exact List.Sublist.refl _
 | cons a _ ih => simp only [List.flatMap_cons]; exact ih.trans (List.sublist_append_right _ _)
 | cons_cons a _ ih => simp only [List.flatMap_cons]; exact List.Sublist.append (List.Sublist.refl _) ih

theorem Inv.drop {E : Env} {g : ab} {own own' : List aA} {w : World} (hs : own'.Sublist own) (hI : Inv E g own w) : Inv E g own' w := by
 obtain ⟨hH, hS⟩ := hI
 have hf := Sq hs
 exact ⟨⟨hH.jF, fun r hr => hH.sat r (hs.subset hr), hf.nodup hH.mW, fun b hb => hH.gn b (hf.subset hb)⟩,
  ⟨hS.size, hS.kept, hS.tape, hS.os, hS.output, hS.mX, hS.oS, fun b hb => hS.lW b (hf.subset hb)⟩⟩

theorem yZ {g : ab} {own : List aA} {w w' : World} (hH : Holds g own w) {lent : List Nat} (hl : ∀ b ∈ lent, b ∈ cI own)
  (hk : ∀ b, b < w.heap.size → b ∉ lent → w'.heap[b]? = w.heap[b]?) : ∀ b o v, g b o = some v → w'.cell? ⟨b, o, none⟩ = some v := by
 intro b o v h
 have hc := hH.jF b o v h
 have hlt := World.block_lt_of_cell? w ⟨b, o, none⟩ hc
 rw [World.cell?_of_block (w := w) (hk b hlt (fun hb => by rw [hH.gn b (hl b hb) o] at h; cases h))]
 exact hc

theorem Inv.alloc {E : Env} {g : ab} {own : List aA} {w : World} (hI : Inv E g own w) (T : TypeId) (cs : List Value) :
  Inv E g (.ae w.heap.size T cs :: own) (w.alloc (.cells cs.toArray T)) := by
 have hold : ∀ b, b < w.heap.size → b ∉ cI [] → (w.alloc (.cells cs.toArray T)).heap[b]? = w.heap[b]? := fun b hb _ => Below.heap_alloc w _ b hb
 refine Inv.move (lent := []) (got := [.ae w.heap.size T cs]) (kept := own) hI sM rfl rfl rfl hold (ab.le_refl g)
  (yZ hI.1 (lent := []) sM (fun b hb _ => Below.heap_alloc w _ b hb)) (fun b o h => absurd rfl h) ?_ ?_ ?_ ?_
 ·intro r hr
  simp only [List.mem_singleton] at hr
  subst hr
  exact heap_alloc_new w _
 ·simp [cI, aA.ew]
 ·intro b hb o
  simp only [cI, aA.ew, List.flatMap_cons, List.flatMap_nil, List.append_nil, List.mem_singleton] at hb
  subst hb
  exact Es hI.1.jF (Nat.le_refl _) o
 ·intro b hb
  simp only [cI, aA.ew, List.flatMap_cons, List.flatMap_nil, List.append_nil, List.mem_singleton] at hb
  exact .inl oM

theorem Inv.drew {E : Env} {g : ab} {own : List aA} {w : World} (hI : Inv E g own w) : Inv E g own w.drew :=
 ⟨⟨hI.1.jF, fun r hr => aA.Er (hI.1.sat r hr) (fun _ _ => rfl), hI.1.mW, hI.1.gn⟩, ⟨hI.2.size, hI.2.kept, hI.2.tape, hI.2.os, hI.2.output, hI.2.mX, hI.2.oS, hI.2.lW⟩⟩

theorem Inv.swap {E : Env} {g : ab} {pre post : List aA} {r r' : aA} {w w' : World} (hI : Inv E g (pre ++ r :: post) w)
  (bN : w.heap.size ≤ w'.heap.size) (ht : w'.tape = w.tape) (ho : w'.os = w.os) (hu : w'.output = w.output)
  (hk : ∀ b, b < w.heap.size → b ∉ r.ew → w'.heap[b]? = w.heap[b]?) (Et : r'.sat w') (jY : r'.ew.Nodup)
  (vV : ∀ b ∈ r'.ew, w.heap.size ≤ b ∨ b ∈ r.ew) : Inv E g (pre ++ r' :: post) w' := by
 have jG : Inv E g ([r] ++ (pre ++ post)) w := hI.perm (List.perm_middle (l₁ := pre) (l₂ := post))
 have gF : cI [r] = r.ew := by simp [cI]
 have mY : cI [r'] = r'.ew := by simp [cI]
 refine (Inv.move (g' := g) (lent := [r]) (got := [r']) (kept := pre ++ post) jG bN ht ho hu (by rw [gF]; exact hk) (ab.le_refl g) ?_ (fun b o h => absurd rfl h) ?_ (by rw [mY]; exact jY) ?_ (by rw [gF, mY]; exact vV)).perm (List.perm_middle (l₁ := pre) (l₂ := post)).symm
 ·exact yZ jG.1 (lent := r.ew) (fun b hb => by simp [cI, List.flatMap_append]; exact .inl hb) hk
 ·intro q hq; simp only [List.mem_singleton] at hq; subst hq; exact Et
 ·intro b hb o
  rw [mY] at hb
  rcases vV b hb with h | h
  ·exact Es hI.1.jF h o
  ·exact jG.1.gn b (by simp [cI, List.flatMap_append]; exact .inl h) o

theorem Jo {own : List aA} {i : Nat} {r : aA} (h : own[i]? = some r) : ∃ pre post, own = pre ++ r :: post ∧ ∀ r', own.set i r' = pre ++ r' :: post := by
 induction own generalizing i with
 | nil => simp at h
 | cons a l ih =>
  cases i with
  | zero => simp at h; subst h; exact ⟨[], l, rfl, fun _ => rfl⟩
  | succ i =>
   obtain ⟨pre, post, h1, h2⟩ := ih (by simpa using h)
   exact ⟨a :: pre, post, by rw [h1]; rfl, fun r' => by simp [h2]⟩

theorem mq {E : Env} {g : ab} {own : List aA} {w : World} (hI : Inv E g own w) {i : Nat} {r : aA} (h : own[i]? = some r) : r.sat w :=
 hI.1.sat r (List.mem_of_getElem? h)

theorem Inv.Jp {E : Env} {g : ab} {own : List aA} {w : World} (hI : Inv E g own w) {i b : Nat} {T : TypeId} {cs : List Value} (h : own[i]? = some (.ae b T cs)) (cs' : List Value) :
  Inv E g (own.set i (.ae b T cs')) (w.setRow b cs'.toArray) := by
 obtain ⟨pre, post, h1, h2⟩ := Jo h
 have hs : w.heap[b]? = some (.cells cs.toArray T (0, 0)) := mq hI h
 rw [h2]
 rw [h1] at hI
 refine Inv.swap hI sM rfl rfl rfl (fun k _ hk => setRow_other w b k _ (by simpa [aA.ew] using hk)) ?_ (by simp [aA.ew]) (fun k hk => .inr (by simpa [aA.ew] using hk))
 exact setRow_heap w b _ _ T _ hs

def ab.add (g : ab) (b : Nat) (cs : List Value) : ab := fun b' o => if b' = b then cs[o]? else g b' o

theorem Inv.Jq {E : Env} {g : ab} {own : List aA} {w : World} {b : Nat} {T : TypeId} {cs : List Value} (hI : Inv E g (.ae b T cs :: own) w) :
  Inv E (g.add b cs) own w ∧ ab.le g (g.add b cs) := by
 have hn : ∀ o, g b o = none := hI.1.gn b (by simp [cI, aA.ew])
 have hle : ab.le g (g.add b cs) := by
  intro b' o v h
  unfold ab.add
  split
  ·rename_i he; subst he; rw [hn] at h; cases h
  ·exact h
 refine ⟨?_, hle⟩
 have hs : w.heap[b]? = some (.cells cs.toArray T (0, 0)) := hI.1.sat (.ae b T cs) sM
 refine Inv.move (lent := [.ae b T cs]) (got := []) (kept := own) hI (Nat.le_refl _) rfl rfl rfl (fun _ _ _ => rfl) hle ?_ ?_ sM (by simp [cI]) (by simp [cI]) (by simp [cI])
 ·intro b' o v h
  unfold ab.add at h
  split at h
  ·rename_i he; subst he
   simp only [World.cell?, hs]
   simpa using h
  ·exact hI.1.jF b' o v h
 ·intro b' o h
  unfold ab.add at h
  split at h
  ·rename_i he; subst he; exact .inr (by simp [cI, aA.ew])
  ·exact absurd rfl h

def au (g : ab) (size : Nat) (v : Value) (n : Nat) (xs : List Value) : Prop :=
 xs.length = n * size ∧ (((∃ a c, v = .slice a 0 c) ∧ n = 0) ∨ ∃ b off cap, v = .slice (some ⟨b, off, none⟩) n cap ∧ n ≤ cap ∧ cap ≤ maxLen ∧ ∀ j x, xs[j]? = some x → g b (off + j) = some x)

theorem au.mono {g g' : ab} (hle : ab.le g g') {size : Nat} {v : Value} {n : Nat} {xs : List Value} (h : au g size v n xs) : au g' size v n xs := by
 refine ⟨h.1, ?_⟩
 rcases h.2 with h | ⟨b, off, cap, rfl, h1, h2, h3⟩
 ·exact .inl h
 ·exact .inr ⟨b, off, cap, rfl, h1, h2, fun j x hx => hle _ _ _ (h3 j x hx)⟩

theorem Inv.Jr {E : Env} {g : ab} {own : List aA} {w : World} {T : TypeId} {size : Nat} {v : Value} {n : Nat} {xs : List Value} (hI : Inv E g (.row T size v n xs :: own) w) :
  ∃ g', Inv E g' own w ∧ ab.le g g' ∧ au g' size v n xs := by
 have hs : w.ownsRow 0 T size v n xs := hI.1.sat (.row T size v n xs) sM
 obtain ⟨hl, hs⟩ := hs
 rcases hs with ⟨rfl, hn⟩ | ⟨b, cap, cur, rfl, _, hg, qC, hcm, hcs, Eu⟩
 ·exact ⟨g, hI.drop (List.sublist_cons_self _ _), ab.le_refl g, hl, .inl ⟨⟨_, _, rfl⟩, hn⟩⟩
 ·have hn : ∀ o, g b o = none := hI.1.gn b (by simp [cI, aA.ew, Value.ownBlock])
  have hle : ab.le g (g.add b xs) := by
   intro b' o v h
   unfold ab.add
   split
   ·rename_i he; subst he; rw [hn] at h; cases h
   ·exact h
  refine ⟨g.add b xs, ?_, hle, hl, .inr ⟨b, 0, cap, rfl, qC, hcm, fun j x hx => by simp [ab.add, hx]⟩⟩
  refine Inv.move (lent := [.row T size (.slice (some ⟨b, 0, none⟩) n cap) n xs]) (got := []) (kept := own) hI (Nat.le_refl _) rfl rfl rfl (fun _ _ _ => rfl) hle ?_ ?_ sM (by simp [cI]) (by simp [cI]) (by simp [cI])
  ·intro b' o u h
   unfold ab.add at h
   split at h
   ·rename_i he; subst he
    simp only [World.cell?, hg]
    rw [← Eu, List.getElem?_take] at h
    split at h
    ·simpa using h
    ·cases h
   ·exact hI.1.jF b' o u h
  ·intro b' o h
   unfold ab.add at h
   split at h
   ·rename_i he; subst he; exact .inr (by simp [cI, aA.ew, Value.ownBlock])
   ·exact absurd rfl h

/-! Slots. -/
abbrev dz := List (Nat × Value)
def look : dz → Nat → Option Value
 | [], _ => none
 | (k, v) :: r, n => bif Nat.beq k n then some v else look r n
def Sub : dz → dz → Prop
 | [], _ => True
 | (k, v) :: r, L => look L k = some v ∧ Sub r L

structure Fr (n : Nat) (L : dz) (a : Act) : Prop where
 defers : a.defers = []
 size : a.tmps.size = n
 at_ : ∀ k v, look L k = some v → a.tmps[k]? = some v

theorem Sr {L' L : dz} (h : Sub L' L) : ∀ k v, look L' k = some v → look L k = some v := by
 induction L' with
 | nil => intro k v hk; simp [look] at hk
 | cons p r ih =>
  obtain ⟨k0, v0⟩ := p
  intro k v hk
  simp only [look] at hk
  cases hb : Nat.beq k0 k with
  | true =>
   rw [hb] at hk
   simp only [cond_true, Option.some.injEq] at hk
   have : k0 = k := Nat.eq_of_beq_eq_true hb
   subst this; subst hk
   exact h.1
  | false => rw [hb] at hk; exact ih h.2 k v hk

theorem Fr.sub {n : Nat} {L L' : dz} {a : Act} (hs : Sub L' L) (h : Fr n L a) : Fr n L' a :=
 ⟨h.defers, h.size, fun k v hk => h.at_ k v (Sr hs k v hk)⟩

theorem Fr.put {n d : Nat} {L : dz} {a : Act} (hd : Nat.blt d n = true) (h : Fr n L a) (v : Value) : Fr n ((d, v) :: L) (a.put (some d) v) := by
 have pJ : d < a.tmps.size := by rw [h.size]; exact Nat.blt_eq.mp hd
 refine ⟨h.defers, by simp [Act.put, h.size], fun k u hk => ?_⟩
 simp only [look] at hk
 cases hb : Nat.beq d k with
 | true =>
  rw [hb] at hk
  simp only [cond_true, Option.some.injEq] at hk
  have : d = k := Nat.eq_of_beq_eq_true hb
  subst this; subst hk
  simp [Act.put, pJ]
 | false =>
  rw [hb] at hk
  have hne : d ≠ k := Nat.ne_of_beq_eq_false hb
  have := h.at_ k u hk
  simp [Act.put, hne, this]

def ev (L : dz) : Operand → Option Value
 | .tmp t => look L t
 | .const v => some v
 | .global g => some (.pointer (some ⟨g, 0, none⟩))
 | .func f => some (.func (.func f) #[] #[])

theorem Fr.eval {n : Nat} {L : dz} {a : Act} {x : Operand} {v : Value} (h : Fr n L a) (hx : ev L x = some v) : a.eval x = v := by
 cases x with
 | tmp t =>
  have := h.at_ t v hx
  simp [Act.eval, this]
 | const u => simpa [ev, Act.eval] using hx
 | global g => simpa [ev, Act.eval] using hx
 | func f => simpa [ev, Act.eval] using hx

def gS (L : dz) : List Operand → Option (List Value)
 | [] => some []
 | x :: r => match ev L x with
  | none => none
  | some v => match gS L r with
   | none => none
   | some vs => some (v :: vs)

theorem Fr.pK {n : Nat} {L : dz} {a : Act} (h : Fr n L a) : ∀ {xs : List Operand} {vs : List Value}, gS L xs = some vs → xs.map a.eval = vs
 | [], vs, hx => by simp [gS] at hx; simp [hx]
 | x :: r, vs, hx => by
  simp only [gS] at hx
  cases h1 : ev L x with
  | none => simp [h1] at hx
  | some v =>
   cases h2 : gS L r with
   | none => simp [h1, h2] at hx
   | some us =>
    simp [h1, h2] at hx
    subst hx
    simp [h.eval h1, h.pK h2]

def ah (E : Env) (n : Nat) (L : dz) (g : ab) (own : List aA) (X : Act → World → Prop) : Prop := ∀ a w, Fr n L a → Inv E g own w → X a w

section
variable {P : Program} {E : Env} {n : Nat} {L : dz} {g : ab} {own : List aA} {Q : Exit → Act → World → Prop} {ops : Array Oper} {rest : List Oper}

theorem Js {X : Act → World → Prop} (L' : dz) (hs : Sub L' L) (h : ah E n L' g own X) : ah E n L g own X := fun a w hF hI => h a w (hF.sub hs) hI
theorem ko {X : Act → World → Prop} {own' : List aA} (hp : own.Perm own') (h : ah E n L g own' X) : ah E n L g own X := fun a w hF hI => h a w hF (hI.perm hp)
theorem fF {X : Act → World → Prop} {own' : List aA} (hp : own'.Sublist own) (h : ah E n L g own' X) : ah E n L g own X := fun a w hF hI => h a w hF (hI.drop hp)
theorem bg {X : Act → World → Prop} {T : TypeId} {size : Nat} {v : Value} {m : Nat} {xs : List Value}
  (h : ∀ g', ab.le g g' → au g' size v m xs → ah E n L g' own X) : ah E n L g (.row T size v m xs :: own) X := fun a w hF hI =>
 let ⟨g', h1, h2, h3⟩ := hI.Jr
 h g' h2 h3 a w hF h1
theorem Ss {X : Act → World → Prop} {T : TypeId} {b : Nat} {cs : List Value}
  (h : ∀ g', ab.le g g' → (∀ j x, cs[j]? = some x → g' b j = some x) → ah E n L g' own X) : ah E n L g (.ae b T cs :: own) X := fun a w hF hI =>
 h _ hI.Jq.2 (fun j x hx => by simp [ab.add, hx]) a w hF hI.Jq.1

theorem kM {x y : Code} (h : ah E n L g own (x.wp P (Exit.then (y.wp P Q) Q))) : ah E n L g own ((Code.seq x y).wp P Q) := fun a w hF hI => wp_seq (h a w hF hI)
theorem Ev {id : Nat} {l : List Oper} (h : ah E n L g own (wpList P l.toArray Q l)) : ah E n L g own ((Code.region id l.toArray false).wp P Q) := fun a w hF hI => wp_region_lit (h a w hF hI)
theorem Ew (h : ah E n L g own (Q .normal)) : ah E n L g own (wpList P ops Q []) := h
theorem Jt (h : ah E n L g own (Q .normal)) : ah E n L g own (Code.skip.wp P Q) := fun a w hF hI => wp_skip (h a w hF hI)
theorem Ey (h : ah E n L g own (Q .ret)) : ah E n L g own (Code.ret.wp P Q) := fun a w hF hI => wp_ret (h a w hF hI)
theorem Ju {id : Nat} (h : ah E n L g own (Q (.exit id))) : ah E n L g own ((Code.exit id).wp P Q) := fun a w hF hI => wp_exit (h a w hF hI)
theorem Jv {id : Nat} {c : Code} (h : ah E n L g own (c.wp P (Exit.inBlock id Q))) : ah E n L g own ((Code.block id c).wp P Q) := fun a w hF hI => wp_block (h a w hF hI)
theorem Ez {next : Act → World → Prop} (h : ah E n L g own next) : ah E n L g own (Exit.then next Q .normal) := h
theorem Jw {next : Act → World → Prop} (h : ah E n L g own (Q .ret)) : ah E n L g own (Exit.then next Q .ret) := h
theorem Jx {next : Act → World → Prop} {id : Nat} (h : ah E n L g own (Q (.exit id))) : ah E n L g own (Exit.then next Q (.exit id)) := h
theorem Jy {id : Nat} (h : ah E n L g own (Q .normal)) : ah E n L g own (Exit.inBlock id Q .normal) := h
theorem Jz {id : Nat} (h : ah E n L g own (Q .ret)) : ah E n L g own (Exit.inBlock id Q .ret) := h
theorem JA {id : Nat} (h : ah E n L g own (Q .normal)) : ah E n L g own (Exit.inBlock id Q (.exit id)) := fun a w hF hI => by simp only [Exit.inBlock, if_true]; exact h a w hF hI
theorem JB {id EA : Nat} (hne : Nat.beq EA id = false) (h : ah E n L g own (Q (.exit EA))) : ah E n L g own (Exit.inBlock id Q (.exit EA)) := fun a w hF hI => by
 have := Nat.ne_of_beq_eq_false hne
 simp only [Exit.inBlock, this, if_false]; exact h a w hF hI

theorem EB {c : Operand} {x y : Code} (hc : ev L c = some (.bool true)) (h : ah E n L g own (x.wp P Q)) : ah E n L g own ((Code.cond c x y).wp P Q) := fun a w hF hI => wp_cond_true (hF.eval hc) (h a w hF hI)
theorem EC {c : Operand} {x y : Code} (hc : ev L c = some (.bool false)) (h : ah E n L g own (y.wp P Q)) : ah E n L g own ((Code.cond c x y).wp P Q) := fun a w hF hI => wp_cond_false (hF.eval hc) (h a w hF hI)
theorem an {c : Operand} {x y : Code} {p : Prop} [Decidable p] (hc : ev L c = some (.bool (decide p))) (ht : p → ah E n L g own (x.wp P Q)) (hf : ¬ p → ah E n L g own (y.wp P Q)) :
  ah E n L g own ((Code.cond c x y).wp P Q) := fun a w hF hI =>
 wp_cond_split (hF.eval hc) (fun h => ht (by simpa using h) a w hF hI) (fun h => hf (by simpa using h) a w hF hI)

theorem iJ {X : Act → World → Prop} (t : Nat) {p : Prop} [Decidable p] (hc : look L t = some (.bool (decide p)))
  (ht : p → ah E n ((t, .bool true) :: L) g own X) (hf : ¬ p → ah E n ((t, .bool false) :: L) g own X) : ah E n L g own X := by
 intro a w hF hI
 have JC : ∀ v, look L t = some v → Fr n ((t, v) :: L) a := fun v hv => ⟨hF.defers, hF.size, fun k u hk => by
  simp only [look] at hk
  cases hb : Nat.beq t k with
  | true =>
   rw [hb] at hk
   simp only [cond_true, Option.some.injEq] at hk
   have : t = k := Nat.eq_of_beq_eq_true hb
   subst this; subst hk
   exact hF.at_ _ _ hv
  | false => rw [hb] at hk; exact hF.at_ k u hk⟩
 by_cases hp : p
 ·exact ht hp a w (JC _ (by rw [hc]; simp [hp])) hI
 ·exact hf hp a w (JC _ (by rw [hc]; simp [hp])) hI

theorem ED {X : Act → World → Prop} (t : Nat) {v v' : Value} (hc : look L t = some v) (he : v = v') (h : ah E n ((t, v') :: L) g own X) : ah E n L g own X := by
 subst he
 intro a w hF hI
 refine h a w ⟨hF.defers, hF.size, fun k u hk => ?_⟩ hI
 simp only [look] at hk
 cases hb : Nat.beq t k with
 | true =>
  rw [hb] at hk
  simp only [cond_true, Option.some.injEq] at hk
  have : t = k := Nat.eq_of_beq_eq_true hb
  subst this; subst hk
  exact hF.at_ _ _ hc
 | false => rw [hb] at hk; exact hF.at_ k u hk

/-! Loops. -/
def dJ (E : Env) (n : Nat) {ι : Type} (Lf : ι → dz) (gf : ι → ab) (of : ι → List aA) (I : ι → Prop) (μ : ι → Nat) (i : ι) : Act → World → Prop :=
 fun a w => ∃ j, I j ∧ μ j < μ i ∧ Fr n (Lf j) a ∧ Inv E (gf j) (of j) w

theorem aX {c : Code} {ι : Type} (Lf : ι → dz) (gf : ι → ab) (of : ι → List aA) (I : ι → Prop) (μ : ι → Nat) (i0 : ι) (h0 : I i0) (hL : Sub (Lf i0) L) (hg : gf i0 = g) (ho : of i0 = own)
  (round : ∀ i, I i → ah E n (Lf i) (gf i) (of i) (c.wp P (Exit.then (dJ E n Lf gf of I μ i) Q))) : ah E n L g own ((Code.loop c).wp P Q) := by
 intro a w hF hI
 subst hg; subst ho
 refine wp_loop_ghost (fun k a w => ∃ i, μ i = k ∧ I i ∧ Fr n (Lf i) a ∧ Inv E (gf i) (of i) w) (μ i0) ⟨i0, rfl, h0, hF.sub hL, hI⟩ ?_
 rintro k a w ⟨i, rfl, hi, Su, Sv⟩
 refine wp_mono (round i hi a w Su Sv) ?_
 intro e a' w' hq
 cases e with
 | normal =>
  obtain ⟨j, hj, hlt, Sw, Sx⟩ := hq
  exact ⟨μ j, hlt, j, rfl, hj, Sw, Sx⟩
 | exit id => exact hq
 | goto l => exact hq
 | ret => exact hq
 | panic ch => exact hq
 | outgrown => exact hq

theorem aM {ι : Type} {Lf : ι → dz} {gf : ι → ab} {of : ι → List aA} {I : ι → Prop} {μ : ι → Nat} {i : ι} (j : ι) (hj : I j) (hlt : μ j < μ i) (hL : Sub (Lf j) L) (hg : gf j = g) (ho : of j = own) :
  ah E n L g own (dJ E n Lf gf of I μ i) := fun _ _ hF hI => ⟨j, hj, hlt, hF.sub hL, by rw [hg, ho]; exact hI⟩
end
end Go.aZ


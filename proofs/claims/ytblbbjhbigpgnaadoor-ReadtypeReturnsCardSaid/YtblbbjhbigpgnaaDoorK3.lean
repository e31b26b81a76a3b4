/- Programs in plain words: declarations, bindings, programs, and what is read from tokens as one. No program in sight. -/
import Derived.Test.YtblbbjhbigpgnaaDoorK2
import Derived.Test.YtblbbjhbigpgnaaDoorK1
import Derived.Test.YtblbbjhbigpgnaaDoorExF
namespace Go.Th
structure Cn where
  pos : Int
  name : Bytes
  fields : List Ty
structure Da where
  pos : Int
  name : Bytes
  params : List Bytes
  cons : List Cn
structure Bi where
  pos : Int
  isRec : Bool
  name : Bytes
  hasSig : Bool
  sig : Ty
  body : Ex
structure Pg where
  datas : List Da
  binds : List Bi
def dataB : Bytes := [100, 97, 116, 97]
/-- The constructors from an index on, to the semicolon. -/
def consGo (l : List Tok) : Nat → List Cn → Nat → Except Int (List Cn × Nat)
  | 0, _, j => .error (failPos l j)
  | f + 1, acc, j => match nameAt l j 2 with
    | none => .error (failPos l j)
    | some c => match tread l (.args c []) (j + 1) with
      | .error p => .error p
      | .ok (t, k) => if markAt l k [124] then consGo l f (acc ++ [⟨posOf l j, c, t.args⟩]) (k + 1)
        else if markAt l k [59] then .ok (acc ++ [⟨posOf l j, c, t.args⟩], k + 1) else .error (failPos l k)
theorem consGo_fuel (l : List Tok) : ∀ (f f' : Nat) (acc : List Cn) (j : Nat), l.length < j + f → l.length < j + f' → consGo l f acc j = consGo l f' acc j
  | 0, 0, _, _, _, _ => rfl
  | 0, f' + 1, acc, j, h, _ => by
    have : nameAt l j 2 = none := by unfold nameAt; rw [List.getElem?_eq_none (by omega)]
    simp only [consGo, this]
  | f + 1, 0, acc, j, _, h => by
    have : nameAt l j 2 = none := by unfold nameAt; rw [List.getElem?_eq_none (by omega)]
    simp only [consGo, this]
  | f + 1, f' + 1, acc, j, h, h' => by
    simp only [consGo]
    cases nameAt l j 2 with
    | none => rfl
    | some c =>
      simp only
      cases hq : tread l (.args c []) (j + 1) with
      | error p => rfl
      | ok q =>
        obtain ⟨t, k⟩ := q
        have := tread_prog l _ _ _ _ (Nat.lt_succ_self _) hq
        simp only at this ⊢
        rw [consGo_fuel l f f' _ (k + 1) (by omega) (by omega)]
def consR (l : List Tok) (acc : List Cn) (j : Nat) : Except Int (List Cn × Nat) := consGo l (l.length + 1 - j) acc j
theorem consR_eq (l : List Tok) (acc : List Cn) (j : Nat) : consR l acc j = match nameAt l j 2 with
    | none => .error (failPos l j)
    | some c => match tread l (.args c []) (j + 1) with
      | .error p => .error p
      | .ok (t, k) => if markAt l k [124] then consR l (acc ++ [⟨posOf l j, c, t.args⟩]) (k + 1)
        else if markAt l k [59] then .ok (acc ++ [⟨posOf l j, c, t.args⟩], k + 1) else .error (failPos l k) := by
  unfold consR
  rw [consGo_fuel l (l.length + 1 - j) ((l.length + 1) + 1) acc j (by omega) (by omega)]
  show (match nameAt l j 2 with
    | none => _
    | some c => _) = _
  cases nameAt l j 2 with
  | none => rfl
  | some c =>
    simp only
    cases hq : tread l (.args c []) (j + 1) with
    | error p => rfl
    | ok q =>
      obtain ⟨t, k⟩ := q
      simp only
      rw [consGo_fuel l (l.length + 1) (l.length + 1 - (k + 1)) _ (k + 1) (by omega) (by omega)]
/-- A declaration of data. -/
def declR (l : List Tok) (i : Nat) : Except Int (Da × Nat) :=
  if wordAt l i dataB then match nameAt l (i + 1) 2 with
    | none => .error (failPos l (i + 1))
    | some n => if markAt l (i + 2 + (lowers (l.drop (i + 2))).length) [61] then match consR l [] (i + 2 + (lowers (l.drop (i + 2))).length + 1) with
        | .error p => .error p
        | .ok (cs, k) => .ok (⟨posOf l i, n, lowers (l.drop (i + 2)), cs⟩, k)
      else .error (failPos l (i + 2 + (lowers (l.drop (i + 2))).length))
  else .error (failPos l i)
/-- What stands behind a binding's name and type. -/
def bodyR (l : List Tok) (mk : Ex → Bi) (k : Nat) : Except Int (Bi × Nat) :=
  if markAt l k [61] then match eread l .expr (k + 1) with
    | .error p => .error p
    | .ok (e, m) => if markAt l m [59] then .ok (mk e, m + 1) else .error (failPos l m)
  else .error (failPos l k)
def sigR (l : List Tok) (pos : Int) (r : Bool) (j : Nat) : Except Int (Bi × Nat) := match nameAt l j 1 with
  | none => .error (failPos l j)
  | some n => if markAt l (j + 1) [58] then match tread l .whole (j + 2) with
      | .error p => .error p
      | .ok (t, k) => bodyR l (fun e => ⟨pos, r, n, true, t, e⟩) k
    else bodyR l (fun e => ⟨pos, r, n, false, noT, e⟩) (j + 1)
/-- A binding. -/
def bindR (l : List Tok) (i : Nat) : Except Int (Bi × Nat) :=
  if wordAt l i letB then (if wordAt l (i + 1) recB then sigR l (posOf l i) true (i + 2) else sigR l (posOf l i) false (i + 1)) else .error (failPos l i)
theorem consGo_bnd (l : List Tok) : ∀ (f : Nat) (acc : List Cn) (j : Nat) (x : List Cn × Nat), consGo l f acc j = .ok x → j < x.2 ∧ x.2 ≤ l.length
  | 0, _, _, _, h => by cases h
  | f + 1, acc, j, x, h => by
    simp only [consGo] at h
    split at h
    · cases h
    · split at h
      · cases h
      · rename_i c hc t k hq
        have h1 := tread_prog l _ _ _ _ (Nat.lt_succ_self _) hq
        simp only at h1
        split at h
        · have := consGo_bnd l f _ _ _ h; omega
        · split at h
          · rename_i hm
            have := tokAt_lt hm
            cases h
            simp only; omega
          · cases h
theorem declR_bnd {l : List Tok} {i : Nat} {d : Da} {j : Nat} (h : declR l i = .ok (d, j)) : i < j ∧ j ≤ l.length := by
  unfold declR at h
  split at h
  · split at h
    · cases h
    · split at h
      · split at h
        · cases h
        · rename_i cs k hq
          have := consGo_bnd l _ _ _ _ hq
          cases h
          simp only at this; omega
      · cases h
  · cases h
theorem bodyR_bnd {l : List Tok} {mk : Ex → Bi} {i : Nat} {d : Bi} {j : Nat} (h : bodyR l mk i = .ok (d, j)) : i < j ∧ j ≤ l.length := by
  unfold bodyR at h
  split at h
  · split at h
    · cases h
    · rename_i e m hq
      have := eread_le hq
      split at h
      · rename_i hm
        have := tokAt_lt hm
        cases h; omega
      · cases h
  · cases h
theorem sigR_bnd {l : List Tok} {p : Int} {r : Bool} {i : Nat} {d : Bi} {j : Nat} (h : sigR l p r i = .ok (d, j)) : i < j ∧ j ≤ l.length := by
  unfold sigR at h
  split at h
  · cases h
  · split at h
    · split at h
      · cases h
      · rename_i t k hq
        have h1 := tread_prog l _ _ _ _ (Nat.lt_succ_self _) hq
        have h2 := bodyR_bnd h
        simp only at h1; omega
    · have h2 := bodyR_bnd h; omega
theorem bindR_bnd {l : List Tok} {i : Nat} {d : Bi} {j : Nat} (h : bindR l i = .ok (d, j)) : i < j ∧ j ≤ l.length := by
  unfold bindR at h
  split at h
  · split at h
    · have h2 := sigR_bnd h; omega
    · have h2 := sigR_bnd h; omega
  · cases h
/-- The declarations and bindings from an index on. -/
def progGo (l : List Tok) : Nat → Pg → Nat → Except Int Pg
  | 0, p, _ => .ok p
  | f + 1, p, i => if i < l.length then (if wordAt l i dataB then match declR l i with
        | .error q => .error q
        | .ok (d, j) => progGo l f ⟨p.datas ++ [d], p.binds⟩ j
      else match bindR l i with
        | .error q => .error q
        | .ok (b, j) => progGo l f ⟨p.datas, p.binds ++ [b]⟩ j) else .ok p
theorem progGo_fuel (l : List Tok) : ∀ (f f' : Nat) (p : Pg) (i : Nat), l.length ≤ i + f → l.length ≤ i + f' → progGo l f p i = progGo l f' p i
  | 0, 0, _, _, _, _ => rfl
  | 0, f' + 1, p, i, h, _ => by simp only [progGo]; rw [if_neg (by omega)]
  | f + 1, 0, p, i, _, h => by simp only [progGo]; rw [if_neg (by omega)]
  | f + 1, f' + 1, p, i, h, h' => by
    simp only [progGo]
    split
    · split
      · cases hq : declR l i with
        | error q => rfl
        | ok x =>
          obtain ⟨d, j⟩ := x
          have := declR_bnd hq
          simp only
          exact progGo_fuel l f f' _ _ (by omega) (by omega)
      · cases hq : bindR l i with
        | error q => rfl
        | ok x =>
          obtain ⟨d, j⟩ := x
          have := bindR_bnd hq
          simp only
          exact progGo_fuel l f f' _ _ (by omega) (by omega)
    · rfl
def progR (l : List Tok) (p : Pg) (i : Nat) : Except Int Pg := progGo l (l.length - i) p i
theorem progR_eq (l : List Tok) (p : Pg) (i : Nat) : progR l p i = if i < l.length then (if wordAt l i dataB then match declR l i with
        | .error q => .error q
        | .ok (d, j) => progR l ⟨p.datas ++ [d], p.binds⟩ j
      else match bindR l i with
        | .error q => .error q
        | .ok (b, j) => progR l ⟨p.datas, p.binds ++ [b]⟩ j) else .ok p := by
  unfold progR
  rw [progGo_fuel l (l.length - i) (l.length + 1) p i (by omega) (by omega)]
  simp only [progGo]
  split
  · split
    · cases hq : declR l i with
      | error q => rfl
      | ok x =>
        obtain ⟨d, j⟩ := x
        simp only
        exact progGo_fuel l _ _ _ _ (by omega) (by omega)
    · cases hq : bindR l i with
      | error q => rfl
      | ok x =>
        obtain ⟨d, j⟩ := x
        simp only
        exact progGo_fuel l _ _ _ _ (by omega) (by omega)
  · rfl
end Go.Th
-- sum 792b6ade2bb218ac
/- Declarations, bindings and programs in memory. -/
namespace Go.Proofs.YtblbbjhbigpgnaaDoor
open Go Go.Eng Go.Th Go.Proofs
/-- A constructor's cells. -/
def CnAt (g : Ghost) (c : Cn) (cs : List Value) : Prop := ∃ sf xf, cs = [.int .i64 c.pos, str c.name, sf] ∧ SlAt g 5 sf c.fields.length xf ∧ TysAt g c.fields xf
def DaAt (g : Ghost) (d : Da) (cs : List Value) : Prop := ∃ sp sc xc, cs = [.int .i64 d.pos, str d.name, sp, sc] ∧ SlAt g 1 sp d.params.length (d.params.map str) ∧ SlAt g 3 sc d.cons.length xc ∧ AllAt (CnAt g) d.cons xc
def BiAt (g : Ghost) (x : Bi) (cs : List Value) : Prop := ∃ tc ec, cs = [.int .i64 x.pos, .bool x.isRec, str x.name, .bool x.hasSig] ++ (tc ++ ec) ∧ TyAt g x.sig tc ∧ ExAt g x.body ec
def PgAt (g : Ghost) (p : Pg) (cs : List Value) : Prop := ∃ sd xd sb xb, cs = [sd, sb] ∧ SlAt g 4 sd p.datas.length xd ∧ AllAt (DaAt g) p.datas xd ∧ SlAt g 20 sb p.binds.length xb ∧ AllAt (BiAt g) p.binds xb
theorem CnAt.mono {g g' : Ghost} (hle : Ghost.le g g') {c : Cn} {cs : List Value} (h : CnAt g c cs) : CnAt g' c cs := by
  obtain ⟨sf, xf, h1, h2, h3⟩ := h
  exact ⟨sf, xf, h1, h2.mono hle, h3.mono hle⟩
theorem cns_mono {g g' : Ghost} (hle : Ghost.le g g') {l : List Cn} {xs : List Value} (h : AllAt (CnAt g) l xs) : AllAt (CnAt g') l xs := AllAt.mono (fun _ _ h => h.mono hle) h
theorem DaAt.mono {g g' : Ghost} (hle : Ghost.le g g') {d : Da} {cs : List Value} (h : DaAt g d cs) : DaAt g' d cs := by
  obtain ⟨sp, sc, xc, h1, h2, h3, h4⟩ := h
  exact ⟨sp, sc, xc, h1, h2.mono hle, h3.mono hle, cns_mono hle h4⟩
theorem das_mono {g g' : Ghost} (hle : Ghost.le g g') {l : List Da} {xs : List Value} (h : AllAt (DaAt g) l xs) : AllAt (DaAt g') l xs := AllAt.mono (fun _ _ h => h.mono hle) h
theorem BiAt.mono {g g' : Ghost} (hle : Ghost.le g g') {d : Bi} {cs : List Value} (h : BiAt g d cs) : BiAt g' d cs := by
  obtain ⟨tc, ec, h1, h2, h3⟩ := h
  exact ⟨tc, ec, h1, h2.mono hle, h3.mono hle⟩
theorem bis_mono {g g' : Ghost} (hle : Ghost.le g g') {l : List Bi} {xs : List Value} (h : AllAt (BiAt g) l xs) : AllAt (BiAt g') l xs := AllAt.mono (fun _ _ h => h.mono hle) h
theorem PgAt.mono {g g' : Ghost} (hle : Ghost.le g g') {p : Pg} {cs : List Value} (h : PgAt g p cs) : PgAt g' p cs := by
  obtain ⟨sd, xd, sb, xb, h1, h2, h3, h4, h5⟩ := h
  exact ⟨sd, xd, sb, xb, h1, h2.mono hle, das_mono hle h3, h4.mono hle, bis_mono hle h5⟩
theorem CnAt.one {g : Ghost} {c : Cn} {cs : List Value} (h : CnAt g c cs) : cs.length = 3 ∧ ∀ u ∈ cs, oneC u = true := by
  obtain ⟨sf, xf, rfl, h2, h3⟩ := h
  obtain ⟨a, m, k, rfl⟩ := SlAt.form h2
  exact ⟨rfl, by simp [oneC]⟩
theorem DaAt.one {g : Ghost} {c : Da} {cs : List Value} (h : DaAt g c cs) : cs.length = 4 ∧ ∀ u ∈ cs, oneC u = true := by
  obtain ⟨sp, sc, xc, rfl, h2, h3, h4⟩ := h
  obtain ⟨a, m, k, rfl⟩ := SlAt.form h2
  obtain ⟨a', m', k', rfl⟩ := SlAt.form h3
  exact ⟨rfl, by simp [oneC]⟩
theorem BiAt.one {g : Ghost} {c : Bi} {cs : List Value} (h : BiAt g c cs) : cs.length = 20 ∧ ∀ u ∈ cs, oneC u = true := by
  obtain ⟨tc, ec, rfl, h2, h3⟩ := h
  have h4 := h2.one
  have h5 := h3.one
  refine ⟨by simp [h4.1, h5.1], fun u hu => ?_⟩
  rcases List.mem_append.1 hu with hu | hu
  · simp only [List.mem_cons, List.not_mem_nil, or_false] at hu
    rcases hu with rfl | rfl | rfl | rfl <;> rfl
  · rcases List.mem_append.1 hu with hu | hu
    · exact h4.2 u hu
    · exact h5.2 u hu
def DaV (g : Ghost) (v : Value) (d : Da) : Prop := ∃ cs, v = .agg cs.toArray ∧ DaAt g d cs
def BiV (g : Ghost) (v : Value) (x : Bi) : Prop := ∃ cs, v = .agg cs.toArray ∧ BiAt g x cs
def PgV (g : Ghost) (v : Value) (x : Pg) : Prop := ∃ cs, v = .agg cs.toArray ∧ PgAt g x cs
theorem DaAt.form {g : Ghost} {d : Da} {cs : List Value} (h : DaAt g d cs) : ∃ (a1 : Option Addr) (c1 : Nat) (a2 : Option Addr) (c2 : Nat) (xc : List Value), cs = [.int .i64 d.pos, str d.name, .slice a1 d.params.length c1, .slice a2 d.cons.length c2] ∧
    SlAt g 1 (.slice a1 d.params.length c1) d.params.length (d.params.map str) ∧ SlAt g 3 (.slice a2 d.cons.length c2) d.cons.length xc ∧ AllAt (CnAt g) d.cons xc := by
  obtain ⟨sp, sc, xc, rfl, h2, h3, h4⟩ := h
  have f : ∀ {size n : Nat} {v : Value} {xs : List Value}, SlAt g size v n xs → ∃ a c, v = .slice a n c := by
    intro size n v xs h
    rcases h.2 with ⟨⟨a, c, rfl⟩, h0⟩ | ⟨b, off, cap, rfl, _⟩
    · exact ⟨_, _, by rw [h0]⟩
    · exact ⟨_, _, rfl⟩
  obtain ⟨a1, c1, rfl⟩ := f h2
  obtain ⟨a2, c2, rfl⟩ := f h3
  exact ⟨a1, c1, a2, c2, xc, rfl, h2, h3, h4⟩
end Go.Proofs.YtblbbjhbigpgnaaDoor
-- sum e3d406f7f7374c19
/- The walks of the reference's reader of programs (typedholesref7): declaration. -/
namespace Go.Proofs.YtblbbjhbigpgnaaDoor
open Go Go.Eng Go.Th Go.Proofs
set_option maxRecDepth 10000
set_option maxHeartbeats 4000000
attribute [local irreducible] wpList Code.wp Run bodyPost Go.Eng.Ends Exit.then Exit.inBlock Again Wq Kq
def postD (l : List Tok) (i : Nat) (b : Nat) (lv : Value) (r : Except Int (Da × Nat)) (v : Value) (g' : Ghost) (r' : Res) : Prop := match r with
  | .ok (d, j) => DaV g' v d ∧ r' = rdB b lv (.good j) ∧ i < j ∧ j ≤ l.length
  | .error p => (∃ d, DaV g' v d) ∧ ∃ j, j ≤ l.length ∧ r' = rdB b lv (.bad j p)
/-- What the constructors' list and the semicolon behind it give, from a state of the reader. -/
def ConsS (l : List Tok) (R : Except Int (List Cn × Nat)) (acc : List Cn) : RS → Prop
  | .good j => j ≤ l.length ∧ acc.length ≤ j ∧ R = consR l acc j
  | .bad j p => j ≤ l.length ∧ R = .error p
def ConsE (l : List Tok) (R : Except Int (List Cn × Nat)) (acc : List Cn) : RS → Prop
  | .good m => m ≤ l.length ∧ R = if markAt l m [59] then .ok (acc, m + 1) else .error (failPos l m)
  | .bad j p => j ≤ l.length ∧ R = .error p
def consStep (l : List Tok) (acc : List Cn) (pos : Int) (c : Bytes) (t : Ty) (k : Nat) : Except Int (List Cn × Nat) :=
  if markAt l k [124] then consR l (acc ++ [⟨pos, c, t.args⟩]) (k + 1) else if markAt l k [59] then .ok (acc ++ [⟨pos, c, t.args⟩], k + 1) else .error (failPos l k)
/-- The fields of a constructor. -/
def FldS (l : List Tok) (R : Except Int (List Cn × Nat)) (acc : List Cn) (pos : Int) (c : Bytes) (n0 : Nat) (fs : List Ty) : RS → Prop
  | .good k => k ≤ l.length ∧ n0 + fs.length < k ∧ R = match tread l (.args c fs) k with
    | .error p => .error p
    | .ok (t, k') => consStep l acc pos c t k'
  | .bad j p => j ≤ l.length ∧ R = .error p
theorem decl_head {l : List Tok} (hkw : KW l) {i : Nat} (hi : i ≤ l.length) {s1 s3 : RS} {vs : List Bytes} (hs1 : s1 = RS.need l dataB (.good i)) (hv : VarsR l (s1.word l 2) s3 vs) (hk : s3.kindIs l 1 = false) :
    match s3.need l [61] with
    | .bad j p => j ≤ l.length ∧ declR l i = .error p
    | .good k => k ≤ l.length ∧ i < k ∧ declR l i = match consR l [] k with
      | .error p => .error p
      | .ok (cs, m) => .ok (⟨posOf l i, s1.text l 2, vs, cs⟩, m) := by
  have hp : isAt l i dataB = wordAt l i dataB := isAt_word hkw (by decide) i
  unfold declR
  cases hw : wordAt l i dataB with
  | false =>
    rw [(skip_no (hp.trans hw)).2] at hs1
    subst hs1
    obtain ⟨rfl, rfl⟩ := hv
    exact ⟨hi, rfl⟩
  | true =>
    have hlt := tokAt_lt hw
    rw [(skip_yes (hp.trans hw)).2.1] at hs1
    subst hs1
    simp only [if_true]
    cases h2 : kindAt l (i + 1) 2 with
    | false =>
      obtain ⟨e1, e2, e3⟩ := nameAt_no h2
      rw [e2] at hv
      obtain ⟨rfl, rfl⟩ := hv
      rw [e1]
      exact ⟨hlt, rfl⟩
    | true =>
      obtain ⟨e1, e2, hlt2⟩ := nameAt_yes h2
      rw [e2] at hv
      obtain ⟨rfl, hv2, hv3⟩ := hv
      have hk' : kindAt l (i + 1 + 1 + vs.length) 1 = false := hk
      rw [lowers_stop hk', List.append_nil] at hv3
      rw [e1]
      simp only
      rw [show i + 2 = i + 1 + 1 from rfl, hv3]
      have hq : isAt l (i + 1 + 1 + vs.length) [61] = markAt l (i + 1 + 1 + vs.length) [61] := isAt_mark hkw (by decide) _
      cases h3 : markAt l (i + 1 + 1 + vs.length) [61] with
      | false =>
        rw [(skip_no (hq.trans h3)).2]
        exact ⟨hv2, rfl⟩
      | true =>
        have hlt3 := tokAt_lt h3
        rw [(skip_yes (hq.trans h3)).2.1]
        exact ⟨hlt3, by omega, rfl⟩
theorem fld_start {l : List Tok} {R : Except Int (List Cn × Nat)} {acc : List Cn} {j : Nat} (h : ConsS l R acc (.good j)) : FldS l R acc (posOf l j) (RS.text l 2 (.good j)) acc.length [] (RS.word l 2 (.good j)) := by
  obtain ⟨h1, h2, h3⟩ := h
  rw [consR_eq] at h3
  cases hk : kindAt l j 2 with
  | false =>
    obtain ⟨e1, e2, e3⟩ := nameAt_no hk
    rw [e2]
    rw [e1] at h3
    exact ⟨h1, h3⟩
  | true =>
    obtain ⟨e1, e2, hlt⟩ := nameAt_yes hk
    rw [e2]
    rw [e1] at h3
    exact ⟨hlt, by simp; omega, h3⟩
theorem cns_snoc {g : Ghost} {l : List Cn} {xs : List Value} {p : Int} {c : Bytes} {fs : List Ty} {sf : Value} {xf : List Value} (h : AllAt (CnAt g) l xs) (h1 : SlAt g 5 sf fs.length xf) (h2 : TysAt g fs xf) :
    AllAt (CnAt g) (l ++ [⟨p, c, fs⟩]) (xs ++ [.int .i64 p, str c, sf]) := AllAt.snoc ⟨sf, xf, rfl, h1, h2⟩ h
theorem cns_one {g : Ghost} {l : List Cn} {xs : List Value} (h : AllAt (CnAt g) l xs) : xs.length = l.length * 3 ∧ ∀ u ∈ xs, oneC u = true := AllAt.one (fun _ _ h => h.one) h
theorem starts_rs {l : List Tok} (hkw : KW l) (j : Nat) : (RS.kindIs l 1 (.good j) || RS.kindIs l 2 (.good j) || RS.isIs l [40] (.good j)) = startsAt l j := by
  show (kindAt l j 1 || kindAt l j 2 || isAt l j [40]) = _
  rw [isAt_mark hkw (by decide)]
  unfold startsAt startsT markAt tokAt kindAt
  cases l[j]? <;> rfl
theorem decl7_spec {l : List Tok} (hb : TB l) (hkw : KW l) (g : Ghost) (lv : Value) (b i : Nat) (hs : ToksAt g lv l) (hi : i ≤ l.length) :
    SpecL Tryd.prog 65 [ptr b 0] g (rdB b lv (.good i)) (postD l i b lv (declR l i)) := by
  have hb1 := hb.1
  refine spec_of_run Tryd.func65 rfl Tryd.ntmps65 rfl fun E hE => ?_
  refine r_sr ?_
  refine r_alloc rfl (fun b2 => ?_)
  refine r_nn ?_; refine r_sr ?_; refine r_ev rfl rfl ?_
  refine r_callO 1 rfl rfl rfl (Pos5_spec g l lv hs b (.good i)) ?_
  rw [show posAt l (RS.good i).idx = posOf l i from rfl]
  refine r_build rfl rfl (by rfl) ?_
  refine r_alloc rfl (fun b3 => ?_)
  refine r_storeA 0 rfl rfl rfl rfl (by rfl) (by repeat' (first | exact rfl | assumption | refine all_cons ?_ ?_)) rfl ?_; refine r_nn ?_; refine r_sr ?_; refine r_ev rfl rfl ?_
  refine r_callL 2 rfl rfl rfl (Need5_spec g l hb lv hs b (.good i) hi dataB) ?_
  rintro v g0 r' ⟨rfl, rfl⟩ _
  have hok0 : (RS.need l dataB (.good i)).ok l := RS.need_ok (s := .good i) hi
  obtain ⟨s1, hs1⟩ : ∃ s, s = RS.need l dataB (.good i) := ⟨_, rfl⟩
  rw [← hs1] at hok0 ⊢
  refine r_nn ?_; refine r_sr ?_; refine r_ev rfl rfl ?_
  refine r_callL 2 rfl rfl rfl (Word5_spec g0 l hb lv hs b s1 hok0 2) ?_
  rintro v g0 r' ⟨rfl, rfl, rfl⟩ _
  have hok1 : (s1.word l 2).ok l := RS.word_ok hok0
  refine r_fieldAddr rfl rfl ?_; refine r_store1 0 rfl rfl rfl rfl rfl rfl ?_; refine r_nn ?_
  -- STOPA
  refine r_cutG (ι := RS × List Bytes × Value) (fun p => [(0, ptr b 0), (2, ptr b2 0), (3, ptr b3 0)]) (fun _ => g0)
    (fun p => [.row 9 1 p.2.2 p.2.1.length (p.2.1.map str), .blk b3 62 [.int .i64 (posOf l i), str (s1.text l 2), p.2.2, .slice none 0 0], .blk b2 62 [.int .i64 0, str [], .slice none 0 0, .slice none 0 0], rdB b lv p.1])
    (fun p => (∃ a m c, p.2.2 = .slice a m c) ∧ VarsR l (s1.word l 2) p.1 p.2.1 ∧ p.1.kindIs l 1 = false) ?_ ?_
  · rintro ⟨s3, vs, vv⟩ ⟨⟨va, vm, vc, q1⟩, q2, q3⟩
    simp only at q1 q2 q3
    subst q1
    have hh := decl_head hkw hi hs1 q2 q3
    have hok3 : s3.ok l := q2.ok hok1
    have hvl := q2.len hok1
    show Run E _ [(0, ptr b 0), (2, ptr b2 0), (3, ptr b3 0)] g0 [.row 9 1 (.slice va vm vc) vs.length (vs.map str), .blk b3 62 [.int .i64 (posOf l i), str (s1.text l 2), .slice va vm vc, .slice none 0 0], .blk b2 62 [.int .i64 0, str [], .slice none 0 0, .slice none 0 0], rdB b lv s3] _
    refine r_publishRow (fun g1 hg1 hv1 => ?_)
    have hs1' := hs.mono hg1
    refine r_sr ?_; refine r_ev rfl rfl ?_
    refine r_callL 2 rfl rfl rfl (Need5_spec g1 l hb lv hs1' b s3 hok3 [61]) ?_
    rintro v g1 r' ⟨rfl, rfl⟩ _
    generalize s3.need l [61] = s4 at hh
    -- the constructors
    have hR : ∃ R : Except Int (List Cn × Nat), ConsS l R [] s4 ∧ (declR l i = match R with | .error p => .error p | .ok (cs, m) => .ok (⟨posOf l i, s1.text l 2, vs, cs⟩, m)) := by
      cases s4 with
      | bad j p => exact ⟨.error p, ⟨hh.1, rfl⟩, hh.2⟩
      | good k => exact ⟨consR l [] k, ⟨hh.1, by simp, rfl⟩, hh.2.2⟩
    obtain ⟨R, hc0, hdecl⟩ := hR
    refine r_nn ?_
    -- STOPB
    refine r_cutG (ι := RS × List Cn × Value × Ghost) (fun p => [(0, ptr b 0), (2, ptr b2 0), (3, ptr b3 0)]) (fun p => p.2.2.2)
      (fun p => [.blk b3 62 [.int .i64 (posOf l i), str (s1.text l 2), .slice va vm vc, p.2.2.1], .blk b2 62 [.int .i64 0, str [], .slice none 0 0, .slice none 0 0], rdB b lv p.1])
      (fun p => Ghost.le g1 p.2.2.2 ∧ (∃ xc, SlAt p.2.2.2 3 p.2.2.1 p.2.1.length xc ∧ AllAt (CnAt p.2.2.2) p.2.1 xc) ∧ ConsE l R p.2.1 p.1) ?_ ?_
    · rintro ⟨s, acc, sc, g2⟩ ⟨k1, ⟨xc, k2, k3⟩, k4⟩
      simp only at k1 k2 k3 k4
      obtain ⟨ca, cm, cc, rfl⟩ := SlAt.form k2
      have hs2 := hs1'.mono k1
      show Run E _ [(0, ptr b 0), (2, ptr b2 0), (3, ptr b3 0)] g2 [.blk b3 62 [.int .i64 (posOf l i), str (s1.text l 2), .slice va vm vc, .slice ca cm cc], .blk b2 62 [.int .i64 0, str [], .slice none 0 0, .slice none 0 0], rdB b lv s] _
      have hok : s.ok l := by
        cases s with
        | good j => exact k4.1
        | bad j p => exact k4.1
      have hV : DaV g2 (.agg #[.int .i64 (posOf l i), str (s1.text l 2), .slice va vm vc, .slice ca cm cc]) ⟨posOf l i, s1.text l 2, vs, acc⟩ := ⟨_, rfl, _, _, xc, rfl, hv1.mono k1, k2, k3⟩
      refine r_sr ?_; refine r_ev rfl rfl ?_
      refine r_callL 2 rfl rfl rfl (Need5_spec g2 l hb lv hs2 b s hok [59]) ?_
      rintro v g3 r' ⟨rfl, rfl⟩ _
      refine r_nn ?_; refine r_sr ?_; refine r_loadB 0 rfl rfl rfl (by rfl) ?_; refine r_storeA 1 rfl rfl rfl rfl (by rfl) (by repeat' (first | exact rfl | assumption | refine all_cons ?_ ?_)) rfl ?_; refine r_nn ?_; refine r_retc ?_
      refine r_retA [_] rfl (res_blk 1 rfl rfl (by rfl)) (.cons _ (.cons _ (List.Sublist.refl _))) ⟨_, rfl, ?_⟩
      cases s with
      | bad j p =>
        obtain ⟨h1, h2⟩ := k4
        rw [h2] at hdecl
        rw [hdecl]
        exact ⟨⟨_, hV⟩, j, h1, rfl⟩
      | good j =>
        obtain ⟨h1, h2⟩ := k4
        have hp : isAt l j [59] = markAt l j [59] := isAt_mark hkw (by decide) j
        cases hk : markAt l j [59] with
        | true =>
          rw [hk] at h2
          simp only [if_true] at h2
          rw [h2] at hdecl
          simp only at hdecl
          have := declR_bnd hdecl
          rw [(skip_yes (hp.trans hk)).2.1, hdecl]
          exact ⟨hV, rfl, this.1, this.2⟩
        | false =>
          rw [hk] at h2
          simp only [Bool.false_eq_true, if_false] at h2
          rw [h2] at hdecl
          simp only at hdecl
          rw [(skip_no (hp.trans hk)).2, hdecl]
          exact ⟨⟨_, hV⟩, j, h1, rfl⟩
    · intro K hK
      refine r_block ?_
      refine r_nilRow 123 3 ?_
      refine r_loop (ι := RS × List Cn × Value × List Value × Ghost) (fun p => [(0, ptr b 0), (2, ptr b2 0), (3, ptr b3 0)]) (fun p => p.2.2.2.2)
        (fun p => [.row 123 3 p.2.2.1 p.2.1.length p.2.2.2.1, .blk b3 62 [.int .i64 (posOf l i), str (s1.text l 2), .slice va vm vc, p.2.2.1], .blk b2 62 [.int .i64 0, str [], .slice none 0 0, .slice none 0 0], rdB b lv p.1])
        (fun p => Ghost.le g1 p.2.2.2.2 ∧ (∃ a m c, p.2.2.1 = .slice a m c) ∧ AllAt (CnAt p.2.2.2.2) p.2.1 p.2.2.2.1 ∧ ConsS l R p.2.1 p.1 ∧ p.2.1.length ≤ l.length)
        (fun p => p.1.left l) (s4, [], .slice none 0 0, [], g1) ⟨Ghost.le_refl _, ⟨_, _, _, rfl⟩, rfl, hc0, by simp⟩ ⟨rfl, rfl, rfl, trivial⟩ rfl rfl ?_
      rintro ⟨s, acc, sc, xc, g2⟩ ⟨k1, ⟨ca, cm, cc, k2⟩, k3, k4, k5⟩
      simp only at k1 k2 k3 k4 k5
      subst k2
      have hs2 := hs1'.mono k1
      show Run E _ [(0, ptr b 0), (2, ptr b2 0), (3, ptr b3 0)] g2 [.row 123 3 (.slice ca cm cc) acc.length xc, .blk b3 62 [.int .i64 (posOf l i), str (s1.text l 2), .slice va vm vc, .slice ca cm cc], .blk b2 62 [.int .i64 0, str [], .slice none 0 0, .slice none 0 0], rdB b lv s] _
      cases s with
      | bad j p =>
        obtain ⟨h1, h2⟩ := k4
        refine r_seq ?_; refine r_sr ?_; refine r_ev rfl rfl ?_; refine r_ev rfl rfl ?_; refine r_fieldAddr rfl rfl ?_; refine r_loadB1 3 rfl rfl rfl rfl ?_; refine r_ev rfl rfl ?_; refine r_nn ?_; refine r_cond_false rfl ?_; refine r_exit ?_; refine r_then_exit ?_; refine r_then_exit ?_; refine r_in_exit ?_; refine r_then_normal ?_
        refine r_publishRow (fun g3 hg3 ha3 => ?_)
        exact hK (.bad j p, acc, .slice ca cm cc, g3) _ ⟨Ghost.le_trans k1 hg3, ⟨xc, ha3, cns_mono hg3 k3⟩, h1, h2⟩ ⟨rfl, rfl, rfl, trivial⟩
      | good j =>
        have hfs := fld_start k4
        obtain ⟨hjl, hacl, _⟩ := k4
        refine r_seq ?_; refine r_sr ?_; refine r_ev rfl rfl ?_; refine r_ev rfl rfl ?_; refine r_fieldAddr rfl rfl ?_; refine r_loadB1 3 rfl rfl rfl rfl ?_; refine r_ev rfl rfl ?_; refine r_nn ?_; refine r_cond_true rfl ?_; refine r_skip ?_; refine r_then_normal ?_; refine r_block ?_; refine r_sr ?_; refine r_ev rfl rfl ?_
        refine r_callO 3 rfl rfl rfl (Pos5_spec g2 l lv hs2 b (.good j)) ?_
        rw [show posAt l (RS.good j).idx = posOf l j from rfl]
        refine r_ev rfl rfl ?_
        refine r_callL 3 rfl rfl rfl (Word5_spec g2 l hb lv hs2 b (.good j) hjl 2) ?_
        rintro v g2' r' ⟨rfl, rfl, rfl⟩ _
        obtain ⟨cn, hcn⟩ : ∃ c, c = RS.text l 2 (.good j) := ⟨_, rfl⟩
        rw [← hcn] at hfs ⊢
        refine r_build rfl rfl (by rfl) ?_
        refine r_alloc rfl (fun b4 => ?_)
        refine r_storeA 0 rfl rfl rfl rfl (by rfl) rfl rfl ?_; refine r_nn ?_
        have hok5 : (RS.word l 2 (.good j)).ok l := RS.word_ok (s := .good j) hjl
        have hleft5 : ∀ k, RS.word l 2 (.good j) = .good k → k = j + 1 := by
          intro k hk
          cases h : kindAt l j 2 with
          | true => rw [(nameAt_yes h).2.1] at hk; cases hk; rfl
          | false => rw [(nameAt_no h).2.1] at hk; cases hk
        generalize RS.word l 2 (.good j) = s5 at hfs hok5 hleft5
        -- STOPC
        refine r_cutG (ι := RS × List Ty × Value × Ghost) (fun p => [(0, ptr b 0), (2, ptr b2 0), (3, ptr b3 0), (4, ptr b4 0)]) (fun p => p.2.2.2)
          (fun p => [.blk b4 123 [.int .i64 (posOf l j), str cn, p.2.2.1], .row 123 3 (.slice ca cm cc) acc.length xc, .blk b3 62 [.int .i64 (posOf l i), str (s1.text l 2), .slice va vm vc, .slice ca cm cc], .blk b2 62 [.int .i64 0, str [], .slice none 0 0, .slice none 0 0], rdB b lv p.1])
          (fun p => Ghost.le g2' p.2.2.2 ∧ (∃ xf, SlAt p.2.2.2 5 p.2.2.1 p.2.1.length xf ∧ TysAt p.2.2.2 p.2.1 xf) ∧ (match p.1 with
            | .good k => k ≤ l.length ∧ j < k ∧ R = consStep l acc (posOf l j) cn (conT cn p.2.1) k
            | .bad j' p' => j' ≤ l.length ∧ R = .error p')) ?_ ?_
        · rintro ⟨s6, fs, sf, g3⟩ ⟨m1, ⟨xf, m2, m3⟩, m4⟩
          simp only at m1 m2 m3 m4
          obtain ⟨fa, fm, fc, rfl⟩ := SlAt.form m2
          have hs3 := hs2.mono m1
          show Run E _ [(0, ptr b 0), (2, ptr b2 0), (3, ptr b3 0), (4, ptr b4 0)] g3 [.blk b4 123 [.int .i64 (posOf l j), str cn, .slice fa fm fc], .row 123 3 (.slice ca cm cc) acc.length xc, .blk b3 62 [.int .i64 (posOf l i), str (s1.text l 2), .slice va vm vc, .slice ca cm cc], .blk b2 62 [.int .i64 0, str [], .slice none 0 0, .slice none 0 0], rdB b lv s6] _
          have hok6 : s6.ok l := by
            cases s6 with
            | good j => exact m4.1
            | bad j p => exact m4.1
          have hsn := cns_snoc (p := posOf l j) (c := cn) (cns_mono m1 k3) m2 m3
          refine r_sr ?_; refine r_fieldAddr rfl rfl ?_; refine r_loadB1 2 rfl rfl rfl rfl ?_; refine r_loadB 0 rfl rfl rfl (by rfl) ?_
          refine r_buildSlice rfl rfl (by rfl) (by rfl) (by rfl) (by rfl) (by rfl) (fun b41 => ?_)
          refine r_appendRow 2 0 rfl rfl rfl rfl rfl (by rfl) (by rfl) rfl (by unfold maxLen; omega) (by omega) (fun v' hv' => ?_)
          refine r_rowForm 2 rfl ?_
          rintro ⟨ya, ym, yc, rfl⟩
          refine r_drop (own' := [_, _, _, _]) (.cons _ (.cons _ (List.Sublist.refl _))) ?_
          refine r_fieldAddr rfl rfl ?_; refine r_store1 1 rfl rfl rfl rfl rfl rfl ?_; refine r_nn ?_; refine r_sr ?_; refine r_ev rfl rfl ?_
          refine r_callL 3 rfl rfl rfl (Skip5_spec g3 l hb lv hs3 b s6 hok6 [124]) ?_
          rintro v g4 r' ⟨rfl, rfl, rfl⟩ _
          cases s6 with
          | bad j' p' =>
            obtain ⟨h1, h2⟩ := m4
            refine r_ev rfl rfl ?_; refine r_nn ?_; refine r_cond_true rfl ?_; refine r_exit ?_; refine r_in_exit_other rfl ?_; refine r_then_exit ?_; refine r_in_exit ?_; refine r_then_normal ?_
            refine r_publishRow (fun g5 hg5 ha5 => ?_)
            exact hK (.bad j' p', acc ++ [⟨posOf l j, cn, fs⟩], .slice ya ym yc, g5) _ ⟨Ghost.le_trans k1 (Ghost.le_trans m1 hg5), ⟨_, by rw [List.length_append]; exact ha5, cns_mono hg5 hsn⟩, h1, h2⟩ ⟨rfl, rfl, rfl, trivial⟩
          | good k =>
            obtain ⟨h1, h1', h2⟩ := m4
            have hp : isAt l k [124] = markAt l k [124] := isAt_mark hkw (by decide) k
            rw [show RS.isIs l [124] (.good k) = markAt l k [124] from hp]
            unfold consStep at h2
            cases hk : markAt l k [124] with
            | true =>
              have hlt := tokAt_lt hk
              rw [hk] at h2
              simp only [if_true] at h2
              rw [(skip_yes (hp.trans hk)).1]
              refine r_ev rfl rfl ?_; refine r_nn ?_; refine r_cond_false rfl ?_; refine r_skip ?_; refine r_in_normal ?_; refine r_then_normal ?_
              refine r_again (.good (k + 1), acc ++ [⟨posOf l j, cn, fs⟩], .slice ya ym yc, _, g4) ⟨Ghost.le_trans k1 m1, ⟨_, _, _, rfl⟩, hsn, ⟨hlt, by simp only [List.length_append, List.length_cons, List.length_nil]; omega, h2⟩, by simp only [List.length_append, List.length_cons, List.length_nil]; omega⟩ (by simp only [RS.left]; omega) ⟨rfl, rfl, rfl, trivial⟩ rfl ?_
              simp [repN]
            | false =>
              rw [hk] at h2
              simp only [Bool.false_eq_true, if_false] at h2
              rw [(skip_no (hp.trans hk)).1]
              refine r_ev rfl rfl ?_; refine r_nn ?_; refine r_cond_true rfl ?_; refine r_exit ?_; refine r_in_exit_other rfl ?_; refine r_then_exit ?_; refine r_in_exit ?_; refine r_then_normal ?_
              refine r_publishRow (fun g5 hg5 ha5 => ?_)
              exact hK (.good k, acc ++ [⟨posOf l j, cn, fs⟩], .slice ya ym yc, g5) _ ⟨Ghost.le_trans k1 (Ghost.le_trans m1 hg5), ⟨_, by rw [List.length_append]; exact ha5, cns_mono hg5 hsn⟩, h1, h2⟩ ⟨rfl, rfl, rfl, trivial⟩
        · intro K2 hK2
          refine r_block ?_
          refine r_nilRow 30 5 ?_
          refine r_loop (ι := RS × List Ty × Value × List Value × Ghost) (fun p => [(0, ptr b 0), (2, ptr b2 0), (3, ptr b3 0), (4, ptr b4 0)]) (fun p => p.2.2.2.2)
            (fun p => [.row 30 5 p.2.2.1 p.2.1.length p.2.2.2.1, .blk b4 123 [.int .i64 (posOf l j), str cn, p.2.2.1], .row 123 3 (.slice ca cm cc) acc.length xc, .blk b3 62 [.int .i64 (posOf l i), str (s1.text l 2), .slice va vm vc, .slice ca cm cc], .blk b2 62 [.int .i64 0, str [], .slice none 0 0, .slice none 0 0], rdB b lv p.1])
            (fun p => Ghost.le g2' p.2.2.2.2 ∧ (∃ a m c, p.2.2.1 = .slice a m c) ∧ TysAt p.2.2.2.2 p.2.1 p.2.2.2.1 ∧ FldS l R acc (posOf l j) cn acc.length p.2.1 p.1 ∧ p.2.1.length ≤ l.length ∧ (∀ k, p.1 = .good k → j < k))
            (fun p => p.1.left l) (s5, [], .slice none 0 0, [], g2') ⟨Ghost.le_refl _, ⟨_, _, _, rfl⟩, tysNil _, hfs, by simp, fun k hk => by have := hleft5 k hk; omega⟩ ⟨rfl, rfl, rfl, rfl, trivial⟩ rfl rfl ?_
          rintro ⟨s6, fs, sf, xf, g3⟩ ⟨m1, ⟨fa, fm, fc, m2⟩, m3, m4, m5, m6⟩
          simp only at m1 m2 m3 m4 m5 m6
          subst m2
          have hs3 := hs2.mono m1
          show Run E _ [(0, ptr b 0), (2, ptr b2 0), (3, ptr b3 0), (4, ptr b4 0)] g3 [.row 30 5 (.slice fa fm fc) fs.length xf, .blk b4 123 [.int .i64 (posOf l j), str cn, .slice fa fm fc], .row 123 3 (.slice ca cm cc) acc.length xc, .blk b3 62 [.int .i64 (posOf l i), str (s1.text l 2), .slice va vm vc, .slice ca cm cc], .blk b2 62 [.int .i64 0, str [], .slice none 0 0, .slice none 0 0], rdB b lv s6] _
          cases s6 with
          | bad j' p' =>
            obtain ⟨h1, h2⟩ := m4
            refine r_seq ?_; refine r_sr ?_; refine r_ev rfl rfl ?_
            refine r_callO 5 rfl rfl rfl (Atoms5_spec g3 l lv hs3 b (.bad j' p')) ?_
            refine r_nn ?_; refine r_cond_false rfl ?_; refine r_exit ?_; refine r_then_exit ?_; refine r_then_exit ?_; refine r_in_exit ?_; refine r_then_normal ?_
            refine r_publishRow (fun g4 hg4 ha4 => ?_)
            exact hK2 (.bad j' p', fs, .slice fa fm fc, g4) _ ⟨Ghost.le_trans m1 hg4, ⟨xf, ha4, m3.mono hg4⟩, h1, h2⟩ ⟨rfl, rfl, rfl, rfl, trivial⟩
          | good k =>
            obtain ⟨h1, h1', h2⟩ := m4
            have hjk := m6 k rfl
            rw [tread_args] at h2
            refine r_seq ?_; refine r_sr ?_; refine r_ev rfl rfl ?_
            refine r_callO 5 rfl rfl rfl (Atoms5_spec g3 l lv hs3 b (.good k)) ?_
            rw [starts_rs hkw k]
            cases hst : startsAt l k with
            | false =>
              rw [hst] at h2
              simp only [Bool.false_eq_true, if_false] at h2
              refine r_nn ?_; refine r_cond_false rfl ?_; refine r_exit ?_; refine r_then_exit ?_; refine r_then_exit ?_; refine r_in_exit ?_; refine r_then_normal ?_
              refine r_publishRow (fun g4 hg4 ha4 => ?_)
              exact hK2 (.good k, fs, .slice fa fm fc, g4) _ ⟨Ghost.le_trans m1 hg4, ⟨xf, ha4, m3.mono hg4⟩, h1, hjk, h2⟩ ⟨rfl, rfl, rfl, rfl, trivial⟩
            | true =>
              rw [hst] at h2
              simp only [if_true] at h2
              refine r_nn ?_; refine r_cond_true rfl ?_; refine r_skip ?_; refine r_then_normal ?_; refine r_block ?_
              refine m_begin 6 [5, 0] mixed (by kernel_rfl) (fun hG => ?_)
              refine m_takeX 0 rfl (by kernel_rfl) rfl hG (by first | exact Ghost.le_refl _ | assumption) (by repeat' (first | exact List.nil_sublist _ | refine List.Sublist.cons_cons _ ?_ | refine List.Sublist.cons _ ?_)) ?_; refine ⟨_, (val_fieldAddr rfl), ?_⟩; refine m_takeX 1 rfl (by kernel_rfl) rfl hG (by first | exact Ghost.le_refl _ | assumption) (by repeat' (first | exact List.nil_sublist _ | refine List.Sublist.cons_cons _ ?_ | refine List.Sublist.cons _ ?_)) ?_; refine ⟨_, (val_loadB1 0 rfl rfl rfl), ?_⟩; refine m_takeX 2 rfl (by kernel_rfl) rfl hG (by first | exact Ghost.le_refl _ | assumption) (by repeat' (first | exact List.nil_sublist _ | refine List.Sublist.cons_cons _ ?_ | refine List.Sublist.cons _ ?_)) ?_; refine ⟨_, (val_ev rfl), ?_⟩
              refine m_one 3 (by kernel_rfl) rfl rfl ?_
              refine r_callL 5 rfl rfl rfl (RAtom5_spec hb hkw g3 lv b k hs3 h1) ?_
              rintro w g4 r' hw hle4
              have hat : ∃ (x : Ty) (s7 : RS), TyV g4 w x ∧ r' = rdB b lv s7 ∧ FldS l R acc (posOf l j) cn acc.length (fs ++ [x]) s7 ∧ (∀ k', s7 = .good k' → k < k') := by
                cases hq : tread l .atom k with
                | error p =>
                  rw [hq] at hw h2
                  obtain ⟨⟨x, hx⟩, j', hj', rfl⟩ := hw
                  exact ⟨x, .bad j' p, hx, rfl, ⟨hj', h2⟩, fun k' h => by cases h⟩
                | ok q =>
                  obtain ⟨x, k'⟩ := q
                  rw [hq] at hw h2
                  obtain ⟨hx, rfl, h3, h4⟩ := hw
                  simp only at h2
                  rw [if_pos h3] at h2
                  exact ⟨x, .good k', hx, rfl, ⟨h4, by simp only [List.length_append, List.length_cons, List.length_nil]; omega, h2⟩, fun k'' h => by cases h; exact h3⟩
              obtain ⟨x, s7, hx, rfl, hf7, hk7⟩ := hat
              obtain ⟨a2, m2', c2, rfl, ht2⟩ := hx.cells5
              refine r_nn ?_
              refine h_kept hG (by first | exact Ghost.le_refl _ | assumption) (by repeat' (first | exact List.nil_sublist _ | refine List.Sublist.cons_cons _ ?_ | refine List.Sublist.cons _ ?_)) ?_
              refine m_one 4 (by kernel_rfl) rfl rfl ?_
              refine r_buildSlice rfl rfl (by rfl) (by rfl) (by rfl) (by rfl) (by rfl) (fun b41 => ?_)
              refine r_nn ?_
              refine h_kept hG (by first | exact Ghost.le_refl _ | assumption) (by repeat' (first | exact List.nil_sublist _ | refine List.Sublist.cons_cons _ ?_ | refine List.Sublist.cons _ ?_)) ?_
              refine m_one 5 (by kernel_rfl) rfl rfl ?_
              refine r_appendRow 1 0 rfl rfl rfl rfl rfl (by rfl) (by rfl) rfl (by unfold maxLen; omega) (by omega) (fun v' hv' => ?_)
              refine r_rowForm 1 rfl ?_
              rintro ⟨ya, ym, yc, rfl⟩
              refine r_nn ?_
              refine h_kept hG (by first | exact Ghost.le_refl _ | assumption) (by repeat' (first | exact List.nil_sublist _ | refine List.Sublist.cons_cons _ ?_ | refine List.Sublist.cons _ ?_)) ?_
              refine m_done (by kernel_rfl) ?_
              refine r_drop (own' := [_, _, _, _, _, _]) (.cons _ (List.Sublist.refl _)) ?_
              refine r_fieldAddr rfl rfl ?_; refine r_store1 1 rfl rfl rfl rfl rfl rfl ?_; refine r_nil ?_; refine r_in_normal ?_; refine r_then_normal ?_
              refine r_again (s7, fs ++ [x], .slice ya ym yc, xf ++ tyCells x (.slice a2 m2' c2), g4) ⟨Ghost.le_trans m1 hle4, ⟨_, _, _, rfl⟩, TysAt.snoc ht2 (m3.mono hle4), hf7, ?_, fun k' h => Nat.lt_trans hjk (hk7 k' h)⟩ ?_ ⟨rfl, rfl, rfl, rfl, trivial⟩ rfl ?_
              · simp only [List.length_append, List.length_cons, List.length_nil]; omega
              · cases s7 with
                | bad j' p => simp only [RS.left]; omega
                | good k' =>
                  have := hk7 k' rfl
                  have h9 : k' ≤ l.length := hf7.1
                  simp only [RS.left]; omega
              · simp [tyCells, repN]
  · intro K hK
    refine r_block ?_
    refine r_nilRow 9 1 ?_
    refine r_loop (ι := RS × List Bytes × Value) (fun p => [(0, ptr b 0), (2, ptr b2 0), (3, ptr b3 0)]) (fun _ => g0)
      (fun p => [.row 9 1 p.2.2 p.2.1.length (p.2.1.map str), .blk b3 62 [.int .i64 (posOf l i), str (s1.text l 2), p.2.2, .slice none 0 0], .blk b2 62 [.int .i64 0, str [], .slice none 0 0, .slice none 0 0], rdB b lv p.1])
      (fun p => (∃ a m c, p.2.2 = .slice a m c) ∧ VarsR l (s1.word l 2) p.1 p.2.1) (fun p => p.1.left l) (s1.word l 2, [], .slice none 0 0) ⟨⟨_, _, _, rfl⟩, VarsR.start hok1⟩ ⟨rfl, rfl, rfl, trivial⟩ rfl rfl ?_
    rintro ⟨s3, vs, vv⟩ ⟨⟨va, vm, vc, q1⟩, q2⟩
    simp only at q1 q2
    subst q1
    have hok3 : s3.ok l := q2.ok hok1
    have hvl := q2.len hok1
    show Run E _ [(0, ptr b 0), (2, ptr b2 0), (3, ptr b3 0)] g0 [.row 9 1 (.slice va vm vc) vs.length (vs.map str), .blk b3 62 [.int .i64 (posOf l i), str (s1.text l 2), .slice va vm vc, .slice none 0 0], .blk b2 62 [.int .i64 0, str [], .slice none 0 0, .slice none 0 0], rdB b lv s3] _
    refine r_seq ?_; refine r_sr ?_; refine r_ev rfl rfl ?_
    refine r_callO 3 rfl rfl rfl (Kind5_spec g0 l lv hs b s3 1) ?_
    cases hk : s3.kindIs l 1 with
    | false =>
      refine r_nn ?_; refine r_cond_false rfl ?_; refine r_exit ?_; refine r_then_exit ?_; refine r_then_exit ?_; refine r_in_exit ?_; refine r_then_normal ?_
      exact hK (s3, vs, .slice va vm vc) _ ⟨⟨_, _, _, rfl⟩, q2, hk⟩ ⟨rfl, rfl, rfl, trivial⟩
    | true =>
      have hnx := q2.next hk
      have hleft : (s3.word l 1).left l < s3.left l := by
        cases s3 with
        | bad j p => cases hk
        | good j =>
          obtain ⟨_, e, hlt⟩ := nameAt_yes (show kindAt l j 1 = true from hk)
          rw [e]
          simp only [RS.left]; omega
      refine r_nn ?_; refine r_cond_true rfl ?_; refine r_skip ?_; refine r_then_normal ?_; refine r_block ?_
      refine m_begin 6 [3, 0] mixed (by kernel_rfl) (fun hG => ?_)
      refine m_takeX 0 rfl (by kernel_rfl) rfl hG (by first | exact Ghost.le_refl _ | assumption) (by repeat' (first | exact List.nil_sublist _ | refine List.Sublist.cons_cons _ ?_ | refine List.Sublist.cons _ ?_)) ?_; refine ⟨_, (val_fieldAddr rfl), ?_⟩; refine m_takeX 1 rfl (by kernel_rfl) rfl hG (by first | exact Ghost.le_refl _ | assumption) (by repeat' (first | exact List.nil_sublist _ | refine List.Sublist.cons_cons _ ?_ | refine List.Sublist.cons _ ?_)) ?_; refine ⟨_, (val_loadB1 0 rfl rfl rfl), ?_⟩; refine m_takeX 2 rfl (by kernel_rfl) rfl hG (by first | exact Ghost.le_refl _ | assumption) (by repeat' (first | exact List.nil_sublist _ | refine List.Sublist.cons_cons _ ?_ | refine List.Sublist.cons _ ?_)) ?_; refine ⟨_, (val_ev rfl), ?_⟩
      refine m_one 3 (by kernel_rfl) rfl rfl ?_
      refine r_callL 3 rfl rfl rfl (Word5_spec g0 l hb lv hs b s3 hok3 1) ?_
      rintro v g4 r' ⟨rfl, rfl, rfl⟩ _
      refine r_nn ?_
      refine h_kept hG (by first | exact Ghost.le_refl _ | assumption) (by repeat' (first | exact List.nil_sublist _ | refine List.Sublist.cons_cons _ ?_ | refine List.Sublist.cons _ ?_)) ?_
      refine m_one 4 (by kernel_rfl) rfl rfl ?_
      refine r_buildSlice rfl rfl (by rfl) (by rfl) (by rfl) (by rfl) (by rfl) (fun b41 => ?_)
      refine r_nn ?_
      refine h_kept hG (by first | exact Ghost.le_refl _ | assumption) (by repeat' (first | exact List.nil_sublist _ | refine List.Sublist.cons_cons _ ?_ | refine List.Sublist.cons _ ?_)) ?_
      refine m_one 5 (by kernel_rfl) rfl rfl ?_
      refine r_appendRow 1 0 rfl rfl rfl rfl rfl (by rfl) (by rfl) rfl (by unfold maxLen; omega) (by omega) (fun v' hv' => ?_)
      refine r_rowForm 1 rfl ?_
      rintro ⟨ya, ym, yc, rfl⟩
      refine r_nn ?_
      refine h_kept hG (by first | exact Ghost.le_refl _ | assumption) (by repeat' (first | exact List.nil_sublist _ | refine List.Sublist.cons_cons _ ?_ | refine List.Sublist.cons _ ?_)) ?_
      refine m_done (by kernel_rfl) ?_
      refine r_fieldAddr rfl rfl ?_; refine r_store1 2 rfl rfl rfl rfl rfl rfl ?_; refine r_nil ?_; refine r_in_normal ?_; refine r_then_normal ?_
      refine r_drop (own' := [_, _, _, _]) (.cons _ (List.Sublist.refl _)) ?_
      refine r_again (s3.word l 1, vs ++ [s3.text l 1], .slice ya ym yc) ⟨⟨_, _, _, rfl⟩, hnx⟩ hleft ⟨rfl, rfl, rfl, trivial⟩ rfl ?_
      simp [repN]
end Go.Proofs.YtblbbjhbigpgnaaDoor
-- sum 0b0bae712910a322

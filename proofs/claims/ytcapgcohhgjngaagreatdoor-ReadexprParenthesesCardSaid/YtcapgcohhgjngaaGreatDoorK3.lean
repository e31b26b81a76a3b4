/- Plain law, third part: tokens that stand apart are read as they are. -/
import Derived.Test.YtcapgcohhgjngaaGreatDoorK2
import Derived.Test.YtcapgcohhgjngaaGreatDoorTy
import Derived.Test.YtcapgcohhgjngaaGreatDoorK1
namespace Go.Th
/-- What does not go on with a word. -/
def apart (r : Bytes) : Prop := ∀ c l, r = c :: l → inner c = false
theorem apart_nil : apart [] := fun _ _ h => by cases h
theorem apart_cons {c : UInt8} {l : Bytes} (h : inner c = false) : apart (c :: l) := fun _ _ e => by cases e; exact h
theorem wordLen_apart : ∀ (w r : Bytes), w.all inner = true → apart r → wordLen (w ++ r) = w.length
  | [], r, _, hr => by
    cases r with
    | nil => rfl
    | cons c l => simp [wordLen, hr c l rfl]
  | c :: w, r, hw, hr => by
    simp only [List.all_cons, Bool.and_eq_true] at hw
    simp [wordLen, hw.1, wordLen_apart w r hw.2 hr]
theorem kind_shape {w : Bytes} (h : kindOf w ≠ 0) : (w.all inner = true ∧ w ≠ []) ∨ isMark w = true := by
  by_cases hm : isMark w = true
  · exact .inr hm
  · left
    simp only [kindOf, hm] at h
    by_cases hk : isKeyword w = true
    · have : ∀ x ∈ keywords, x.all inner = true ∧ x ≠ [] := by decide
      exact this w (by simpa [isKeyword] using hk)
    · simp only [hk] at h
      have hword : isWord w = true → w.all inner = true ∧ w ≠ [] := fun hw => by simp [isWord] at hw; exact ⟨by simpa using hw.1, hw.2⟩
      by_cases hl : isLower w = true
      · simp only [isLower, Bool.and_eq_true] at hl; exact hword hl.1.1.1
      · by_cases hu : isUpper w = true
        · simp only [isUpper, Bool.and_eq_true] at hu; exact hword hu.1.1
        · by_cases hi : isInteger w = true
          · simp only [isInteger, Bool.and_eq_true] at hi
            refine ⟨?_, by have := hi.1.1.1; simpa using this⟩
            rw [List.all_eq_true]
            intro x hx
            have := List.all_eq_true.1 hi.2 x hx
            simp [inner, this]
          · simp [hl, hu, hi] at h
theorem mark_cases {w : Bytes} (h : isMark w = true) : w = [45, 62] ∨ ∃ c ∈ markBytes, w = [c] := by
  simpa [isMark] using h
theorem inner_not_white {c : UInt8} (h : inner c = true) : white c = false ∧ c.toNat ≠ 35 := by
  simp only [inner, lower, upper, digit, Bool.or_eq_true, Bool.and_eq_true, decide_eq_true_eq] at h
  refine ⟨?_, by omega⟩
  simp [white]; omega
/-- A token that stands apart is read. -/
theorem scan_word {w r : Bytes} (i : Nat) (hk : kindOf w ≠ 0) (hr : apart r) : scanFrom i (w ++ r) = match scanFrom (i + w.length) r with
    | .error e => .error e
    | .ok l => .ok (⟨kindOf w, w, i⟩ :: l) := by
  have key : ∀ (c : UInt8) (w' : Bytes), w = c :: w' → white c = false → c.toNat ≠ 35 → tokLen (w ++ r) = w.length → scanFrom i (w ++ r) = match scanFrom (i + w.length) r with
    | .error e => .error e
    | .ok l => .ok (⟨kindOf w, w, i⟩ :: l) := by
    intro c w' hw h1 h2 h3
    have h4 : (w ++ r).take (tokLen (w ++ r)) = w := by rw [h3]; simp
    have h5 : (w ++ r).drop (tokLen (w ++ r)) = r := by rw [h3]; simp
    have := scanFrom_tok (c := c) (r := w' ++ r) i h1 h2
    rw [← List.cons_append, ← hw, h4, h5, h3] at this
    exact this hk
  rcases kind_shape hk with ⟨hall, hne⟩ | hm
  · cases w with
    | nil => exact absurd rfl hne
    | cons c w' =>
      simp only [List.all_cons, Bool.and_eq_true] at hall
      obtain ⟨h1, h2⟩ := inner_not_white hall.1
      refine key c w' rfl h1 h2 ?_
      rw [List.cons_append, tokLen_cons, if_pos hall.1, wordLen_apart w' r hall.2 hr]; rfl
  · rcases mark_cases hm with rfl | ⟨c, hc, rfl⟩
    · exact key 45 [62] rfl (by decide) (by decide) (by simp [tokLen_cons, show inner 45 = false by decide])
    · have hh : ∀ c ∈ markBytes, white c = false ∧ c.toNat ≠ 35 ∧ inner c = false ∧ c.toNat ≠ 45 := by decide
      obtain ⟨h1, h2, h3, h4⟩ := hh c hc
      refine key c [] rfl h1 h2 ?_
      rw [List.cons_append, tokLen_cons, if_neg (by simp [h3]), if_neg h4]; rfl
/-- Kinds and texts. -/
def kt (l : List Tok) : List (Int × Bytes) := l.map fun t => (t.kind, t.text)
def kts (ws : List Bytes) : List (Int × Bytes) := ws.map fun w => (kindOf w, w)
def okKt (r : Except Nat (List Tok)) (ws : List (Int × Bytes)) : Prop := ∃ l, r = .ok l ∧ kt l = ws
theorem okKt_word {w r : Bytes} {i : Nat} {ws : List (Int × Bytes)} (hk : kindOf w ≠ 0) (hr : apart r) (h : okKt (scanFrom (i + w.length) r) ws) : okKt (scanFrom i (w ++ r)) ((kindOf w, w) :: ws) := by
  obtain ⟨l, h1, h2⟩ := h
  rw [scan_word i hk hr, h1]
  exact ⟨_, rfl, by rw [← h2]; rfl⟩
theorem okKt_nil (i : Nat) : okKt (scanFrom i []) [] := ⟨[], rfl, rfl⟩
/-- What the scanner passes over. -/
def Passes (u : Bytes) : Prop := ∀ i r, ∃ j, scanFrom i (u ++ r) = scanFrom j r
theorem passes_nil : Passes [] := fun i _ => ⟨i, rfl⟩
theorem passes_white {c : UInt8} {u : Bytes} (h : white c = true) (hu : Passes u) : Passes (c :: u) := fun i r => by
  rw [List.cons_append, scanFrom_white i h]; exact hu _ _
theorem commentLen_app : ∀ (u : Bytes) (c : UInt8) (r : Bytes), (∀ x ∈ u, x.toNat ≠ 10) → c.toNat = 10 → commentLen (u ++ c :: r) = u.length
  | [], c, r, _, hc => by simp [commentLen, hc]
  | x :: u, c, r, h, hc => by
    have := commentLen_app u c r (fun y hy => h y (List.mem_cons_of_mem _ hy)) hc
    simp only [List.cons_append, commentLen, List.length_cons]
    rw [if_neg (h x (List.mem_cons_self ..)), this]
theorem passes_comment {u v : Bytes} (h : ∀ x ∈ u, x.toNat ≠ 10) (hv : Passes v) : Passes (35 :: u ++ 10 :: v) := fun i r => by
  have hc : commentLen ((35 :: u) ++ 10 :: (v ++ r)) = (35 :: u).length := commentLen_app _ _ _ (by
    intro x hx
    rcases List.mem_cons.1 hx with rfl | hx
    · decide
    · exact h x hx) rfl
  have h1 := scanFrom_comment (c := 35) (r := u ++ 10 :: (v ++ r)) i (by decide) (by decide)
  rw [← List.cons_append, hc] at h1
  have h2 : (35 :: u) ++ 10 :: (v ++ r) = (35 :: u ++ 10 :: v) ++ r := by simp
  rw [h2] at h1
  rw [h1, ← h2, List.drop_left, scanFrom_white _ (by decide)]
  exact hv _ _
theorem okKt_pass {u r : Bytes} {i : Nat} {ws : List (Int × Bytes)} (hu : Passes u) (h : ∀ j, okKt (scanFrom j r) ws) : okKt (scanFrom i (u ++ r)) ws := by
  obtain ⟨j, hj⟩ := hu i r
  rw [hj]; exact h j
def back (ws : List Bytes) : Bytes := ws.flatMap (· ++ [32])
def front (ps : List (Bytes × Bytes)) : Bytes := ps.flatMap fun p => p.1 ++ p.2
theorem back_ok : ∀ (ws : List Bytes), (∀ w ∈ ws, kindOf w ≠ 0) → ∀ i, okKt (scanFrom i (back ws)) (kts ws)
  | [], _, i => okKt_nil i
  | w :: ws, h, i => by
    have e : back (w :: ws) = w ++ ([32] ++ back ws) := by simp [back]
    rw [e]
    refine okKt_word (h w (List.mem_cons_self ..)) (apart_cons (by decide)) ?_
    exact okKt_pass (passes_white (by decide) passes_nil) (back_ok ws (fun x hx => h x (List.mem_cons_of_mem _ hx)))
def Gap (u : Bytes) : Prop := Passes u ∧ ∃ c l, u = c :: l ∧ inner c = false
theorem front_ok : ∀ (ps : List (Bytes × Bytes)), (∀ p ∈ ps, Gap p.1 ∧ kindOf p.2 ≠ 0) → ∀ i, okKt (scanFrom i (front ps)) (kts (ps.map (·.2)))
  | [], _, i => okKt_nil i
  | p :: ps, h, i => by
    have e : front (p :: ps) = p.1 ++ (p.2 ++ front ps) := by simp [front]
    rw [e]
    have hp := h p (List.mem_cons_self ..)
    refine okKt_pass hp.1.1 (fun j => okKt_word hp.2 ?_ (front_ok ps (fun x hx => h x (List.mem_cons_of_mem _ hx)) _))
    cases ps with
    | nil => exact apart_nil
    | cons p' ps =>
      obtain ⟨c, l, hc, hi⟩ := (h p' (by simp)).1.2
      have e2 : front (p' :: ps) = c :: (l ++ (p'.2 ++ front ps)) := by simp [front, hc]
      rw [e2]
      exact apart_cons hi
/-- Texts joined by single spaces. -/
def joined : List Bytes → Bytes
  | [] => []
  | [w] => w
  | w :: v :: r => w ++ 32 :: joined (v :: r)
theorem joined_ok : ∀ (ws : List Bytes), (∀ w ∈ ws, kindOf w ≠ 0) → ∀ i, okKt (scanFrom i (joined ws)) (kts ws)
  | [], _, i => okKt_nil i
  | [w], h, i => by
    have := okKt_word (w := w) (r := []) (i := i) (ws := []) (h w (by simp)) apart_nil (okKt_nil _)
    rw [List.append_nil] at this
    exact this
  | w :: v :: r, h, i => by
    show okKt (scanFrom i (w ++ 32 :: joined (v :: r))) _
    refine okKt_word (h w (by simp)) (apart_cons (by decide)) ?_
    exact okKt_pass (u := [32]) (passes_white (by decide) passes_nil) (joined_ok (v :: r) (fun x hx => h x (List.mem_cons_of_mem _ hx)))
theorem kt_same : ∀ {a b : List Tok}, kt a = kt b → (List.zip a b).all (fun t => decide (t.1.kind = t.2.kind) && decide (t.1.text = t.2.text) && (!false || decide (t.1.pos = t.2.pos))) = true
  | [], [], _ => rfl
  | [], _ :: _, h => by simp [kt] at h
  | _ :: _, [], h => by simp [kt] at h
  | x :: a, y :: b, h => by
    simp only [kt, List.map_cons, List.cons.injEq, Prod.mk.injEq] at h
    have := kt_same (a := a) (b := b) h.2
    simp only [List.zip_cons_cons, List.all_cons, this, h.1.1, h.1.2]
    simp
theorem kt_len {a : List Tok} {ws : List (Int × Bytes)} (h : kt a = ws) : a.length = ws.length := by rw [← h]; simp [kt]
theorem scan_okKt {s : Bytes} {ws : List (Int × Bytes)} (hs : s.length ≤ 4000) (h : okKt (scanFrom 0 s) ws) : ∃ l, scan s = .ok l ∧ kt l = ws := by
  obtain ⟨l, h1, h2⟩ := h
  rw [scan_of hs, List.drop_zero, h1]
  exact ⟨l, rfl, h2⟩
end Go.Th
-- sum 496e31a5604066f8
/- Types in plain words: type terms, and what is read from tokens as a type. No program in sight. -/
namespace Go.Th
inductive Ty where
  | mk (kind : Int) (name : Bytes) (id home : Int) (args : List Ty)
def Ty.kind : Ty → Int | .mk k _ _ _ _ => k
def Ty.name : Ty → Bytes | .mk _ n _ _ _ => n
def Ty.id : Ty → Int | .mk _ _ i _ _ => i
def Ty.home : Ty → Int | .mk _ _ _ h _ => h
def Ty.args : Ty → List Ty | .mk _ _ _ _ a => a
def arrowB : Bytes := [45, 62]
def intB : Bytes := [73, 110, 116]
def conT (n : Bytes) (az : List Ty) : Ty := .mk 4 n 0 0 az
def nameT (n : Bytes) : Ty := .mk 5 n 0 0 []
def arrowT (a b : Ty) : Ty := conT arrowB [a, b]
def intT : Ty := conT intB []
def noT : Ty := .mk 0 [] 0 0 []
/-- Where reading fails at an index: the offset of the token, or the end of the last one. -/
def failPos (l : List Tok) (i : Nat) : Int := match l[i]? with
  | some t => t.pos
  | none => match l.getLast? with
    | some t => t.pos + t.text.length
    | none => 0
def tokAt (l : List Tok) (i : Nat) (k : Int) (w : Bytes) : Bool := match l[i]? with
  | some t => decide (t.kind = k) && decide (t.text = w)
  | none => false
def markAt (l : List Tok) (i : Nat) (w : Bytes) : Bool := tokAt l i 5 w
def startsT (t : Tok) : Bool := decide (t.kind = 1) || decide (t.kind = 2) || (decide (t.kind = 5) && decide (t.text = [40]))
def startsAt (l : List Tok) (i : Nat) : Bool := match l[i]? with
  | some t => startsT t
  | none => false
theorem tokAt_lt {l : List Tok} {i : Nat} {k : Int} {w : Bytes} (h : tokAt l i k w = true) : i < l.length := by
  unfold tokAt at h
  cases ht : l[i]? with
  | none => rw [ht] at h; cases h
  | some t => exact (List.getElem?_eq_some_iff.1 ht).1
theorem startsAt_lt {l : List Tok} {i : Nat} (h : startsAt l i = true) : i < l.length := by
  unfold startsAt at h
  cases ht : l[i]? with
  | none => rw [ht] at h; cases h
  | some t => exact (List.getElem?_eq_some_iff.1 ht).1
/-- What is to be read: a type, a type without an arrow, an atom, the atoms behind a constructor. -/
inductive TQ where
  | whole
  | applied
  | atom
  | args (name : Bytes) (acc : List Ty)
abbrev TR := Except Int (Ty × Nat)
def tstep (l : List Tok) (f : TQ → Nat → TR) : TQ → Nat → TR
  | .atom, i => match l[i]? with
    | none => .error (failPos l i)
    | some t => if t.kind = 1 then .ok (nameT t.text, i + 1) else if t.kind = 2 then .ok (conT t.text [], i + 1)
      else if t.kind = 5 ∧ t.text = [40] then match f .whole (i + 1) with
        | .error p => .error p
        | .ok (x, j) => if markAt l j [41] then .ok (x, j + 1) else .error (failPos l j)
      else .error (failPos l i)
  | .args n acc, i => if startsAt l i then match f .atom i with
      | .error p => .error p
      | .ok (x, j) => if i < j then f (.args n (acc ++ [x])) j else .error 0
    else .ok (conT n acc, i)
  | .applied, i => match l[i]? with
    | some t => if t.kind = 2 then f (.args t.text []) (i + 1) else f .atom i
    | none => f .atom i
  | .whole, i => match f .applied i with
    | .error p => .error p
    | .ok (a, j) => if markAt l j arrowB then (if i < j + 1 then match f .whole (j + 1) with
        | .error p => .error p
        | .ok (b, k) => .ok (arrowT a b, k)
      else .error 0) else .ok (a, j)
def TQ.rank : TQ → Nat
  | .atom => 0
  | .args _ _ => 1
  | .applied => 2
  | .whole => 3
def tmu (l : List Tok) (q : TQ) (i : Nat) : Nat := 4 * (l.length - i) + q.rank
theorem tstep_congr {l : List Tok} {f g : TQ → Nat → TR} {q : TQ} {i : Nat} (h : ∀ q' i', tmu l q' i' < tmu l q i → f q' i' = g q' i') : tstep l f q i = tstep l g q i := by
  cases q with
  | atom =>
    simp only [tstep]
    cases ht : l[i]? with
    | none => rfl
    | some t =>
      have hi := (List.getElem?_eq_some_iff.1 ht).1
      simp only
      rw [h .whole (i + 1) (by simp only [tmu, TQ.rank]; omega)]
  | args n acc =>
    simp only [tstep]
    cases hs : startsAt l i with
    | false => rfl
    | true =>
      have hi := startsAt_lt hs
      simp only [if_true]
      rw [h .atom i (by simp only [tmu, TQ.rank]; omega)]
      cases g .atom i with
      | error p => rfl
      | ok p =>
        obtain ⟨x, j⟩ := p
        simp only
        by_cases hj : i < j
        · rw [if_pos hj, if_pos hj, h _ j (by simp only [tmu, TQ.rank]; omega)]
        · rw [if_neg hj, if_neg hj]
  | applied =>
    simp only [tstep]
    cases ht : l[i]? with
    | none => exact h _ _ (by simp only [tmu, TQ.rank]; omega)
    | some t =>
      have hi := (List.getElem?_eq_some_iff.1 ht).1
      simp only
      rw [h (.args t.text []) (i + 1) (by simp only [tmu, TQ.rank]; omega), h .atom i (by simp only [tmu, TQ.rank]; omega)]
  | whole =>
    simp only [tstep]
    rw [h .applied i (by simp only [tmu, TQ.rank]; omega)]
    cases g .applied i with
    | error p => rfl
    | ok p =>
      obtain ⟨a, j⟩ := p
      simp only
      cases hm : markAt l j arrowB with
      | false => rfl
      | true =>
        have hj := tokAt_lt hm
        simp only [if_true]
        by_cases hij : i < j + 1
        · rw [if_pos hij, if_pos hij, h .whole (j + 1) (by simp only [tmu, TQ.rank]; omega)]
        · rw [if_neg hij, if_neg hij]
def trun (l : List Tok) : Nat → TQ → Nat → TR
  | 0, _, _ => .error 0
  | n + 1, q, i => tstep l (trun l n) q i
theorem trun_fuel {l : List Tok} : ∀ (n m : Nat) (q : TQ) (i : Nat), tmu l q i < n → tmu l q i < m → trun l n q i = trun l m q i
  | 0, _, _, _, h, _ => by omega
  | _ + 1, 0, _, _, _, h => by omega
  | n + 1, m + 1, q, i, h, h' => tstep_congr fun q' i' hlt => trun_fuel n m q' i' (by omega) (by omega)
/-- What is read. -/
def tread (l : List Tok) (q : TQ) (i : Nat) : TR := trun l (tmu l q i + 1) q i
theorem tread_eq (l : List Tok) (q : TQ) (i : Nat) : tread l q i = tstep l (tread l) q i := tstep_congr fun q' i' hlt => trun_fuel _ _ q' i' hlt (by omega)
theorem tread_atom (l : List Tok) (i : Nat) : tread l .atom i = match l[i]? with
    | none => .error (failPos l i)
    | some t => if t.kind = 1 then .ok (nameT t.text, i + 1) else if t.kind = 2 then .ok (conT t.text [], i + 1)
      else if t.kind = 5 ∧ t.text = [40] then match tread l .whole (i + 1) with
        | .error p => .error p
        | .ok (x, j) => if markAt l j [41] then .ok (x, j + 1) else .error (failPos l j)
      else .error (failPos l i) := tread_eq l .atom i
theorem tread_args (l : List Tok) (n : Bytes) (acc : List Ty) (i : Nat) : tread l (.args n acc) i = if startsAt l i then match tread l .atom i with
      | .error p => .error p
      | .ok (x, j) => if i < j then tread l (.args n (acc ++ [x])) j else .error 0
    else .ok (conT n acc, i) := tread_eq l (.args n acc) i
theorem tread_applied (l : List Tok) (i : Nat) : tread l .applied i = match l[i]? with
    | some t => if t.kind = 2 then tread l (.args t.text []) (i + 1) else tread l .atom i
    | none => tread l .atom i := tread_eq l .applied i
theorem tread_whole (l : List Tok) (i : Nat) : tread l .whole i = match tread l .applied i with
    | .error p => .error p
    | .ok (a, j) => if markAt l j arrowB then (if i < j + 1 then match tread l .whole (j + 1) with
        | .error p => .error p
        | .ok (b, k) => .ok (arrowT a b, k)
      else .error 0) else .ok (a, j) := tread_eq l .whole i
end Go.Th
-- sum 1a5a9fe4a6618840
/- Small words, and the walk of Mod. -/
namespace Go.Proofs.YtcapgcohhgjngaaGreatDoor
open Go Go.Eng Go.Proofs
set_option maxRecDepth 10000
set_option maxHeartbeats 4000000
attribute [local irreducible] wpList Code.wp Run bodyPost Go.Eng.Ends Exit.then Exit.inBlock Again Wq Kq
theorem vb {a b : Bool} (h : a = true ↔ b = true) : Value.bool a = .bool b := by rw [Bool.eq_iff_iff.2 h]
theorem vi {k : IntKind} {a b : Int} (h : a = b) : Value.int k a = .int k b := by rw [h]
/-- n modulo m, as the program reckons it. -/
def modI (n m : Int) : Int := if m < 1 then 0 else n % m
theorem tmod_mod (a m : Int) (h : 1 ≤ m) : (if a.tmod m < 0 then a.tmod m + m else a.tmod m) = a % m := by
  rw [Int.tmod_eq_emod]
  have h1 := Int.emod_nonneg a (by omega : m ≠ 0)
  have h2 := Int.emod_lt_of_pos a (by omega : 0 < m)
  by_cases hd : 0 ≤ a ∨ m ∣ a
  · rw [if_pos hd]; simp; omega
  · rw [if_neg hd]
    have : (m.natAbs : Int) = m := by omega
    rw [this]
    have h3 : a % m ≠ 0 := fun h0 => hd (.inr (Int.dvd_of_emod_eq_zero h0))
    rw [if_pos (by omega)]; omega
theorem Mod_spec (g : Ghost) (a m : Int) (hm : m ≤ 9223372036854775807) : Pure Tryz.prog 20 [.int .i64 a, .int .i64 m] g (.int .i64 (modI a m)) := by
  refine spec_of_run Tryz.func20 rfl Tryz.ntmps20 rfl fun E hE => ?_
  refine r_sr ?_; refine r_ev rfl rfl ?_; refine r_nn ?_; refine r_seq ?_; refine r_sr ?_; refine r_ev rfl rfl ?_; refine r_ev rfl rfl ?_; refine r_nn ?_
  refine r_cond rfl (fun h => ?_) (fun h => ?_)
  · refine r_sr ?_; refine r_ev rfl rfl ?_; refine r_nn ?_; refine r_retc ?_; refine r_then_ret ?_
    exact r_ret1 [] rfl rfl (by simp) ⟨vi (by simp [modI, h]), rfl, rfl⟩
  · have hk := tmod_mod a m (by omega)
    have hb := Int.emod_lt_of_pos a (by omega : 0 < m)
    have hb' := Int.emod_nonneg a (by omega : m ≠ 0)
    refine r_skip ?_; refine r_then_normal ?_; refine r_sr ?_; refine r_ev rfl rfl ?_; refine r_ev rfl rfl ?_
    refine r_rem rfl rfl rfl (by omega) ?_
    refine r_ev rfl rfl ?_; refine r_nn ?_; refine r_seq ?_; refine r_sr ?_; refine r_ev rfl rfl ?_; refine r_ev rfl rfl ?_; refine r_nn ?_
    refine r_cond rfl (fun h2 => ?_) (fun h2 => ?_)
    · rw [if_pos h2] at hk
      refine r_region ?_; refine r_ev rfl rfl ?_; refine r_ev rfl rfl ?_
      refine r_add rfl rfl rfl (by omega) ?_
      refine r_ev rfl rfl ?_; refine r_nn ?_; refine r_sr ?_; refine r_ev rfl rfl ?_; refine r_ev rfl rfl ?_; refine r_nn ?_; refine r_retc ?_
      exact r_ret1 [] rfl rfl (by simp) ⟨vi (by simp only [modI]; rw [if_neg h]; exact hk), rfl, rfl⟩
    · rw [if_neg h2] at hk
      refine r_skip ?_; refine r_then_normal ?_; refine r_sr ?_; refine r_ev rfl rfl ?_; refine r_ev rfl rfl ?_; refine r_nn ?_; refine r_retc ?_
      exact r_ret1 [] rfl rfl (by simp) ⟨vi (by simp only [modI]; rw [if_neg h]; exact hk), rfl, rfl⟩

end Go.Proofs.YtcapgcohhgjngaaGreatDoor
-- sum 5c4407555e93b668
/- Types in memory, and the walks of what makes and compares them: types.Con, types.Arrow, the reference's Con, Arrow, Named, Int, Equal. -/
namespace Go.Proofs.YtcapgcohhgjngaaGreatDoor
open Go Go.Eng Go.Th Go.Proofs
set_option maxRecDepth 10000
set_option maxHeartbeats 4000000
attribute [local irreducible] wpList Code.wp Run bodyPost Go.Eng.Ends Exit.then Exit.inBlock Again Wq Kq
def tyCells (t : Ty) (sl : Value) : List Value := [.int .i64 t.kind, str t.name, .int .i64 t.id, .int .i64 t.home, sl]
mutual
/-- A type's cells. -/
def TyAt (g : Ghost) : Ty → List Value → Prop
  | .mk k n i h ta, cs => ∃ sl xs, cs = [.int .i64 k, str n, .int .i64 i, .int .i64 h, sl] ∧ SlAt g 5 sl ta.length xs ∧ TysAt g ta xs
def TysAt (g : Ghost) : List Ty → List Value → Prop
  | [], xs => xs = []
  | a :: ta, xs => ∃ c r, xs = c ++ r ∧ TyAt g a c ∧ TysAt g ta r
end
mutual
theorem TyAt.mono {g g' : Ghost} (hle : Ghost.le g g') : ∀ (t : Ty) (cs : List Value), TyAt g t cs → TyAt g' t cs
  | .mk k n i h ta, cs, ht => by
    unfold TyAt at ht ⊢
    obtain ⟨sl, xs, h1, h2, h3⟩ := ht
    exact ⟨sl, xs, h1, h2.mono hle, TysAt.mono hle ta xs h3⟩
theorem TysAt.mono {g g' : Ghost} (hle : Ghost.le g g') : ∀ (ta : List Ty) (xs : List Value), TysAt g ta xs → TysAt g' ta xs
  | [], xs, ht => by unfold TysAt at ht ⊢; exact ht
  | a :: ta, xs, ht => by
    unfold TysAt at ht ⊢
    obtain ⟨c, r, h1, h2, h3⟩ := ht
    exact ⟨c, r, h1, TyAt.mono hle a c h2, TysAt.mono hle ta r h3⟩
end
theorem SlAt.one {g : Ghost} {size : Nat} {v : Value} {n : Nat} {xs : List Value} (h : SlAt g size v n xs) : oneC v = true := by
  rcases h.2 with ⟨⟨a, c, rfl⟩, _⟩ | ⟨b, off, cap, rfl, _⟩ <;> rfl
theorem SlAt.form {g : Ghost} {size : Nat} {v : Value} {n : Nat} {xs : List Value} (h : SlAt g size v n xs) : ∃ a m c, v = .slice a m c := by
  rcases h.2 with ⟨⟨a, c, rfl⟩, _⟩ | ⟨b, off, cap, rfl, _⟩
  · exact ⟨_, _, _, rfl⟩
  · exact ⟨_, _, _, rfl⟩
theorem TyAt.one {g : Ghost} {t : Ty} {cs : List Value} (h : TyAt g t cs) : cs.length = 5 ∧ ∀ u ∈ cs, oneC u = true := by
  cases t with
  | mk k n i hh ta =>
    unfold TyAt at h
    obtain ⟨sl, xs, rfl, h2, _⟩ := h
    refine ⟨rfl, ?_⟩
    intro u hu
    simp only [List.mem_cons, List.not_mem_nil, or_false] at hu
    rcases hu with rfl | rfl | rfl | rfl | rfl
    · rfl
    · rfl
    · rfl
    · rfl
    · exact SlAt.one h2
theorem TysAt.one {g : Ghost} : ∀ {ta : List Ty} {xs : List Value}, TysAt g ta xs → xs.length = ta.length * 5 ∧ ∀ u ∈ xs, oneC u = true
  | [], xs, h => by unfold TysAt at h; subst h; simp
  | a :: ta, xs, h => by
    unfold TysAt at h
    obtain ⟨c, r, rfl, h1, h2⟩ := h
    have i1 := h1.one
    have i2 := TysAt.one h2
    refine ⟨by rw [List.length_append, i1.1, i2.1, List.length_cons]; omega, fun u hu => ?_⟩
    rcases List.mem_append.1 hu with hu | hu
    · exact i1.2 u hu
    · exact i2.2 u hu
theorem TysAt.get {g : Ghost} : ∀ {ta : List Ty} {xs : List Value}, TysAt g ta xs → ∀ (i : Nat) (h : i < ta.length), ∃ c, TyAt g ta[i] c ∧ ∀ j x, c[j]? = some x → xs[i * 5 + j]? = some x
  | [], xs, _, i, h => by simp at h
  | a :: ta, xs, ht, 0, _ => by
    unfold TysAt at ht
    obtain ⟨c, r, rfl, h1, h2⟩ := ht
    refine ⟨c, h1, fun j x hx => ?_⟩
    rw [Nat.zero_mul, Nat.zero_add, List.getElem?_append_left (List.getElem?_eq_some_iff.1 hx).1]
    exact hx
  | a :: ta, xs, ht, i + 1, h => by
    unfold TysAt at ht
    obtain ⟨c, r, rfl, h1, h2⟩ := ht
    obtain ⟨c', h3, h4⟩ := TysAt.get h2 i (by simpa using h)
    refine ⟨c', h3, fun j x hx => ?_⟩
    have hl := h1.one.1
    rw [List.getElem?_append_right (by rw [hl]; omega), hl, show (i + 1) * 5 + j - 5 = i * 5 + j by omega]
    exact h4 j x hx
theorem TysAt.snoc {g : Ghost} {a : Ty} {c : List Value} (hc : TyAt g a c) : ∀ {ta : List Ty} {xs : List Value}, TysAt g ta xs → TysAt g (ta ++ [a]) (xs ++ c)
  | [], xs, h => by
    unfold TysAt at h
    subst h
    simp only [List.nil_append]
    unfold TysAt
    exact ⟨c, [], by simp, hc, by unfold TysAt; rfl⟩
  | b :: ta, xs, h => by
    unfold TysAt at h
    obtain ⟨d, r, rfl, h1, h2⟩ := h
    simp only [List.cons_append]
    unfold TysAt
    exact ⟨d, r ++ c, by simp, h1, TysAt.snoc hc h2⟩
/-- A type as a value. -/
def TyV (g : Ghost) (v : Value) (t : Ty) : Prop := ∃ sl, v = .agg #[.int .i64 t.kind, str t.name, .int .i64 t.id, .int .i64 t.home, sl] ∧ TyAt g t (tyCells t sl)
theorem TyV.mono {g g' : Ghost} (hle : Ghost.le g g') {v : Value} {t : Ty} (h : TyV g v t) : TyV g' v t := by
  obtain ⟨sl, h1, h2⟩ := h
  exact ⟨sl, h1, h2.mono hle⟩
theorem TyAt.args {g : Ghost} {t : Ty} {sl : Value} (h : TyAt g t (tyCells t sl)) : ∃ xs, SlAt g 5 sl t.args.length xs ∧ TysAt g t.args xs := by
  cases t with
  | mk k n i hh ta =>
    unfold TyAt at h
    obtain ⟨sl', xs, h1, h2, h3⟩ := h
    simp only [tyCells, List.cons.injEq, and_true, true_and, Ty.kind, Ty.name, Ty.id, Ty.home] at h1
    obtain ⟨_, _, _, _, rfl⟩ := h1
    exact ⟨xs, h2, h3⟩
theorem TyAt.mk {g : Ghost} {t : Ty} {sl : Value} {xs : List Value} (h2 : SlAt g 5 sl t.args.length xs) (h3 : TysAt g t.args xs) : TyAt g t (tyCells t sl) := by
  cases t with
  | mk k n i hh ta =>
    unfold TyAt
    exact ⟨sl, xs, rfl, h2, h3⟩
theorem TyAt.cells {g : Ghost} {t : Ty} {cs : List Value} (h : TyAt g t cs) : ∃ sl, cs = tyCells t sl := by
  cases t with
  | mk k n i hh ta =>
    unfold TyAt at h
    obtain ⟨sl, xs, h1, _⟩ := h
    exact ⟨sl, h1⟩
theorem TyV.of {g : Ghost} {t : Ty} {sl : Value} {xs : List Value} (h2 : SlAt g 5 sl t.args.length xs) (h3 : TysAt g t.args xs) : TyV g (.agg #[.int .i64 t.kind, str t.name, .int .i64 t.id, .int .i64 t.home, sl]) t := ⟨sl, rfl, .mk h2 h3⟩
theorem slNil (g : Ghost) (size : Nat) : SlAt g size (.slice none 0 0) 0 [] := ⟨by simp, .inl ⟨⟨_, _, rfl⟩, rfl⟩⟩
theorem tysNil (g : Ghost) : TysAt g [] [] := by unfold TysAt; rfl
theorem noT_V (g : Ghost) : TyV g (.agg #[.int .i64 0, str [], .int .i64 0, .int .i64 0, .slice none 0 0]) noT := TyV.of (t := noT) (slNil g 5) (tysNil g)
theorem Clone_spec (g : Ghost) (v : Value) (n : Nat) (xs : List Value) (hs : SlAt g 5 v n xs) (h1 : ∀ u ∈ xs, oneC u = true) (hn : n ≤ 1000000) :
    SpecN Tryz.prog 188 [v] g fun w g' => SlAt g' 5 w n xs := by
  obtain ⟨a, m, c, rfl⟩ := SlAt.form hs
  refine spec_of_run Tryz.func188 rfl Tryz.ntmps188 rfl fun E hE => ?_
  refine r_sr ?_; refine r_ev rfl rfl ?_; refine r_nn ?_; refine r_seq ?_; refine r_sr ?_; refine r_ev rfl rfl ?_
  refine r_v rfl (val_eql_slnil rfl rfl) ?_
  refine r_nn ?_
  cases a with
  | none =>
    have h0 : n = 0 ∧ xs = [] := by
      rcases hs.2 with ⟨_, h0⟩ | ⟨b, off, cap, he, _⟩
      · have hl := hs.1
        rw [h0, Nat.zero_mul] at hl
        exact ⟨h0, List.eq_nil_of_length_eq_zero hl⟩
      · simp at he
    obtain ⟨rfl, rfl⟩ := h0
    refine r_cond_true rfl ?_; refine r_sr ?_; refine r_ev rfl rfl ?_; refine r_nn ?_; refine r_retc ?_; refine r_then_ret ?_
    exact r_ret1 [] rfl rfl (by simp) ⟨slNil g 5, rfl⟩
  | some ad =>
    refine r_cond_false rfl ?_; refine r_skip ?_; refine r_then_normal ?_; refine r_sr ?_
    refine r_buildSlice rfl rfl (by rfl) (by rfl) (by rfl) (by rfl) (by rfl) (fun b2 => ?_)
    refine r_ev rfl rfl ?_
    refine r_appendAt 0 rfl rfl rfl rfl hs (by rfl) (by rfl) h1 (by unfold maxLen; omega) (by omega) (fun v' _ => ?_)
    rw [Nat.zero_add]
    refine r_publishRow (fun g1 hg1 hs1 => ?_)
    refine r_ev rfl rfl ?_; refine r_nn ?_; refine r_retc ?_
    exact r_ret1 [] rfl rfl (by simp) ⟨hs1, rfl⟩
theorem tCon_spec (g : Ghost) (name : Bytes) (v : Value) (ta : List Ty) (xs : List Value) (hs : SlAt g 5 v ta.length xs) (ht : TysAt g ta xs) (hn : ta.length ≤ 1000000) :
    SpecN Tryz.prog 174 [str name, v] g fun w g' => TyV g' w (conT name ta) := by
  refine spec_of_run Tryz.func174 rfl Tryz.ntmps174 rfl fun E hE => ?_
  refine r_sr ?_
  refine r_alloc rfl (fun b4 => ?_)
  refine r_nn ?_; refine r_sr ?_; refine r_ev rfl rfl ?_; refine r_ev rfl rfl ?_
  refine r_callN rfl rfl (Clone_spec g v ta.length xs hs ht.one.2 hn) ?_
  rintro w g1 hs1 hle
  obtain ⟨a, m, c, rfl⟩ := SlAt.form hs1
  refine r_build rfl rfl (by rfl) ?_; refine r_storeA 0 rfl rfl rfl rfl (by rfl) (by repeat' (first | exact rfl | assumption | refine all_cons ?_ ?_)) rfl ?_; refine r_nn ?_; refine r_retc ?_
  exact r_retA [] rfl (res_blk 0 rfl rfl (by rfl)) (by simp) ⟨TyV.of (t := conT name ta) hs1 (ht.mono hle), rfl⟩
theorem two_tys {g : Ghost} {t u : Ty} {sl sl' : Value} (h1 : TyAt g t (tyCells t sl)) (h2 : TyAt g u (tyCells u sl')) : TysAt g [t, u] (tyCells t sl ++ tyCells u sl') := by
  unfold TysAt
  refine ⟨_, _, rfl, h1, ?_⟩
  unfold TysAt
  exact ⟨_, [], by simp, h2, tysNil g⟩
theorem tArrow_spec (g : Ghost) (t u : Ty) (v w : Value) (hv : TyV g v t) (hw : TyV g w u) : SpecN Tryz.prog 158 [v, w] g fun x g' => TyV g' x (arrowT t u) := by
  obtain ⟨sl, rfl, h1⟩ := hv
  obtain ⟨sl', rfl, h2⟩ := hw
  obtain ⟨_, hs1, _⟩ := h1.args
  obtain ⟨_, hs2, _⟩ := h2.args
  obtain ⟨a, m, c, rfl⟩ := SlAt.form hs1
  obtain ⟨a', m', c', rfl⟩ := SlAt.form hs2
  refine spec_of_run Tryz.func158 rfl Tryz.ntmps158 rfl fun E hE => ?_
  refine r_sr ?_
  refine r_box rfl rfl rfl (fun b2 => ?_)
  refine r_box rfl rfl rfl (fun b3 => ?_)
  refine r_alloc rfl (fun b4 => ?_)
  refine r_nn ?_; refine r_sr ?_; refine r_loadB 2 rfl rfl rfl (by rfl) ?_; refine r_loadB 1 rfl rfl rfl (by rfl) ?_
  refine r_buildSlice rfl rfl (by rfl) (by rfl) (by rfl) (by rfl) (by rfl) (fun b5 => ?_)
  refine r_publishRow (fun g1 hg1 hs => ?_)
  refine r_callN rfl rfl (tCon_spec g1 arrowB _ [t, u] _ hs (two_tys (h1.mono hg1) (h2.mono hg1)) (by simp)) ?_
  rintro x g2 ⟨sx, rfl, hx⟩ hle
  obtain ⟨_, hsx, _⟩ := hx.args
  obtain ⟨ax, mx, cx, rfl⟩ := SlAt.form hsx
  refine r_storeA 0 rfl rfl rfl rfl (by rfl) (by repeat' (first | exact rfl | assumption | refine all_cons ?_ ?_)) rfl ?_; refine r_nn ?_; refine r_retc ?_
  exact r_retA [] rfl (res_blk 0 rfl rfl (by rfl)) (by simp) ⟨⟨_, rfl, hx⟩, rfl⟩
theorem rCon_spec (g : Ghost) (name : Bytes) (v : Value) (ta : List Ty) (xs : List Value) (hs : SlAt g 5 v ta.length xs) (ht : TysAt g ta xs) (hn : ta.length ≤ 1000000) :
    SpecN Tryz.prog 74 [str name, v] g fun w g' => TyV g' w (conT name ta) := by
  refine spec_of_run Tryz.func74 rfl Tryz.ntmps74 rfl fun E hE => ?_
  refine r_sr ?_
  refine r_alloc rfl (fun b4 => ?_)
  refine r_nn ?_; refine r_sr ?_; refine r_ev rfl rfl ?_; refine r_ev rfl rfl ?_
  refine r_nilRow 32 5 ?_
  refine r_appendAt 0 rfl rfl rfl rfl hs (by rfl) (by rfl) ht.one.2 (by unfold maxLen; omega) (by omega) (fun v' _ => ?_)
  rw [Nat.zero_add]
  refine r_publishRow (fun g1 hg1 hs1 => ?_)
  obtain ⟨a, m, c, rfl⟩ := SlAt.form hs1
  refine r_build rfl rfl (by rfl) ?_; refine r_storeA 0 rfl rfl rfl rfl (by rfl) (by repeat' (first | exact rfl | assumption | refine all_cons ?_ ?_)) rfl ?_; refine r_nn ?_; refine r_retc ?_
  exact r_retA [] rfl (res_blk 0 rfl rfl (by rfl)) (by simp) ⟨TyV.of (t := conT name ta) hs1 (ht.mono hg1), rfl⟩
theorem rArrow_spec (g : Ghost) (t u : Ty) (v w : Value) (hv : TyV g v t) (hw : TyV g w u) : SpecN Tryz.prog 33 [v, w] g fun x g' => TyV g' x (arrowT t u) := by
  obtain ⟨sl, rfl, h1⟩ := hv
  obtain ⟨sl', rfl, h2⟩ := hw
  obtain ⟨_, hs1, _⟩ := h1.args
  obtain ⟨_, hs2, _⟩ := h2.args
  obtain ⟨a, m, c, rfl⟩ := SlAt.form hs1
  obtain ⟨a', m', c', rfl⟩ := SlAt.form hs2
  refine spec_of_run Tryz.func33 rfl Tryz.ntmps33 rfl fun E hE => ?_
  refine r_sr ?_
  refine r_box rfl rfl rfl (fun b2 => ?_)
  refine r_box rfl rfl rfl (fun b3 => ?_)
  refine r_alloc rfl (fun b4 => ?_)
  refine r_nn ?_; refine r_sr ?_; refine r_loadB 2 rfl rfl rfl (by rfl) ?_; refine r_loadB 1 rfl rfl rfl (by rfl) ?_
  refine r_buildSlice rfl rfl (by rfl) (by rfl) (by rfl) (by rfl) (by rfl) (fun b5 => ?_)
  refine r_publishRow (fun g1 hg1 hs => ?_)
  refine r_callN rfl rfl (rCon_spec g1 arrowB _ [t, u] _ hs (two_tys (h1.mono hg1) (h2.mono hg1)) (by simp)) ?_
  rintro x g2 ⟨sx, rfl, hx⟩ hle
  obtain ⟨_, hsx, _⟩ := hx.args
  obtain ⟨ax, mx, cx, rfl⟩ := SlAt.form hsx
  refine r_storeA 0 rfl rfl rfl rfl (by rfl) (by repeat' (first | exact rfl | assumption | refine all_cons ?_ ?_)) rfl ?_; refine r_nn ?_; refine r_retc ?_
  exact r_retA [] rfl (res_blk 0 rfl rfl (by rfl)) (by simp) ⟨⟨_, rfl, hx⟩, rfl⟩
theorem rNamed_spec (g : Ghost) (name : Bytes) : Pure Tryz.prog 60 [str name] g (.agg #[.int .i64 5, str name, .int .i64 0, .int .i64 0, .slice none 0 0]) := by
  refine spec_of_run Tryz.func60 rfl Tryz.ntmps60 rfl fun E hE => ?_
  refine r_sr ?_; refine r_alloc rfl (fun b => ?_); refine r_nn ?_; refine r_sr ?_; refine r_ev rfl rfl ?_; refine r_build rfl rfl (by rfl) ?_; refine r_storeA 0 rfl rfl rfl rfl (by rfl) (by repeat' (first | exact rfl | assumption | refine all_cons ?_ ?_)) rfl ?_; refine r_nn ?_; refine r_retc ?_
  exact r_retA [] rfl (res_blk 0 rfl rfl (by rfl)) (by simp) ⟨rfl, rfl, rfl⟩
theorem nameT_V (g : Ghost) (name : Bytes) : TyV g (.agg #[.int .i64 5, str name, .int .i64 0, .int .i64 0, .slice none 0 0]) (nameT name) := TyV.of (t := nameT name) (slNil g 5) (tysNil g)
theorem rInt_spec (g : Ghost) : SpecN Tryz.prog 32 [] g fun w g' => TyV g' w intT := by
  refine spec_of_run Tryz.func32 rfl Tryz.ntmps32 rfl fun E hE => ?_
  refine r_sr ?_
  refine r_alloc rfl (fun b0 => ?_)
  refine r_nn ?_; refine r_sr ?_
  refine r_callN rfl rfl (rCon_spec g intB _ [] _ (slNil g 5) (tysNil g) (by simp)) ?_
  rintro x g2 ⟨sx, rfl, hx⟩ hle
  obtain ⟨_, hsx, _⟩ := hx.args
  obtain ⟨ax, mx, cx, rfl⟩ := SlAt.form hsx
  refine r_storeA 0 rfl rfl rfl rfl (by rfl) (by repeat' (first | exact rfl | assumption | refine all_cons ?_ ?_)) rfl ?_; refine r_nn ?_; refine r_retc ?_
  exact r_retA [] rfl (res_blk 0 rfl rfl (by rfl)) (by simp) ⟨⟨_, rfl, hx⟩, rfl⟩
end Go.Proofs.YtcapgcohhgjngaaGreatDoor
-- sum 1646cac9616c9c58

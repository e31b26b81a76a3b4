/- Types in plain words: type terms, and what is read from tokens as a type. No program in sight. -/
import Derived.Test.YtblbbjhbigpgnaaDoorPlainC
namespace Go.Th
inductive Ty where
  | mk (kind : Int) (name : Bytes) (id home : Int) (args : List Ty)
def Ty.kind : Ty → Int | .mk k _ _ _ _ => k
def Ty.name : Ty → Bytes | .mk _ n _ _ _ => n
def Ty.id : Ty → Int | .mk _ _ i _ _ => i
def Ty.home : Ty → Int | .mk _ _ _ h _ => h
def Ty.args : Ty → List Ty | .mk _ _ _ _ a => a
def arrowB : Bytes := [45, 62]
def intB : Bytes := [73, 110, 116]
def conT (n : Bytes) (as : List Ty) : Ty := .mk 4 n 0 0 as
def nameT (n : Bytes) : Ty := .mk 5 n 0 0 []
def arrowT (a b : Ty) : Ty := conT arrowB [a, b]
def intT : Ty := conT intB []
def noT : Ty := .mk 0 [] 0 0 []
/-- Where reading fails at an index: the offset of the token, or the end of the last one. -/
def failPos (l : List Tok) (i : Nat) : Int := match l[i]? with
  | some t => t.pos
  | none => match l.getLast? with
    | some t => t.pos + t.text.length
    | none => 0
def tokAt (l : List Tok) (i : Nat) (k : Int) (w : Bytes) : Bool := match l[i]? with
  | some t => decide (t.kind = k) && decide (t.text = w)
  | none => false
def markAt (l : List Tok) (i : Nat) (w : Bytes) : Bool := tokAt l i 5 w
def startsT (t : Tok) : Bool := decide (t.kind = 1) || decide (t.kind = 2) || (decide (t.kind = 5) && decide (t.text = [40]))
def startsAt (l : List Tok) (i : Nat) : Bool := match l[i]? with
  | some t => startsT t
  | none => false
theorem tokAt_lt {l : List Tok} {i : Nat} {k : Int} {w : Bytes} (h : tokAt l i k w = true) : i < l.length := by
  unfold tokAt at h
  cases ht : l[i]? with
  | none => rw [ht] at h; cases h
  | some t => exact (List.getElem?_eq_some_iff.1 ht).1
theorem startsAt_lt {l : List Tok} {i : Nat} (h : startsAt l i = true) : i < l.length := by
  unfold startsAt at h
  cases ht : l[i]? with
  | none => rw [ht] at h; cases h
  | some t => exact (List.getElem?_eq_some_iff.1 ht).1
/-- What is to be read: a type, a type without an arrow, an atom, the atoms behind a constructor. -/
inductive TQ where
  | whole
  | applied
  | atom
  | args (name : Bytes) (acc : List Ty)
abbrev TR := Except Int (Ty × Nat)
def tstep (l : List Tok) (f : TQ → Nat → TR) : TQ → Nat → TR
  | .atom, i => match l[i]? with
    | none => .error (failPos l i)
    | some t => if t.kind = 1 then .ok (nameT t.text, i + 1) else if t.kind = 2 then .ok (conT t.text [], i + 1)
      else if t.kind = 5 ∧ t.text = [40] then match f .whole (i + 1) with
        | .error p => .error p
        | .ok (x, j) => if markAt l j [41] then .ok (x, j + 1) else .error (failPos l j)
      else .error (failPos l i)
  | .args n acc, i => if startsAt l i then match f .atom i with
      | .error p => .error p
      | .ok (x, j) => if i < j then f (.args n (acc ++ [x])) j else .error 0
    else .ok (conT n acc, i)
  | .applied, i => match l[i]? with
    | some t => if t.kind = 2 then f (.args t.text []) (i + 1) else f .atom i
    | none => f .atom i
  | .whole, i => match f .applied i with
    | .error p => .error p
    | .ok (a, j) => if markAt l j arrowB then (if i < j + 1 then match f .whole (j + 1) with
        | .error p => .error p
        | .ok (b, k) => .ok (arrowT a b, k)
      else .error 0) else .ok (a, j)
def TQ.rank : TQ → Nat
  | .atom => 0
  | .args _ _ => 1
  | .applied => 2
  | .whole => 3
def tmu (l : List Tok) (q : TQ) (i : Nat) : Nat := 4 * (l.length - i) + q.rank
theorem tstep_congr {l : List Tok} {f g : TQ → Nat → TR} {q : TQ} {i : Nat} (h : ∀ q' i', tmu l q' i' < tmu l q i → f q' i' = g q' i') : tstep l f q i = tstep l g q i := by
  cases q with
  | atom =>
    simp only [tstep]
    cases ht : l[i]? with
    | none => rfl
    | some t =>
      have hi := (List.getElem?_eq_some_iff.1 ht).1
      simp only
      rw [h .whole (i + 1) (by simp only [tmu, TQ.rank]; omega)]
  | args n acc =>
    simp only [tstep]
    cases hs : startsAt l i with
    | false => rfl
    | true =>
      have hi := startsAt_lt hs
      simp only [if_true]
      rw [h .atom i (by simp only [tmu, TQ.rank]; omega)]
      cases g .atom i with
      | error p => rfl
      | ok p =>
        obtain ⟨x, j⟩ := p
        simp only
        by_cases hj : i < j
        · rw [if_pos hj, if_pos hj, h _ j (by simp only [tmu, TQ.rank]; omega)]
        · rw [if_neg hj, if_neg hj]
  | applied =>
    simp only [tstep]
    cases ht : l[i]? with
    | none => exact h _ _ (by simp only [tmu, TQ.rank]; omega)
    | some t =>
      have hi := (List.getElem?_eq_some_iff.1 ht).1
      simp only
      rw [h (.args t.text []) (i + 1) (by simp only [tmu, TQ.rank]; omega), h .atom i (by simp only [tmu, TQ.rank]; omega)]
  | whole =>
    simp only [tstep]
    rw [h .applied i (by simp only [tmu, TQ.rank]; omega)]
    cases g .applied i with
    | error p => rfl
    | ok p =>
      obtain ⟨a, j⟩ := p
      simp only
      cases hm : markAt l j arrowB with
      | false => rfl
      | true =>
        have hj := tokAt_lt hm
        simp only [if_true]
        by_cases hij : i < j + 1
        · rw [if_pos hij, if_pos hij, h .whole (j + 1) (by simp only [tmu, TQ.rank]; omega)]
        · rw [if_neg hij, if_neg hij]
def trun (l : List Tok) : Nat → TQ → Nat → TR
  | 0, _, _ => .error 0
  | n + 1, q, i => tstep l (trun l n) q i
theorem trun_fuel {l : List Tok} : ∀ (n m : Nat) (q : TQ) (i : Nat), tmu l q i < n → tmu l q i < m → trun l n q i = trun l m q i
  | 0, _, _, _, h, _ => by omega
  | _ + 1, 0, _, _, _, h => by omega
  | n + 1, m + 1, q, i, h, h' => tstep_congr fun q' i' hlt => trun_fuel n m q' i' (by omega) (by omega)
/-- What is read. -/
def tread (l : List Tok) (q : TQ) (i : Nat) : TR := trun l (tmu l q i + 1) q i
theorem tread_eq (l : List Tok) (q : TQ) (i : Nat) : tread l q i = tstep l (tread l) q i := tstep_congr fun q' i' hlt => trun_fuel _ _ q' i' hlt (by omega)
theorem tread_atom (l : List Tok) (i : Nat) : tread l .atom i = match l[i]? with
    | none => .error (failPos l i)
    | some t => if t.kind = 1 then .ok (nameT t.text, i + 1) else if t.kind = 2 then .ok (conT t.text [], i + 1)
      else if t.kind = 5 ∧ t.text = [40] then match tread l .whole (i + 1) with
        | .error p => .error p
        | .ok (x, j) => if markAt l j [41] then .ok (x, j + 1) else .error (failPos l j)
      else .error (failPos l i) := tread_eq l .atom i
theorem tread_args (l : List Tok) (n : Bytes) (acc : List Ty) (i : Nat) : tread l (.args n acc) i = if startsAt l i then match tread l .atom i with
      | .error p => .error p
      | .ok (x, j) => if i < j then tread l (.args n (acc ++ [x])) j else .error 0
    else .ok (conT n acc, i) := tread_eq l (.args n acc) i
theorem tread_applied (l : List Tok) (i : Nat) : tread l .applied i = match l[i]? with
    | some t => if t.kind = 2 then tread l (.args t.text []) (i + 1) else tread l .atom i
    | none => tread l .atom i := tread_eq l .applied i
theorem tread_whole (l : List Tok) (i : Nat) : tread l .whole i = match tread l .applied i with
    | .error p => .error p
    | .ok (a, j) => if markAt l j arrowB then (if i < j + 1 then match tread l .whole (j + 1) with
        | .error p => .error p
        | .ok (b, k) => .ok (arrowT a b, k)
      else .error 0) else .ok (a, j) := tread_eq l .whole i
end Go.Th
-- sum b240c1a1564182e9

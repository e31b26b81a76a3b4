/- Expressions in plain words: terms, and what is read from tokens as an expression. No program in sight. -/
import Derived.Test.YtblbbjhbigpgnaaDoorTypA
namespace Go.Th
mutual
inductive Ex where
  | mk (kind pos : Int) (name : Bytes) (num : Int) (kids : List Ex) (arms : List Ar) (ty : Ty)
inductive Ar where
  | mk (pos : Int) (con : Bytes) (vars : List Bytes) (body : Ex)
end
def Ex.kind : Ex → Int | .mk k _ _ _ _ _ _ => k
def Ex.pos : Ex → Int | .mk _ p _ _ _ _ _ => p
def Ex.name : Ex → Bytes | .mk _ _ n _ _ _ _ => n
def Ex.num : Ex → Int | .mk _ _ _ m _ _ _ => m
def Ex.kids : Ex → List Ex | .mk _ _ _ _ ks _ _ => ks
def Ex.arms : Ex → List Ar | .mk _ _ _ _ _ a _ => a
def Ex.ty : Ex → Ty | .mk _ _ _ _ _ _ t => t
def Ar.pos : Ar → Int | .mk p _ _ _ => p
def Ar.con : Ar → Bytes | .mk _ c _ _ => c
def Ar.vars : Ar → List Bytes | .mk _ _ v _ => v
def Ar.body : Ar → Ex | .mk _ _ _ b => b
def noE : Ex := .mk 0 0 [] 0 [] [] noT
def posOf (l : List Tok) (i : Nat) : Int := match l[i]? with
  | some t => t.pos
  | none => 0
def wordAt (l : List Tok) (i : Nat) (w : Bytes) : Bool := tokAt l i 4 w
/-- The text of a token of a kind. -/
def nameAt (l : List Tok) (i : Nat) (k : Int) : Option Bytes := match l[i]? with
  | some t => if t.kind = k then some t.text else none
  | none => none
def lowers : List Tok → List Bytes
  | [] => []
  | t :: r => if t.kind = 1 then t.text :: lowers r else []
def numOf (s : Bytes) : Int := s.foldl (fun n c => 10 * n + (c.toNat - 48 : Int)) 0
def startsE (t : Tok) : Bool := decide (t.kind = 1) || decide (t.kind = 2) || decide (t.kind = 3) || (decide (t.kind = 5) && (decide (t.text = [63]) || decide (t.text = [40]) || decide (t.text = [123])))
def startsEAt (l : List Tok) (i : Nat) : Bool := match l[i]? with
  | some t => startsE t
  | none => false
def letB : Bytes := [108, 101, 116]
def recB : Bytes := [114, 101, 99]
def inB : Bytes := [105, 110]
def caseB : Bytes := [99, 97, 115, 101]
def ofB : Bytes := [111, 102]
def endB : Bytes := [101, 110, 100]
def leafE (k p : Int) (n : Bytes) (m : Int) : Ex := .mk k p n m [] [] noT
def kidsE (k p : Int) (n : Bytes) (ks : List Ex) : Ex := .mk k p n 0 ks [] noT
def caseE (p : Int) (e : Ex) (as : List Ar) : Ex := .mk 8 p [] 0 [e] as noT
def annE (p : Int) (e : Ex) (t : Ty) : Ex := .mk 9 p [] 0 [e] [] t
/-- What is to be read: an expression, an atom, the arguments behind a function, the arms of an analysis. -/
inductive EQ where
  | expr
  | atom
  | apps (e : Ex)
  | arms (p : Int) (e : Ex) (acc : List Ar)
abbrev ER := Except Int (Ex × Nat)
def EQ.rank : EQ → Nat
  | .atom => 0
  | .apps _ => 1
  | .arms _ _ _ => 1
  | .expr => 2
def emu (l : List Tok) (q : EQ) (i : Nat) : Nat := 4 * (l.length - i) + q.rank
def letStep (l : List Tok) (f : EQ → Nat → ER) (kind p : Int) (j : Nat) : ER := match nameAt l j 1 with
  | none => .error (failPos l j)
  | some n => if markAt l (j + 1) [61] then match f .expr (j + 2) with
      | .error p => .error p
      | .ok (a, k) => if wordAt l k inB then match f .expr (k + 1) with
          | .error p => .error p
          | .ok (b, m) => .ok (kidsE kind p n [a, b], m)
        else .error (failPos l k)
    else .error (failPos l (j + 1))
def estep (l : List Tok) (f : EQ → Nat → ER) : EQ → Nat → ER
  | .expr, i =>
    if markAt l i [92] then match nameAt l (i + 1) 1 with
      | none => .error (failPos l (i + 1))
      | some n => if markAt l (i + 2) [46] then match f .expr (i + 3) with
          | .error p => .error p
          | .ok (b, k) => .ok (kidsE 4 (posOf l i) n [b], k)
        else .error (failPos l (i + 2))
    else if wordAt l i letB then (if wordAt l (i + 1) recB then letStep l f 7 (posOf l i) (i + 2) else letStep l f 6 (posOf l i) (i + 1))
    else if wordAt l i caseB then match f .expr (i + 1) with
      | .error p => .error p
      | .ok (e, j) => if wordAt l j ofB then f (.arms (posOf l i) e []) (j + 1) else .error (failPos l j)
    else match f .atom i with
      | .error p => .error p
      | .ok (e, j) => f (.apps e) j
  | .apps e, i => if startsEAt l i then match f .atom i with
      | .error p => .error p
      | .ok (a, j) => f (.apps (kidsE 5 e.pos [] [e, a])) j
    else .ok (e, i)
  | .arms p e acc, i => match nameAt l i 2 with
    | none => .error (failPos l i)
    | some c => if markAt l (i + 1 + (lowers (l.drop (i + 1))).length) [46] then match f .expr (i + 1 + (lowers (l.drop (i + 1))).length + 1) with
        | .error p => .error p
        | .ok (b, m) => if markAt l m [124] then f (.arms p e (acc ++ [.mk (posOf l i) c (lowers (l.drop (i + 1))) b])) (m + 1)
          else if wordAt l m endB then .ok (caseE p e (acc ++ [.mk (posOf l i) c (lowers (l.drop (i + 1))) b]), m + 1) else .error (failPos l m)
      else .error (failPos l (i + 1 + (lowers (l.drop (i + 1))).length))
  | .atom, i => match l[i]? with
    | none => .error (failPos l i)
    | some t => if t.kind = 1 then .ok (leafE 1 t.pos t.text 0, i + 1) else if t.kind = 2 then .ok (leafE 2 t.pos t.text 0, i + 1) else if t.kind = 3 then .ok (leafE 3 t.pos [] (numOf t.text), i + 1)
      else if t.kind = 5 ∧ t.text = [63] then .ok (leafE 10 t.pos [] 0, i + 1)
      else if t.kind = 5 ∧ t.text = [123] then match f .expr (i + 1) with
        | .error p => .error p
        | .ok (x, j) => if markAt l j [125] then .ok (kidsE 11 t.pos [] [x], j + 1) else .error (failPos l j)
      else if t.kind = 5 ∧ t.text = [40] then match f .expr (i + 1) with
        | .error p => .error p
        | .ok (x, j) => if markAt l j [58] then match tread l .whole (j + 1) with
            | .error p => .error p
            | .ok (y, k) => if markAt l k [41] then .ok (annE t.pos x y, k + 1) else .error (failPos l k)
          else if markAt l j [41] then .ok (x, j + 1) else .error (failPos l j)
      else .error (failPos l i)
/-- A call goes only to what is smaller. -/
def ecall (l : List Tok) (f : EQ → Nat → ER) (q : EQ) (i : Nat) (q' : EQ) (i' : Nat) : ER := if emu l q' i' < emu l q i then f q' i' else .error 0
def erun (l : List Tok) : Nat → EQ → Nat → ER
  | 0, _, _ => .error 0
  | n + 1, q, i => estep l (ecall l (erun l n) q i) q i
theorem erun_fuel {l : List Tok} : ∀ (n m : Nat) (q : EQ) (i : Nat), emu l q i < n → emu l q i < m → erun l n q i = erun l m q i
  | 0, _, _, _, h, _ => by omega
  | _ + 1, 0, _, _, _, h => by omega
  | n + 1, m + 1, q, i, h, h' => by
    have : ecall l (erun l n) q i = ecall l (erun l m) q i := by
      funext q' i'
      unfold ecall
      by_cases hlt : emu l q' i' < emu l q i
      · rw [if_pos hlt, if_pos hlt]; exact erun_fuel n m q' i' (by omega) (by omega)
      · rw [if_neg hlt, if_neg hlt]
    show estep l (ecall l (erun l n) q i) q i = estep l (ecall l (erun l m) q i) q i
    rw [this]
/-- What is read. -/
def eread (l : List Tok) (q : EQ) (i : Nat) : ER := erun l (emu l q i + 1) q i
theorem eread_eq (l : List Tok) (q : EQ) (i : Nat) : eread l q i = estep l (ecall l (eread l) q i) q i := by
  have : ecall l (erun l (emu l q i)) q i = ecall l (eread l) q i := by
    funext q' i'
    unfold ecall
    by_cases hlt : emu l q' i' < emu l q i
    · rw [if_pos hlt, if_pos hlt]; exact erun_fuel _ _ q' i' hlt (by omega)
    · rw [if_neg hlt, if_neg hlt]
  show estep l (ecall l (erun l (emu l q i)) q i) q i = _
  rw [this]
theorem ecall_lt {l : List Tok} {q q' : EQ} {i i' : Nat} (h : i < l.length) (h' : i < i') : ecall l (eread l) q i q' i' = eread l q' i' := if_pos (by
  have h1 : q'.rank ≤ 2 := by cases q' <;> simp [EQ.rank]
  unfold emu
  omega)
theorem ecall_rank {l : List Tok} {q q' : EQ} {i : Nat} (h : q'.rank < q.rank) : ecall l (eread l) q i q' i = eread l q' i := if_pos (by unfold emu; omega)
end Go.Th
-- sum e3d27d22196289e7

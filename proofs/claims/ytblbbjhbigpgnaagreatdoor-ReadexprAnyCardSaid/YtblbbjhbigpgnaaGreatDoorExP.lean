/- Expressions in plain words: the canonical text and its tokens. No program in sight. -/
import Derived.Test.YtblbbjhbigpgnaaGreatDoorExQ
import Derived.Test.YtblbbjhbigpgnaaGreatDoorTypL
namespace Go.Th
inductive GoodE : Ex → Prop where
  | var (p : Int) (n : Bytes) (h : kindOf n = 1) : GoodE (leafE 1 p n 0)
  | con (p : Int) (n : Bytes) (h : kindOf n = 2) : GoodE (leafE 2 p n 0)
  | int (p : Int) (m : Nat) (h : m < 10) : GoodE (leafE 3 p [] m)
  | hole (p : Int) : GoodE (leafE 10 p [] 0)
  | lam (p : Int) (n : Bytes) (b : Ex) (h : kindOf n = 1) (hb : GoodE b) : GoodE (kidsE 4 p n [b])
  | app (p : Int) (f a : Ex) (hf : GoodE f) (ha : GoodE a) : GoodE (kidsE 5 p [] [f, a])
  | bind (k p : Int) (n : Bytes) (a b : Ex) (hk : k = 6 ∨ k = 7) (h : kindOf n = 1) (ha : GoodE a) (hb : GoodE b) : GoodE (kidsE k p n [a, b])
  | ann (p : Int) (e : Ex) (t : Ty) (he : GoodE e) (ht : GoodT t) : GoodE (annE p e t)
  | held (p : Int) (e : Ex) (he : GoodE e) : GoodE (kidsE 11 p [] [e])
  | case (p : Int) (e : Ex) (as : List Ar) (he : GoodE e) (hne : as ≠ []) (hc : ∀ a ∈ as, kindOf a.con = 2 ∧ ∀ v ∈ a.vars, kindOf v = 1) (ha : ∀ a ∈ as, GoodE a.body) : GoodE (caseE p e as)
def atomK (k : Int) : Bool := decide (k = 1) || decide (k = 2) || decide (k = 3) || decide (k = 10) || decide (k = 9) || decide (k = 11)
def funK (k : Int) : Bool := atomK k || decide (k = 5)
def paren (s : Bytes) : Bytes := 40 :: (s ++ [41])
def parens (ws : List Bytes) : List Bytes := [40] :: (ws ++ [[41]])
def showVars (vs : List Bytes) : Bytes := vs.flatMap (32 :: ·)
mutual
def showE : Ex → Bytes
  | .mk k _ n m ks as t =>
    if k = 1 then n else if k = 2 then n else if k = 3 then [UInt8.ofNat (48 + m.toNat)] else if k = 10 then [63]
    else if k = 4 then [92] ++ (n ++ ([46] ++ (32 :: showFst ks)))
    else if k = 5 then showFun ks
    else if k = 6 then letB ++ (32 :: (n ++ (32 :: ([61] ++ (32 :: showLet ks)))))
    else if k = 7 then letB ++ (32 :: (recB ++ (32 :: (n ++ (32 :: ([61] ++ (32 :: showLet ks)))))))
    else if k = 9 then [40] ++ (showFst ks ++ (32 :: ([58] ++ (32 :: (showT t ++ [41])))))
    else if k = 11 then [123] ++ (showFst ks ++ [125])
    else caseB ++ (32 :: (showFst ks ++ (32 :: (ofB ++ (32 :: (showArms as ++ (32 :: endB)))))))
def showFst : List Ex → Bytes
  | [] => []
  | a :: _ => showE a
def showFun : List Ex → Bytes
  | [] => []
  | f :: r => (if funK f.kind then showE f else paren (showE f)) ++ showArg1 r
def showArg1 : List Ex → Bytes
  | [] => []
  | a :: _ => 32 :: (if atomK a.kind then showE a else paren (showE a))
def showLet : List Ex → Bytes
  | [] => []
  | a :: r => showE a ++ (32 :: (inB ++ (32 :: showFst r)))
def showAr : Ar → Bytes
  | .mk _ c vs b => c ++ (showVars vs ++ ([46] ++ (32 :: showE b)))
def showArms : List Ar → Bytes
  | [] => []
  | a :: r => showAr a ++ showMore r
def showMore : List Ar → Bytes
  | [] => []
  | a :: r => 32 :: ([124] ++ (32 :: (showAr a ++ showMore r)))
end
mutual
def toksE : Ex → List Bytes
  | .mk k _ n m ks as t =>
    if k = 1 then [n] else if k = 2 then [n] else if k = 3 then [[UInt8.ofNat (48 + m.toNat)]] else if k = 10 then [[63]]
    else if k = 4 then [92] :: n :: [46] :: toksFst ks
    else if k = 5 then toksFun ks
    else if k = 6 then letB :: n :: [61] :: toksLet ks
    else if k = 7 then letB :: recB :: n :: [61] :: toksLet ks
    else if k = 9 then [40] :: (toksFst ks ++ ([58] :: (toksT t ++ [[41]])))
    else if k = 11 then [123] :: (toksFst ks ++ [[125]])
    else caseB :: (toksFst ks ++ (ofB :: (toksArms as ++ [endB])))
def toksFst : List Ex → List Bytes
  | [] => []
  | a :: _ => toksE a
def toksFun : List Ex → List Bytes
  | [] => []
  | f :: r => (if funK f.kind then toksE f else parens (toksE f)) ++ toksArg1 r
def toksArg1 : List Ex → List Bytes
  | [] => []
  | a :: _ => if atomK a.kind then toksE a else parens (toksE a)
def toksLet : List Ex → List Bytes
  | [] => []
  | a :: r => toksE a ++ (inB :: toksFst r)
def toksAr : Ar → List Bytes
  | .mk _ c vs b => c :: (vs ++ ([46] :: toksE b))
def toksArms : List Ar → List Bytes
  | [] => []
  | a :: r => toksAr a ++ toksMore r
def toksMore : List Ar → List Bytes
  | [] => []
  | a :: r => [124] :: (toksAr a ++ toksMore r)
end
def funS (e : Ex) : Bytes := if funK e.kind then showE e else paren (showE e)
def argS (e : Ex) : Bytes := if atomK e.kind then showE e else paren (showE e)
def funW (e : Ex) : List Bytes := if funK e.kind then toksE e else parens (toksE e)
def argW (e : Ex) : List Bytes := if atomK e.kind then toksE e else parens (toksE e)
theorem showE_var (p : Int) (n : Bytes) : showE (leafE 1 p n 0) = n := by simp [leafE, showE]
theorem showE_con (p : Int) (n : Bytes) : showE (leafE 2 p n 0) = n := by simp [leafE, showE]
theorem showE_int (p : Int) (m : Nat) : showE (leafE 3 p [] m) = [UInt8.ofNat (48 + m)] := by simp [leafE, showE]
theorem showE_hole (p : Int) : showE (leafE 10 p [] 0) = [63] := by simp [leafE, showE]
theorem showE_lam (p : Int) (n : Bytes) (b : Ex) : showE (kidsE 4 p n [b]) = [92] ++ (n ++ ([46] ++ (32 :: showE b))) := by simp [kidsE, showE, showFst]
theorem showE_app (p : Int) (f a : Ex) : showE (kidsE 5 p [] [f, a]) = funS f ++ (32 :: argS a) := by simp [kidsE, showE, showFun, showArg1, funS, argS]
theorem showE_let (p : Int) (n : Bytes) (a b : Ex) : showE (kidsE 6 p n [a, b]) = letB ++ (32 :: (n ++ (32 :: ([61] ++ (32 :: (showE a ++ (32 :: (inB ++ (32 :: showE b))))))))) := by simp [kidsE, showE, showLet, showFst]
theorem showE_rec (p : Int) (n : Bytes) (a b : Ex) : showE (kidsE 7 p n [a, b]) = letB ++ (32 :: (recB ++ (32 :: (n ++ (32 :: ([61] ++ (32 :: (showE a ++ (32 :: (inB ++ (32 :: showE b))))))))))) := by simp [kidsE, showE, showLet, showFst]
theorem showE_ann (p : Int) (e : Ex) (t : Ty) : showE (annE p e t) = [40] ++ (showE e ++ (32 :: ([58] ++ (32 :: (showT t ++ [41]))))) := by simp [annE, showE, showFst]
theorem showE_held (p : Int) (e : Ex) : showE (kidsE 11 p [] [e]) = [123] ++ (showE e ++ [125]) := by simp [kidsE, showE, showFst]
theorem showE_case (p : Int) (e : Ex) (as : List Ar) : showE (caseE p e as) = caseB ++ (32 :: (showE e ++ (32 :: (ofB ++ (32 :: (showArms as ++ (32 :: endB))))))) := by simp [caseE, showE, showFst]
theorem toksE_var (p : Int) (n : Bytes) : toksE (leafE 1 p n 0) = [n] := by simp [leafE, toksE]
theorem toksE_con (p : Int) (n : Bytes) : toksE (leafE 2 p n 0) = [n] := by simp [leafE, toksE]
theorem toksE_int (p : Int) (m : Nat) : toksE (leafE 3 p [] m) = [[UInt8.ofNat (48 + m)]] := by simp [leafE, toksE]
theorem toksE_hole (p : Int) : toksE (leafE 10 p [] 0) = [[63]] := by simp [leafE, toksE]
theorem toksE_lam (p : Int) (n : Bytes) (b : Ex) : toksE (kidsE 4 p n [b]) = [92] :: n :: [46] :: toksE b := by simp [kidsE, toksE, toksFst]
theorem toksE_app (p : Int) (f a : Ex) : toksE (kidsE 5 p [] [f, a]) = funW f ++ argW a := by simp [kidsE, toksE, toksFun, toksArg1, funW, argW]
theorem toksE_let (p : Int) (n : Bytes) (a b : Ex) : toksE (kidsE 6 p n [a, b]) = letB :: n :: [61] :: (toksE a ++ (inB :: toksE b)) := by simp [kidsE, toksE, toksLet, toksFst]
theorem toksE_rec (p : Int) (n : Bytes) (a b : Ex) : toksE (kidsE 7 p n [a, b]) = letB :: recB :: n :: [61] :: (toksE a ++ (inB :: toksE b)) := by simp [kidsE, toksE, toksLet, toksFst]
theorem toksE_ann (p : Int) (e : Ex) (t : Ty) : toksE (annE p e t) = [40] :: (toksE e ++ ([58] :: (toksT t ++ [[41]]))) := by simp [annE, toksE, toksFst]
theorem toksE_held (p : Int) (e : Ex) : toksE (kidsE 11 p [] [e]) = [123] :: (toksE e ++ [[125]]) := by simp [kidsE, toksE, toksFst]
theorem toksE_case (p : Int) (e : Ex) (as : List Ar) : toksE (caseE p e as) = caseB :: (toksE e ++ (ofB :: (toksArms as ++ [endB]))) := by simp [caseE, toksE, toksFst]
theorem kind_digit {m : Nat} (h : m < 10) : kindOf [UInt8.ofNat (48 + m)] = 3 := by
  have : ∀ m : Fin 10, kindOf [UInt8.ofNat (48 + m.val)] = 3 := by decide
  exact this ⟨m, h⟩
theorem num_digit {m : Nat} (h : m < 10) : numOf [UInt8.ofNat (48 + m)] = m := by
  have : ∀ m : Fin 10, numOf [UInt8.ofNat (48 + m.val)] = (m.val : Int) := by decide
  exact this ⟨m, h⟩
theorem Scans.cons {s : Bytes} {w : Bytes} {ws : List Bytes} (hw : kindOf w ≠ 0) (h : Scans s ws) (hs : ∀ r, apart r → apart (s ++ r)) : Scans (w ++ s) (w :: ws) := Scans.append (ws := [w]) (Scans.word hw) h hs
/-- A word, a space, and what follows. -/
theorem Scans.wsp {s : Bytes} {w : Bytes} {ws : List Bytes} (hw : kindOf w ≠ 0) (h : Scans s ws) : Scans (w ++ (32 :: s)) (w :: ws) := Scans.cons hw h.space (apart_app (by decide))
theorem Scans.parenS {s : Bytes} {ws : List Bytes} (h : Scans s ws) : Scans (Go.Th.paren s) (Go.Th.parens ws) := Scans.paren h
theorem scans_vars {s : Bytes} {ws : List Bytes} (h : Scans s ws) (hs : ∀ r, apart r → apart (s ++ r)) : ∀ (vs : List Bytes), (∀ v ∈ vs, kindOf v = 1) → Scans (showVars vs ++ s) (vs ++ ws) ∧ ∀ r, apart r → apart ((showVars vs ++ s) ++ r)
  | [], _ => by simpa [showVars] using ⟨h, hs⟩
  | v :: vs, hv => by
    have ih := scans_vars h hs vs (fun x hx => hv x (List.mem_cons_of_mem _ hx))
    have e : showVars (v :: vs) ++ s = 32 :: (v ++ (showVars vs ++ s)) := by simp [showVars]
    rw [e]
    exact ⟨Scans.space (Scans.cons (by rw [hv v (List.mem_cons_self ..)]; decide) ih.1 ih.2), apart_app (by decide)⟩
theorem scans_E {e : Ex} (h : GoodE e) : Scans (showE e) (toksE e) := by
  induction h with
  | var p n h => rw [showE_var, toksE_var]; exact Scans.word (by omega)
  | con p n h => rw [showE_con, toksE_con]; exact Scans.word (by omega)
  | int p m h => rw [showE_int, toksE_int]; exact Scans.word (by rw [kind_digit h]; decide)
  | hole p => rw [showE_hole, toksE_hole]; exact Scans.word (by decide)
  | lam p n b h hb ih =>
    rw [showE_lam, toksE_lam]
    exact Scans.mark (by decide) (by decide) (Scans.cons (by omega) (Scans.wsp (w := [46]) (by decide) ih) (apart_app (by decide)))
  | app p f a hf ha ihf iha =>
    rw [showE_app, toksE_app]
    refine Scans.append ?_ (Scans.space ?_) (apart_app (by decide))
    · unfold funS funW
      split
      · exact ihf
      · exact ihf.parenS
    · unfold argS argW
      split
      · exact iha
      · exact iha.parenS
  | bind k p n a b hk h ha hb iha ihb =>
    have h2 : Scans (n ++ (32 :: ([61] ++ (32 :: (showE a ++ (32 :: (inB ++ (32 :: showE b)))))))) (n :: [61] :: (toksE a ++ (inB :: toksE b))) :=
      Scans.wsp (by omega) (Scans.wsp (by decide) (Scans.append iha (Scans.space (Scans.wsp (by decide) ihb)) (apart_app (by decide))))
    rcases hk with rfl | rfl
    · rw [showE_let, toksE_let]
      exact Scans.wsp (by decide) h2
    · rw [showE_rec, toksE_rec]
      exact Scans.wsp (by decide) (Scans.wsp (by decide) h2)
  | ann p e t he ht ih =>
    rw [showE_ann, toksE_ann]
    exact Scans.mark (by decide) (by decide) (Scans.append ih (Scans.space (Scans.wsp (by decide) (Scans.append (scans_T ht) (Scans.word (by decide)) (apart_app (by decide))))) (apart_app (by decide)))
  | held p e he ih =>
    rw [showE_held, toksE_held]
    exact Scans.mark (by decide) (by decide) (Scans.append ih (Scans.word (by decide)) (apart_app (by decide)))
  | case p e as he hne hc ha ihe ihs =>
    rw [showE_case, toksE_case]
    have har : ∀ a ∈ as, Scans (showAr a) (toksAr a) := by
      intro a hm
      have i1 := ihs a hm
      have i2 := hc a hm
      obtain ⟨q, c, vs, b⟩ := a
      simp only [showAr, toksAr]
      simp only [Ar.body, Ar.con, Ar.vars] at i1 i2
      have i3 := scans_vars (Scans.wsp (w := [46]) (by decide) i1) (apart_app (by decide)) vs i2.2
      exact Scans.cons (by omega) i3.1 i3.2
    have key : ∀ as : List Ar, (∀ a ∈ as, Scans (showAr a) (toksAr a)) → Scans (showMore as) (toksMore as) ∧ ∀ r, apart r → apart (showMore as ++ r) := by
      intro as
      induction as with
      | nil => intro _; exact ⟨by simp only [showMore, toksMore]; exact Scans.nil, by simp only [showMore]; exact apart_id⟩
      | cons a r ihr =>
        intro hh
        have i1 := ihr (fun x hx => hh x (List.mem_cons_of_mem _ hx))
        have i2 := hh a (List.mem_cons_self ..)
        simp only [showMore, toksMore]
        exact ⟨Scans.space (Scans.wsp (by decide) (Scans.append i2 i1.1 i1.2)), apart_app (by decide)⟩
    have hall : Scans (showArms as) (toksArms as) := by
      cases as with
      | nil => exact absurd rfl hne
      | cons a r =>
        have i1 := key r (fun x hx => har x (List.mem_cons_of_mem _ hx))
        simp only [showArms, toksArms]
        exact Scans.append (har a (List.mem_cons_self ..)) i1.1 i1.2
    exact Scans.wsp (by decide) (Scans.append ihe (Scans.space (Scans.wsp (by decide) (Scans.append hall (Scans.space (Scans.word (by decide))) (apart_app (by decide))))) (apart_app (by decide)))
end Go.Th
-- sum f585c11d9dfb25ec

/- The walk of typedholesref7.Deep at a program of declarations within the limits. -/
import Derived.Test.YtpjehhnaojjanaaGreatDoorK6
import Derived.Test.YtpjehhnaojjanaaGreatDoorK1
import Derived.Test.YtpjehhnaojjanaaGreatDoorK4
import Derived.Lib.ItoaNum
namespace Go.Proofs.YtpjehhnaojjanaaGreatDoor
open Go Go.Eng Go.Th Go.Proofs
set_option maxRecDepth 10000
set_option maxHeartbeats 4000000
attribute [local irreducible] wpList Code.wp Run bodyPost Go.Eng.Ends Exit.then Exit.inBlock Again Wq Kq
theorem all_rd {α : Type} {R : α → List Value → Prop} {g : Ghost} {sz : Nat} (hR : ∀ a c, R a c → c.length = sz) {l : List α} {xs : List Value} {b off : Nat} (ht : AllAt R l xs) (hx : ∀ k x, xs[k]? = some x → g b (off + k) = some x) {i : Nat} (h : i < l.length) :
  ∃ c, R l[i] c ∧ ∀ own, Rd g own b (off + i * sz) c := by
 obtain ⟨c, h1, h2⟩ := AllAt.get hR ht i h
 exact ⟨c, h1, fun own => rd_g fun j x hj => by rw [Nat.add_assoc]; exact hx _ _ (h2 j x hj)⟩
theorem tys_rdA {g : Ghost} {ta : List Ty} {xs : List Value} {b off : Nat} (ht : TysAt g ta xs) (hx : ∀ k x, xs[k]? = some x → g b (off + k) = some x) {i : Nat} (h : i < ta.length) :
  ∃ sl, TyAt g ta[i] (tyCells ta[i] sl) ∧ ∀ own, Rd g own b (off + i * 5) (tyCells ta[i] sl) := by
 obtain ⟨c, h1, h2⟩ := ht.get i h
 obtain ⟨sl, rfl⟩ := h1.cells
 exact ⟨sl, h1, fun own => rd_g fun j x hj => by rw [Nat.add_assoc]; exact hx _ _ (h2 j x hj)⟩
theorem CnAt.form {g : Ghost} {c : Cn} {cs : List Value} (h : CnAt g c cs) : ∃ (a : Option Addr) (k : Nat) (xf : List Value), cs = [.int .i64 c.pos, str c.name, .slice a c.fields.length k] ∧ SlAt g 5 (.slice a c.fields.length k) c.fields.length xf ∧ TysAt g c.fields xf := by
 obtain ⟨sf, xf, rfl, h2, h3⟩ := h
 obtain ⟨a, k, rfl⟩ := slForm2 h2
 exact ⟨a, k, xf, rfl, h2, h3⟩
end Go.Proofs.YtpjehhnaojjanaaGreatDoor
-- sum 498b6ba0d444e364

/- The walks of chapter 4: Children, words, EqualAll, Equal. -/
namespace Go.Th
theorem take_snoc {α : Type} {l : List α} {i : Nat} (h : i < l.length) : l.take (i + 1) = l.take i ++ [l[i]] := List.take_succ_eq_append_getElem h
end Go.Th
namespace Go.Proofs.YtpjehhnaojjanaaGreatDoor
open Go Go.Eng Go.Th Go.Proofs
set_option maxRecDepth 10000
set_option maxHeartbeats 4000000
attribute [local irreducible] wpList Code.wp Run bodyPost Go.Eng.Ends Exit.then Exit.inBlock Again Wq Kq
theorem exs_snoc {g : Ghost} {l : List Ex} {xs cs : List Value} {a : Ex} (h : ExsAt g l xs) (h1 : ExAt g a cs) : ExsAt g (l ++ [a]) (xs ++ cs) := exs_all.2 (AllAt.snoc h1 (exs_all.1 h))
theorem exs_one {g : Ghost} {l : List Ex} {xs : List Value} (h : ExsAt g l xs) : xs.length = l.length * 11 ∧ ∀ u ∈ xs, oneC u = true := AllAt.one (fun _ _ h => h.one) (exs_all.1 h)
theorem ars_rd {g : Ghost} {ra : List Ar} {xa : List Value} {b off : Nat} {own : List Res} (ht : ArsAt g ra xa) (hx : ∀ k x, xa[k]? = some x → g b (off + k) = some x) {i : Nat} (h : i < ra.length) :
  ∃ sv bc, SlAt g 1 sv ra[i].vars.length (ra[i].vars.map str) ∧ ExAt g ra[i].body bc ∧ Rd g own b (off + i * 14) (.int .i64 ra[i].pos :: str ra[i].con :: sv :: bc) := by
 obtain ⟨c, h1, h2⟩ := AllAt.get (fun _ _ h => h.one.1) (ars_all.1 ht) i h
 generalize ra[i] = a at h1 ⊢
 cases a with
 | mk p cn vs e =>
  unfold ArAt at h1
  obtain ⟨slv, bc, rfl, h3, h4⟩ := h1
  exact ⟨slv, bc, h3, h4, rd_g fun j x hj => by rw [Nat.add_assoc]; exact hx _ _ (h2 j x hj)⟩
theorem ExV.open {g : Ghost} {v : Value} {e : Ex} (h : ExV g v e) : ∃ (a1 : Option Addr) (c1 : Nat) (a2 : Option Addr) (c2 : Nat) (a3 : Option Addr) (m3 c3 : Nat) (xk xa : List Value),
  v = .agg #[.int .i64 e.kind, .int .i64 e.pos, str e.name, .int .i64 e.num, .slice a1 e.kids.length c1, .slice a2 e.arms.length c2, .int .i64 e.ty.kind, str e.ty.name, .int .i64 e.ty.id, .int .i64 e.ty.home, .slice a3 m3 c3] ∧
  SlAt g 11 (.slice a1 e.kids.length c1) e.kids.length xk ∧ ExsAt g e.kids xk ∧ SlAt g 14 (.slice a2 e.arms.length c2) e.arms.length xa ∧ ArsAt g e.arms xa ∧ TyAt g e.ty (tyCells e.ty (.slice a3 m3 c3)) := by
 obtain ⟨cs, rfl, h⟩ := h
 obtain ⟨a1, m1, c1, a2, m2, c2, a3, m3, c3, xk, xa, rfl, h1, h2, h3, h4, h5⟩ := h.form
 obtain ⟨_, _, e1⟩ := slForm2 h1
 obtain ⟨_, _, e2⟩ := slForm2 h3
 cases e1; cases e2
 exact ⟨_, _, _, _, a3, m3, c3, xk, xa, rfl, h1, h2, h3, h4, h5⟩
theorem Children_spec (g : Ghost) (v : Value) (e : Ex) (hv : ExV g v e) (hsz : sizeE e ≤ 1000000) : SpecN Tryz.prog 74 [v] g fun w g' => ∃ xs, SlAt g' 11 w (childE e).length xs ∧ ExsAt g' (childE e) xs := by
 obtain ⟨a1, c1, a2, c2, a3, m3, c3, xk, xa, rfl, h1, h2, h3, h4, h5⟩ := hv.open
 have hlen := childE_len e
 have hcl : (childE e).length = e.kids.length + e.arms.length := by simp [childE]
 refine spec_of_run Tryz.func74 rfl Tryz.ntmps74 rfl fun E hE => ?_
 refine r_sr ?_
 refine r_box rfl rfl rfl (fun b1 => ?_)
 refine r_ev rfl rfl <| r_nn <| r_sr <| r_fieldAddr rfl rfl <| r_loadB1 0 rfl rfl rfl rfl ?_
 refine r_nilRow 51 11 ?_
 refine r_appendAt 0 rfl rfl rfl rfl h1 (by rfl) (by rfl) (exs_one h2).2 (by unfold maxLen; omega) (by omega) (fun v' _ => ?_)
 rw [Nat.zero_add]
 refine r_ev rfl rfl <| r_nn <| r_seq <| r_sr <| r_ev rfl rfl <| r_nn <| r_block ?_
 refine r_loop (ι := Nat × Value × List Value) (fun p => [(1, ptr b1 0), (3, p.2.1), (4, .int .i64 p.1)]) (fun _ => g) (fun p => [.row 51 11 p.2.1 (e.kids.length + p.1) p.2.2, .blk b1 51 [.int .i64 e.kind, .int .i64 e.pos, str e.name, .int .i64 e.num, .slice a1 e.kids.length c1, .slice a2 e.arms.length c2, .int .i64 e.ty.kind, str e.ty.name, .int .i64 e.ty.id, .int .i64 e.ty.home, .slice a3 m3 c3]])
  (fun p => p.1 ≤ e.arms.length ∧ ExsAt g (e.kids ++ (e.arms.take p.1).map Ar.body) p.2.2) (fun p => e.arms.length - p.1) (0, v', xk) ⟨Nat.zero_le _, by simpa using h2⟩ ⟨rfl, rfl, rfl, trivial⟩ rfl (by simp) ?_
 rintro ⟨i, sv, xs⟩ ⟨hi, hx⟩
 simp only at hi hx
 show Run E _ [(1, ptr b1 0), (3, sv), (4, .int .i64 i)] g [.row 51 11 sv (e.kids.length + i) xs, .blk b1 51 [.int .i64 e.kind, .int .i64 e.pos, str e.name, .int .i64 e.num, .slice a1 e.kids.length c1, .slice a2 e.arms.length c2, .int .i64 e.ty.kind, str e.ty.name, .int .i64 e.ty.id, .int .i64 e.ty.home, .slice a3 m3 c3]] _
 refine r_seq <| r_sr <| r_ev rfl rfl <| r_fieldAddr rfl rfl <| r_loadB1 1 rfl rfl rfl rfl <| r_len_sl rfl rfl <| r_ev rfl rfl <| r_nn ?_
 refine r_cond rfl (fun hlt => ?_) (fun hlt => ?_)
 ·have hlt' : i < e.arms.length := by omega
  obtain ⟨b, off, cap, hsl, hxx⟩ := h3.held hlt'
  cases hsl
  obtain ⟨slv, bc, _, hb2, hr⟩ := ars_rd (own := [.row 51 11 sv (e.kids.length + i) xs, .blk b1 51 [.int .i64 e.kind, .int .i64 e.pos, str e.name, .int .i64 e.num, .slice a1 e.kids.length c1, .slice (some ⟨b, off, none⟩) e.arms.length c2, .int .i64 e.ty.kind, str e.ty.name, .int .i64 e.ty.id, .int .i64 e.ty.home, .slice a3 m3 c3]]) h4 hxx hlt'
  obtain ⟨d1, n1, o1, d2, n2, o2, d3, n3, o3, yk, ya, rfl, _⟩ := hb2.form
  refine r_skip <| r_then_normal <| r_seq <| r_block <| r_region <| r_ev rfl rfl <| r_fieldAddr rfl rfl <| r_loadB1 1 rfl rfl rfl rfl <| r_ev rfl rfl <| r_indexAddr rfl rfl rfl rfl (by omega) ?_; refine r_fieldAddr rfl rfl ?_
  refine r_load rfl rfl hr.tail3 rfl ?_
  refine r_buildSlice rfl rfl (by rfl) (by rfl) (by rfl) (by rfl) (by rfl) (fun b22 => ?_)
  refine r_appendRow 1 0 rfl rfl rfl rfl rfl (by rfl) (by rfl) rfl (by unfold maxLen; omega) (by omega) (fun w' _ => ?_)
  refine r_drop (own' := [_, _]) (.cons _ (List.Sublist.refl _)) ?_
  refine r_ev rfl rfl <| r_nil <| r_in_normal <| r_then_normal <| r_region <| r_ev rfl rfl <| r_add rfl rfl rfl (by omega) ?_; refine r_ev rfl rfl <| r_nn ?_
  refine r_again (i + 1, w', xs ++ [.int .i64 e.arms[i].body.kind, .int .i64 e.arms[i].body.pos, str e.arms[i].body.name, .int .i64 e.arms[i].body.num, .slice d1 n1 o1, .slice d2 n2 o2, .int .i64 e.arms[i].body.ty.kind, str e.arms[i].body.ty.name, .int .i64 e.arms[i].body.ty.id, .int .i64 e.arms[i].body.ty.home, .slice d3 n3 o3]) ⟨hlt', ?_⟩ (by simp only; omega) ⟨rfl, rfl, rfl, trivial⟩ rfl ?_
  ·simp only
   rw [take_snoc hlt', List.map_append, ← List.append_assoc]
   exact exs_snoc hx hb2
  ·simp [repN, Nat.add_assoc]
 ·have hil : i = e.arms.length := by omega
  subst hil
  rw [List.take_length] at hx
  refine r_publishRow (fun g1 hg1 hs1 => ?_)
  refine r_exit <| r_then_exit <| r_then_exit <| r_in_exit <| r_then_normal <| r_sr <| r_ev rfl rfl <| r_ev rfl rfl <| r_nn <| r_retc ?_
  exact r_ret1 [] rfl rfl (by simp) ⟨⟨_, by rw [hcl]; exact hs1, ExsAt.mono hg1 _ _ hx⟩, rfl⟩
end Go.Proofs.YtpjehhnaojjanaaGreatDoor
-- sum b0d8f2be36df57fc

/- Programs in plain words: how deep an expression is, the first arm with too many variables, the first limit that a program passes; what is read keeps types to annotations. No program in sight. -/
namespace Go.Th
mutual
def depthE : Ex → Nat
 | .mk _ _ _ _ ks ra _ => max (depthEs ks) (depthAs ra)
def depthEs : List Ex → Nat
 | [] => 0
 | a :: r => max (1 + depthE a) (depthEs r)
def depthA : Ar → Nat
 | .mk _ _ _ b => depthE b
def depthAs : List Ar → Nat
 | [] => 0
 | a :: r => max (1 + depthA a) (depthAs r)
end
mutual
def deepTy : Ex → Bool
 | .mk _ _ _ _ ks ra t => decide (40 < depthT t) || (deepTys ks || deepTyAs ra)
def deepTys : List Ex → Bool
 | [] => false
 | a :: r => deepTy a || deepTys r
def deepTyA : Ar → Bool
 | .mk _ _ _ b => deepTy b
def deepTyAs : List Ar → Bool
 | [] => false
 | a :: r => deepTyA a || deepTyAs r
end
def firstW : List Ar → Option Int
 | [] => none
 | a :: r => if 4 < a.vars.length then some a.pos else firstW r
mutual
def wideE : Ex → Option Int
 | .mk _ _ _ _ ks ra _ => (firstW ra).or ((wideEs ks).or (wideAs ra))
def wideEs : List Ex → Option Int
 | [] => none
 | a :: r => (wideE a).or (wideEs r)
def wideA : Ar → Option Int
 | .mk _ _ _ b => wideE b
def wideAs : List Ar → Option Int
 | [] => none
 | a :: r => (wideA a).or (wideAs r)
end
theorem depthEs_app : ∀ (x y : List Ex), depthEs (x ++ y) = max (depthEs x) (depthEs y)
 | [], y => by simp [depthEs]
 | a :: x, y => by simp only [List.cons_append, depthEs, depthEs_app x y]; omega
theorem depthAs_map : ∀ x : List Ar, depthAs x = depthEs (x.map Ar.body)
 | [] => by simp [depthAs, depthEs]
 | .mk p c v b :: x => by simp only [List.map_cons, depthAs, depthEs, depthAs_map x, depthA, Ar.body]
theorem depthE_child (e : Ex) : depthE e = depthEs (childE e) := by
 cases e; simp only [childE, Ex.kids, Ex.arms, depthE, depthEs_app, depthAs_map]
theorem depthEs_succ {l : List Ex} {i : Nat} (h : i < l.length) : depthEs (l.take (i + 1)) = max (depthEs (l.take i)) (1 + depthE l[i]) := by
 rw [List.take_succ_eq_append_getElem h, depthEs_app]
 simp [depthEs]
theorem depthEs_take (l : List Ex) (i : Nat) : depthEs (l.take i) ≤ depthEs l := by
 have := depthEs_app (l.take i) (l.drop i)
 rw [List.take_append_drop] at this
 omega
mutual
theorem depthE_size : ∀ e : Ex, depthE e ≤ sizeE e
 | .mk _ _ _ _ ks ra _ => by
  have h1 := depthEs_size ks
  have h2 := depthAs_size ra
  simp only [depthE, sizeE]; omega
theorem depthEs_size : ∀ l : List Ex, depthEs l ≤ sizeEs l + 1
 | [] => by simp [depthEs]
 | a :: r => by
  have h1 := depthE_size a
  have h2 := depthEs_size r
  simp only [depthEs, sizeEs]; omega
theorem depthA_size : ∀ a : Ar, depthA a + 1 ≤ sizeA a
 | .mk _ _ _ b => by
  have h1 := depthE_size b
  simp only [depthA, sizeA]; omega
theorem depthAs_size : ∀ l : List Ar, depthAs l ≤ sizeAs l
 | [] => by simp [depthAs]
 | a :: r => by
  have h1 := depthA_size a
  have h2 := depthAs_size r
  simp only [depthAs, sizeAs]; omega
end
theorem deepTys_app : ∀ (x y : List Ex), deepTys (x ++ y) = (deepTys x || deepTys y)
 | [], y => by simp [deepTys]
 | a :: x, y => by simp only [List.cons_append, deepTys, deepTys_app x y, Bool.or_assoc]
theorem deepTyAs_map : ∀ x : List Ar, deepTyAs x = deepTys (x.map Ar.body)
 | [] => by simp [deepTyAs, deepTys]
 | .mk p c v b :: x => by simp only [List.map_cons, deepTyAs, deepTys, deepTyAs_map x, deepTyA, Ar.body]
theorem deepTy_child (e : Ex) : deepTy e = (decide (40 < depthT e.ty) || deepTys (childE e)) := by
 cases e; simp only [childE, Ex.kids, Ex.arms, Ex.ty, deepTy, deepTys_app, deepTyAs_map]; rfl
theorem deepTys_drop {l : List Ex} {i : Nat} (h : i < l.length) : deepTys (l.drop i) = (deepTy l[i] || deepTys (l.drop (i + 1))) := by
 rw [List.drop_eq_getElem_cons h, deepTys]
theorem wideEs_app : ∀ (x y : List Ex), wideEs (x ++ y) = (wideEs x).or (wideEs y)
 | [], y => by simp [wideEs]
 | a :: x, y => by simp only [List.cons_append, wideEs, wideEs_app x y, Option.or_assoc]
theorem wideAs_map : ∀ x : List Ar, wideAs x = wideEs (x.map Ar.body)
 | [] => by simp [wideAs, wideEs]
 | .mk p c v b :: x => by simp only [List.map_cons, wideAs, wideEs, wideAs_map x, wideA, Ar.body]
theorem wideE_child (e : Ex) : wideE e = (firstW e.arms).or (wideEs (childE e)) := by
 cases e; simp only [childE, Ex.kids, Ex.arms, wideE, wideEs_app, wideAs_map]
theorem wideEs_drop {l : List Ex} {i : Nat} (h : i < l.length) : wideEs (l.drop i) = (wideE l[i]).or (wideEs (l.drop (i + 1))) := by
 rw [List.drop_eq_getElem_cons h, wideEs]
theorem firstW_drop {l : List Ar} {i : Nat} (h : i < l.length) : firstW (l.drop i) = if 4 < l[i].vars.length then some l[i].pos else firstW (l.drop (i + 1)) := by
 rw [List.drop_eq_getElem_cons h, firstW]
def deepEx (e : Ex) : Bool := decide (40 < depthE e) || deepTy e
def manyC : List Cn → Option Int
 | [] => none
 | c :: r => if 4 < c.fields.length then some c.pos else manyC r
def manyD : Nat → List Da → Option Int
 | _, [] => none
 | i, d :: r => if 8 ≤ i ∨ 4 < d.params.length ∨ 6 < d.cons.length then some d.pos else (manyC d.cons).or (manyD (i + 1) r)
theorem manyC_drop {l : List Cn} {i : Nat} (h : i < l.length) : manyC (l.drop i) = if 4 < l[i].fields.length then some l[i].pos else manyC (l.drop (i + 1)) := by
 rw [List.drop_eq_getElem_cons h, manyC]
theorem manyD_drop {l : List Da} {i : Nat} (h : i < l.length) : manyD i (l.drop i) = if 8 ≤ i ∨ 4 < l[i].params.length ∨ 6 < l[i].cons.length then some l[i].pos else (manyC l[i].cons).or (manyD (i + 1) (l.drop (i + 1))) := by
 rw [List.drop_eq_getElem_cons h, manyD]
def bindPos (l : List Bi) (i : Nat) : Int := match l[i]? with
 | some b => b.pos
 | none => 0
def manyP (p : Pg) : Option Int := (manyD 0 p.datas).or (if 16 < p.binds.length then some (bindPos p.binds 16) else none)
def deepTl (l : List Ty) : Bool := l.any fun t => decide (40 < depthT t)
def deepCs (l : List Cn) : Bool := l.any fun c => deepTl c.fields
def deepDs : List Da → Option Int
 | [] => none
 | d :: r => if deepCs d.cons then some d.pos else deepDs r
theorem deepDs_drop {l : List Da} {i : Nat} (h : i < l.length) : deepDs (l.drop i) = if deepCs l[i].cons then some l[i].pos else deepDs (l.drop (i + 1)) := by
 rw [List.drop_eq_getElem_cons h, deepDs]
theorem deepCs_drop {l : List Cn} {i : Nat} (h : i < l.length) : deepCs (l.drop i) = (deepTl l[i].fields || deepCs (l.drop (i + 1))) := by
 rw [List.drop_eq_getElem_cons h, deepCs, List.any_cons]; rfl
theorem deepTl_drop {l : List Ty} {i : Nat} (h : i < l.length) : deepTl (l.drop i) = (decide (40 < depthT l[i]) || deepTl (l.drop (i + 1))) := by
 rw [List.drop_eq_getElem_cons h, deepTl, List.any_cons]; rfl
def deepBs : List Bi → Option (Int × Int)
 | [] => none
 | b :: r => if decide (40 < depthT b.sig) || deepEx b.body then some (4, b.pos) else ((wideE b.body).map fun q => (5, q)).or (deepBs r)
theorem deepBs_drop {l : List Bi} {i : Nat} (h : i < l.length) : deepBs (l.drop i) = if decide (40 < depthT l[i].sig) || deepEx l[i].body then some (4, l[i].pos) else ((wideE l[i].body).map fun q => (5, q)).or (deepBs (l.drop (i + 1))) := by
 rw [List.drop_eq_getElem_cons h, deepBs]
def deepR (p : Pg) : Int × Int := match manyP p with
 | some q => (5, q)
 | none => match deepDs p.datas with
  | some q => (4, q)
  | none => (deepBs p.binds).getD (0, 0)
inductive WfE (M : Nat) : Ex → Prop where
 | mk (e : Ex) (h1 : e.kind ≠ 9 → depthT e.ty = 0) (h2 : depthT e.ty ≤ M) (hc : ∀ c ∈ childE e, WfE M c) : WfE M e
theorem WfE.p1 {M : Nat} {e : Ex} (h : WfE M e) : e.kind ≠ 9 → depthT e.ty = 0 := by cases h; assumption
theorem WfE.p2 {M : Nat} {e : Ex} (h : WfE M e) : depthT e.ty ≤ M := by cases h; assumption
theorem WfE.p3 {M : Nat} {e : Ex} (h : WfE M e) : ∀ c ∈ childE e, WfE M c := by cases h; assumption
theorem depth_noT : depthT noT = 0 := by simp [noT, depthT, depthTs]
theorem WfE.leaf (M : Nat) (k p : Int) (n : Bytes) (m : Int) : WfE M (leafE k p n m) := .mk _ (fun _ => depth_noT) (by show depthT noT ≤ M; rw [depth_noT]; omega) (fun c h => by simp [childE, leafE, Ex.kids, Ex.arms] at h)
theorem WfE.kids {M : Nat} (k p : Int) (n : Bytes) {ks : List Ex} (h : ∀ c ∈ ks, WfE M c) : WfE M (kidsE k p n ks) := .mk _ (fun _ => depth_noT) (by show depthT noT ≤ M; rw [depth_noT]; omega) (fun c hc => by simp [childE, kidsE, Ex.kids, Ex.arms] at hc; exact h c hc)
theorem WfE.ann {M : Nat} (p : Int) {e : Ex} {t : Ty} (h : WfE M e) (ht : depthT t ≤ M) : WfE M (annE p e t) := .mk _ (fun hk => absurd rfl hk) ht (fun c hc => by simp [childE, annE, Ex.kids, Ex.arms] at hc; rw [hc]; exact h)
theorem WfE.case {M : Nat} (p : Int) {e : Ex} {ra : List Ar} (h : WfE M e) (ha : ∀ a ∈ ra, WfE M a.body) : WfE M (caseE p e ra) := .mk _ (fun _ => depth_noT) (by show depthT noT ≤ M; rw [depth_noT]; omega) (fun c hc => by
 simp only [childE, caseE, Ex.kids, Ex.arms, List.mem_append, List.mem_singleton, List.mem_map] at hc
 rcases hc with rfl | ⟨a, h1, rfl⟩
 ·exact h
 ·exact ha a h1)
theorem tread_depth (l : List Tok) : ∀ (N : Nat) (q : TQ) (i : Nat) (t : Ty) (j : Nat), tmu l q i < N → tread l q i = .ok (t, j) → match q with
  | .args _ acc => depthT t ≤ max (depthTs acc) (1 + (j - i))
  | _ => depthT t ≤ j - i
 | 0, _, _, _, _, h, _ => by omega
 | N + 1, q, i, t, j, hN, h => by
  have ih := tread_depth l N
  have hpr := fun q i x h => tread_prog l _ q i x (Nat.lt_succ_self _) h
  cases q with
  | atom =>
   rw [tread_atom] at h
   simp only
   split at h
   ·cases h
   ·rename_i tk ht
    have hi := (List.getElem?_eq_some_iff.1 ht).1
    split at h
    ·cases h; simp [nameT, depthT, depthTs]
    ·split at h
     ·cases h; simp [conT, depthT, depthTs]
     ·split at h
      ·split at h
       ·cases h
       ·rename_i y k h1
        have i1 := ih .whole (i + 1) y k (by simp only [tmu, TQ.rank] at *; omega) h1
        split at h
        ·cases h; simp only at *; omega
        ·cases h
      ·cases h
  | args n acc =>
   rw [tread_args] at h
   simp only
   split at h
   ·rename_i hs
    have hi := startsAt_lt hs
    split at h
    ·cases h
    ·rename_i y k h1
     split at h
     ·rename_i hij
      have i0 := ih .atom i y k (by simp only [tmu, TQ.rank] at *; omega) h1
      have i1 := ih (.args n (acc ++ [y])) k t j (by simp only [tmu, TQ.rank] at *; omega) h
      have i2 := hpr _ _ _ h
      simp only [depthTs_app, depthTs] at i0 i1 i2
      omega
     ·cases h
   ·cases h
    have e : depthT (conT n acc) = depthTs acc := depthT_eq _
    rw [e]; omega
  | applied =>
   rw [tread_applied] at h
   simp only
   split at h
   ·rename_i tk ht
    have hi := (List.getElem?_eq_some_iff.1 ht).1
    split at h
    ·have i1 := ih (.args tk.text []) (i + 1) t j (by simp only [tmu, TQ.rank] at *; omega) h
     have i2 := hpr _ _ _ h
     simp only [depthTs] at i1 i2
     by_cases hj : j = i + 1
     ·subst hj
      rw [tread_args] at h
      split at h
      ·split at h
       ·cases h
       ·split at h
        ·have := hpr _ _ _ h; simp only at this; omega
        ·cases h
      ·cases h
       have e : depthT (conT tk.text []) = depthTs [] := depthT_eq _
       rw [e]; simp [depthTs]
     ·omega
    ·exact ih .atom i t j (by simp only [tmu, TQ.rank] at *; omega) h
   ·exact ih .atom i t j (by simp only [tmu, TQ.rank] at *; omega) h
  | whole =>
   rw [tread_whole] at h
   simp only
   split at h
   ·cases h
   ·rename_i a k h1
    have i1 := ih .applied i a k (by simp only [tmu, TQ.rank] at *; omega) h1
    have i2 := hpr _ _ _ h1
    simp only at i1 i2
    split at h
    ·rename_i hm
     have hj := tokAt_lt hm
     split at h
     ·split at h
      ·cases h
      ·rename_i b m h2
       have i3 := ih .whole (k + 1) b m (by simp only [tmu, TQ.rank] at *; omega) h2
       have i4 := hpr _ _ _ h2
       cases h
       have e : depthT (arrowT a b) = depthTs [a, b] := depthT_eq _
       rw [e]
       simp only [depthTs] at *
       omega
     ·cases h
    ·cases h; exact i1
theorem tread_deep {l : List Tok} {q : TQ} {i : Nat} {t : Ty} {j : Nat} (hq : ∀ n acc, q ≠ .args n acc) (h : tread l q i = .ok (t, j)) : depthT t ≤ j - i := by
 have := tread_depth l _ q i t j (Nat.lt_succ_self _) h
 cases q with
 | args n acc => exact absurd rfl (hq n acc)
 | _ => exact this
theorem let_wf {l : List Tok} {f : EQ → Nat → ER} {M : Nat} {k p : Int} {i : Nat} {e : Ex} {j : Nat} (hf : ∀ i e j, f .expr i = .ok (e, j) → WfE M e) (h : letStep l f k p i = .ok (e, j)) : WfE M e := by
 unfold letStep at h
 split at h
 ·cases h
 ·split at h
  ·split at h
   ·cases h
   ·rename_i a k1 h1
    have i1 := hf _ _ _ h1
    split at h
    ·split at h
     ·cases h
     ·rename_i b m h2
      have i2 := hf _ _ _ h2
      cases h
      exact .kids _ _ _ (fun c hc => by
       simp only [List.mem_cons, List.not_mem_nil, or_false] at hc
       rcases hc with rfl | rfl
       ·exact i1
       ·exact i2)
    ·cases h
  ·cases h
def EQ.wf (M : Nat) : EQ → Prop
 | .apps x => WfE M x
 | .arms _ x acc => WfE M x ∧ ∀ a ∈ acc, WfE M a.body
 | _ => True
theorem eread_wf (l : List Tok) : ∀ (N : Nat) (q : EQ) (i : Nat) (e : Ex) (j : Nat), emu l q i < N → q.wf l.length → eread l q i = .ok (e, j) → WfE l.length e
 | 0, _, _, _, _, h, _, _ => by omega
 | N + 1, q, i, e, j, hN, hw, h => by
  have ih := eread_wf l N
  rw [eread_eq] at h
  have hf : ∀ q' i' e' j', q'.wf l.length → ecall l (eread l) q i q' i' = .ok (e', j') → WfE l.length e' := fun q' i' e' j' hi' hc => by
   obtain ⟨h1, h2⟩ := ecall_ok hc
   exact ih q' i' e' j' (by omega) hi' h2
  have one : ∀ {x : Ex}, WfE l.length x → ∀ c ∈ [x], WfE l.length c := fun hx c hc => by rw [List.mem_singleton.1 hc]; exact hx
  cases q with
  | expr =>
   simp only [estep] at h
   split at h
   ·split at h
    ·cases h
    ·split at h
     ·split at h
      ·cases h
      ·rename_i b k h1
       have i1 := hf .expr _ _ _ trivial h1
       cases h; exact .kids _ _ _ (one i1)
     ·cases h
   ·split at h
    ·split at h
     ·exact let_wf (fun i e j hh => hf .expr i e j trivial hh) h
     ·exact let_wf (fun i e j hh => hf .expr i e j trivial hh) h
    ·split at h
     ·split at h
      ·cases h
      ·rename_i e1 j1 h1
       split at h
       ·exact hf (.arms _ _ _) _ _ _ ⟨hf .expr _ _ _ trivial h1, fun a ha => by cases ha⟩ h
       ·cases h
     ·split at h
      ·cases h
      ·rename_i e1 j1 h1
       exact hf (.apps _) _ _ _ (hf .atom _ _ _ trivial h1) h
  | apps x =>
   simp only [estep] at h
   split at h
   ·split at h
    ·cases h
    ·rename_i a j1 h1
     have i1 := hf .atom _ _ _ trivial h1
     exact hf (.apps _) _ _ _ (.kids _ _ _ (fun c hc => by
      simp only [List.mem_cons, List.not_mem_nil, or_false] at hc
      rcases hc with rfl | rfl
      ·exact hw
      ·exact i1)) h
   ·cases h; exact hw
  | arms p x acc =>
   simp only [estep] at h
   split at h
   ·cases h
   ·split at h
    ·split at h
     ·cases h
     ·rename_i b m h1
      have i1 := hf .expr _ _ _ trivial h1
      have hacc : ∀ cn, ∀ a ∈ acc ++ [Ar.mk (posOf l i) cn (lowers (l.drop (i + 1))) b], WfE l.length a.body := fun cn a ha => by
       rcases List.mem_append.1 ha with h | h
       ·exact hw.2 a h
       ·rw [List.mem_singleton.1 h]; exact i1
      split at h
      ·exact hf (.arms _ _ _) _ _ _ ⟨hw.1, hacc _⟩ h
      ·split at h
       ·cases h
        exact .case _ hw.1 (hacc _)
       ·cases h
    ·cases h
  | atom =>
   simp only [estep] at h
   split at h
   ·cases h
   ·rename_i t ht
    split at h
    ·cases h; exact .leaf _ _ _ _ _
    ·split at h
     ·cases h; exact .leaf _ _ _ _ _
     ·split at h
      ·cases h; exact .leaf _ _ _ _ _
      ·split at h
       ·cases h; exact .leaf _ _ _ _ _
       ·split at h
        ·split at h
         ·cases h
         ·rename_i x1 j1 h1
          split at h
          ·cases h; exact .kids _ _ _ (one (hf .expr _ _ _ trivial h1))
          ·cases h
        ·split at h
         ·split at h
          ·cases h
          ·rename_i x1 j1 h1
           have i1 := hf .expr _ _ _ trivial h1
           split at h
           ·split at h
            ·cases h
            ·rename_i y k h2
             have i2 := tread_deep (fun n acc => by simp) h2
             split at h
             ·rename_i hm
              have := tokAt_lt hm
              cases h; exact .ann _ i1 (by omega)
             ·cases h
           ·split at h
            ·cases h; exact i1
            ·cases h
         ·cases h
theorem expr_wf {l : List Tok} {i : Nat} {e : Ex} {j : Nat} (h : eread l .expr i = .ok (e, j)) : WfE l.length e := eread_wf l _ .expr i e j (Nat.lt_succ_self _) trivial h
end Go.Th
-- sum 568b4bdd12b5c61d

/- The walk of the reference's scanner. -/
namespace Go.Proofs.YtpjehhnaojjanaaGreatDoor
open Go Go.Eng Go.Th Go.Proofs
set_option maxRecDepth 10000
set_option maxHeartbeats 4000000
attribute [local irreducible] wpList Code.wp Run bodyPost Go.Eng.Ends Exit.then Exit.inBlock Again Wq Kq
def ScanPost (T : TypeId) (s : Bytes) (g : Ghost) (v : Value) (g' : Ghost) (own' : List Res) : Prop := g' = g ∧ match scan s with
 | .ok l => ∃ sv, v = .tuple #[sv, .agg #[.int .i64 0, .int .i64 0]] ∧ own' = [.row T 3 sv l.length (l.flatMap tokCells)]
 | .bad e p => v = .tuple #[.slice none 0 0, .agg #[.int .i64 e, .int .i64 p]] ∧ own' = []

end Go.Proofs.YtpjehhnaojjanaaGreatDoor
-- sum 635a04ba1113148b

/- The walks of typedholesref7.Parse at a text of declarations, and of typedholesmake.all. -/
namespace Go.Th
end Go.Th
namespace Go.Proofs.YtpjehhnaojjanaaGreatDoor
open Go Go.Eng Go.Th Go.Proofs
set_option maxRecDepth 10000
set_option maxHeartbeats 4000000
attribute [local irreducible] wpList Code.wp Run bodyPost Go.Eng.Ends Exit.then Exit.inBlock Again Wq Kq
theorem das_snoc {g : Ghost} {l : List Da} {xs cs : List Value} {d : Da} (h : AllAt (DaAt g) l xs) (h1 : DaAt g d cs) : AllAt (DaAt g) (l ++ [d]) (xs ++ cs) := AllAt.snoc h1 h
end Go.Proofs.YtpjehhnaojjanaaGreatDoor
-- sum fa098664796f3794

/- The walks of typedholesmake: Datas, Next, Named, Few. -/
namespace Go.Eng
open Go Go.RowKit
section
variable {P : Program} {E : Env} {n : Nat} {L : Slots} {g : Ghost} {own : List Res}
variable {d : Nat} {ty : TypeId} {pos : String} {after : Array Edge}
end
end Go.Eng
namespace Go.Proofs.YtpjehhnaojjanaaGreatDoor
open Go Go.Eng Go.Th Go.Proofs
set_option maxRecDepth 10000
set_option maxHeartbeats 4000000
attribute [local irreducible] wpList Code.wp Run bodyPost Go.Eng.Ends Exit.then Exit.inBlock Again Wq Kq
end Go.Proofs.YtpjehhnaojjanaaGreatDoor
-- sum 69c423330e9f0c25

/- The walk of typedholesmake's Tape.Type: it makes types that can be written, with short texts. -/
namespace Go.Th
def gdD (d : Da) : Prop := kindOf d.name = 2 ∧ d.name.length ≤ 6 ∧ d.params.length ≤ 2
end Go.Th
namespace Go.Proofs.YtpjehhnaojjanaaGreatDoor
open Go Go.Eng Go.Th Go.Proofs
set_option maxRecDepth 10000
set_option maxHeartbeats 4000000
attribute [local irreducible] wpList Code.wp Run bodyPost Go.Eng.Ends Exit.then Exit.inBlock Again Wq Kq
structure TpE (g : Ghost) (codes : List Int) (lv : Value) (ds : List Da) (dv : Value) (lf : List Ty) (fv : Value) : Prop where
 c : SlAt g 1 lv codes.length (codes.map (Value.int .i64))
 hc : codes.length ≤ 1000000
 d : ∃ xd, SlAt g 4 dv ds.length xd ∧ AllAt (DaAt g) ds xd
 dn : ds.length ≤ 8
 dg : ∀ d ∈ ds, gdD d
 f : ∃ xl, SlAt g 5 fv lf.length xl ∧ TysAt g lf xl
 fn : lf.length ≤ 8
 fg : ∀ t ∈ lf, GoodT t ∧ (showT t).length ≤ 3
theorem TpE.mono {g g' : Ghost} (hle : Ghost.le g g') {codes : List Int} {lv : Value} {ds : List Da} {dv : Value} {lf : List Ty} {fv : Value} (h : TpE g codes lv ds dv lf fv) : TpE g' codes lv ds dv lf fv := by
 obtain ⟨h1, h2, ⟨xd, h3, h4⟩, h5, h6, ⟨xl, h7, h8⟩, h9, h10⟩ := h
 exact ⟨h1.mono hle, h2, ⟨xd, h3.mono hle, das_mono hle h4⟩, h5, h6, ⟨xl, h7.mono hle, h8.mono hle⟩, h9, h10⟩
end Go.Proofs.YtpjehhnaojjanaaGreatDoor
-- sum 554db53a12536a91

/- Texts of types: the walks of typedholesref3.IsArrow and of typedholesref8.Type and argument; small walks of typedholesmake. -/
namespace Go.Th
end Go.Th
namespace Go.Proofs.YtpjehhnaojjanaaGreatDoor
open Go Go.Eng Go.Th Go.Proofs
set_option maxRecDepth 10000
set_option maxHeartbeats 4000000
attribute [local irreducible] wpList Code.wp Run bodyPost Go.Eng.Ends Exit.then Exit.inBlock Again Wq Kq
end Go.Proofs.YtpjehhnaojjanaaGreatDoor
-- sum 033f8d2f3b7c42b5

/- Small walks for expressions: Tape.Variable, the reference's Number; facts about the declarations that programs are made of. -/
namespace Go.Th
def gcC (c : Cn) : Prop := kindOf c.name = 2 ∧ c.name.length ≤ 5 ∧ c.fields.length ≤ 2
def gcD (d : Da) : Prop := 1 ≤ d.cons.length ∧ d.cons.length ≤ 2 ∧ ∀ c ∈ d.cons, gcC c
end Go.Th
namespace Go.Proofs.YtpjehhnaojjanaaGreatDoor
open Go Go.Eng Go.Th Go.Proofs
set_option maxRecDepth 10000
set_option maxHeartbeats 4000000
attribute [local irreducible] wpList Code.wp Run bodyPost Go.Eng.Ends Exit.then Exit.inBlock Again Wq Kq
def digitList : Bytes := [48, 49, 50, 51, 52, 53, 54, 55, 56, 57]
theorem digitList_at {d : Nat} (h : d < 10) : (digitList.take (d + 1)).drop d = [UInt8.ofNat (48 + d)] := by
 have : ∀ d : Fin 10, (digitList.take (d.val + 1)).drop d.val = [UInt8.ofNat (48 + d.val)] := by decide
 exact this ⟨d, h⟩
theorem dec_small {u : Nat} (h : u < 10) : Lib.decDigits u = [UInt8.ofNat (48 + u)] := by rw [Lib.decDigits, dif_pos h]
theorem dec_big {u : Nat} (h : ¬ u < 10) : Lib.decDigits u = Lib.decDigits (u / 10) ++ [UInt8.ofNat (48 + u % 10)] := by rw [Lib.decDigits, dif_neg h]
theorem rNumber_spec (g : Ghost) (n : Int) (hn : -9223372036854775808 ≤ n ∧ n ≤ 9223372036854775807) (hD : (Lib.decDigits n.natAbs).length ≤ 100) : Pure Tryz.prog 59 [.int .i64 n] g (str (Lib.itoa n)) := by
 refine spec_of_run Tryz.func59 rfl Tryz.ntmps59 rfl fun E hE => ?_
 refine r_sr <| r_ev rfl rfl <| r_nn <| r_seq <| r_sr <| r_ev rfl rfl <| r_ev rfl rfl <| r_nn ?_
 refine r_cond rfl (fun h0 => ?_) (fun h0 => ?_)
 ·subst h0
  refine r_sr <| r_ev rfl rfl <| r_nn <| r_retc <| r_then_ret ?_
  exact r_ret1 [] rfl rfl (by simp) ⟨by
   have : Lib.itoa 0 = [48] := by unfold Lib.itoa; rw [if_neg (by omega)]; exact dec_small (by decide)
   rw [this], rfl, rfl⟩
 ·refine r_skip <| r_then_normal <| r_sr <| r_ev rfl rfl <| r_nn <| r_seq <| r_sr <| r_ev rfl rfl <| r_ev rfl rfl <| r_nn <| r_block ?_
  refine r_loop (ι := Int × Bytes) (fun p => [(0, .int .i64 n), (3, str p.2), (4, .int .i64 p.1)]) (fun _ => g) (fun _ => []) (fun p => p.1.natAbs ≤ n.natAbs ∧ (p.1 ≠ 0 → Lib.decDigits n.natAbs = Lib.decDigits p.1.natAbs ++ p.2) ∧ (p.1 = 0 → Lib.decDigits n.natAbs = p.2)) (fun p => p.1.natAbs) (n, []) ⟨Nat.le_refl _, fun _ => by simp, fun h => absurd h h0⟩ ⟨rfl, rfl, rfl, trivial⟩ rfl rfl ?_
  rintro ⟨k, s⟩ ⟨hk, h1, h2⟩
  simp only at hk h1 h2
  show Run E _ [(0, .int .i64 n), (3, str s), (4, .int .i64 k)] g [] _
  refine r_seq <| r_sr <| r_ev rfl rfl <| r_ev rfl rfl <| r_nn ?_
  refine r_cond rfl (fun hk0 => ?_) (fun hk0 => ?_)
  ·have hd := h1 hk0
   have hsl : s.length ≤ 100 := by have := congrArg List.length hd; rw [List.length_append] at this; omega
   have hm := Int.natAbs_tmod k 10
   have hq := Int.natAbs_tdiv k 10
   have hm' : (k.tmod 10).natAbs = k.natAbs % 10 := hm
   have hq' : (k.tdiv 10).natAbs = k.natAbs / 10 := hq
   obtain ⟨d, hdd⟩ : ∃ d : Nat, d = k.natAbs % 10 := ⟨_, rfl⟩
   have hd10 : d < 10 := by omega
   have hnext : (k.tdiv 10 ≠ 0 → Lib.decDigits n.natAbs = Lib.decDigits (k.tdiv 10).natAbs ++ ([UInt8.ofNat (48 + d)] ++ s)) ∧ (k.tdiv 10 = 0 → Lib.decDigits n.natAbs = [UInt8.ofNat (48 + d)] ++ s) := by
    constructor
    ·intro h
     rw [hd, dec_big (by omega), hq', ← hdd, List.append_assoc]
    ·intro h
     rw [hd, dec_small (by omega), show k.natAbs = d by omega]
   refine r_skip <| r_then_normal <| r_seq <| r_block <| r_sr <| r_ev rfl rfl ?_
   refine r_rem rfl rfl rfl (by omega) ?_
   refine r_ev rfl rfl <| r_nn <| r_seq <| r_sr <| r_ev rfl rfl <| r_ev rfl rfl <| r_nn ?_
   refine r_cond rfl (fun hdn => ?_) (fun hdn => ?_)
   ·refine r_region <| r_ev rfl rfl ?_
    refine r_neg rfl rfl (by omega) ?_
    refine r_ev rfl rfl <| r_nn <| r_region <| r_ev rfl rfl <| r_ev rfl rfl ?_
    refine r_add rfl rfl rfl (by omega) ?_
    refine r_slice_str (l := digitList) (p := d) (q := d + 1) rfl rfl ⟨_, _, rfl, by omega⟩ ⟨_, _, rfl, by omega⟩ (by omega) (show d + 1 ≤ 10 by omega) ?_
    rw [digitList_at hd10]
    refine r_ev rfl rfl ?_
    refine r_add_str rfl rfl rfl (by simp; omega) ?_
    refine r_ev rfl rfl <| r_nil <| r_in_normal <| r_then_normal <| r_region <| r_ev rfl rfl ?_
    refine r_quo rfl rfl rfl (by omega) (by omega) ?_
    refine r_ev rfl rfl <| r_nn ?_
    exact r_again (k.tdiv 10, [UInt8.ofNat (48 + d)] ++ s) ⟨by simp only; omega, hnext.1, hnext.2⟩ (by simp only; omega) ⟨rfl, rfl, rfl, trivial⟩ rfl rfl
   ·refine r_skip <| r_then_normal <| r_region <| r_ev rfl rfl <| r_ev rfl rfl ?_
    refine r_add rfl rfl rfl (by omega) ?_
    refine r_slice_str (l := digitList) (p := d) (q := d + 1) rfl rfl ⟨_, _, rfl, by omega⟩ ⟨_, _, rfl, by omega⟩ (by omega) (show d + 1 ≤ 10 by omega) ?_
    rw [digitList_at hd10]
    refine r_ev rfl rfl ?_
    refine r_add_str rfl rfl rfl (by simp; omega) ?_
    refine r_ev rfl rfl <| r_nil <| r_in_normal <| r_then_normal <| r_region <| r_ev rfl rfl ?_
    refine r_quo rfl rfl rfl (by omega) (by omega) ?_
    refine r_ev rfl rfl <| r_nn ?_
    exact r_again (k.tdiv 10, [UInt8.ofNat (48 + d)] ++ s) ⟨by simp only; omega, hnext.1, hnext.2⟩ (by simp only; omega) ⟨rfl, rfl, rfl, trivial⟩ rfl rfl
  ·have hk1 : k = 0 := by omega
   have hd := h2 hk1
   have hsl : s.length ≤ 100 := by rw [← hd]; exact hD
   refine r_exit <| r_then_exit <| r_then_exit <| r_in_exit <| r_then_normal <| r_seq <| r_sr <| r_ev rfl rfl <| r_ev rfl rfl <| r_nn ?_
   refine r_cond rfl (fun hneg => ?_) (fun hneg => ?_)
   ·refine r_region <| r_ev rfl rfl ?_
    refine r_add_str rfl rfl rfl (by simp; omega) ?_
    refine r_ev rfl rfl <| r_nn <| r_sr <| r_ev rfl rfl <| r_ev rfl rfl <| r_nn <| r_retc ?_
    exact r_ret1 [] rfl rfl (by simp) ⟨by rw [Lib.itoa, if_pos hneg, hd]; rfl, rfl, rfl⟩
   ·refine r_skip <| r_then_normal <| r_sr <| r_ev rfl rfl <| r_ev rfl rfl <| r_nn <| r_retc ?_
    exact r_ret1 [] rfl rfl (by simp) ⟨by rw [Lib.itoa, if_neg hneg, ← hd, show n.natAbs = n.toNat by omega], rfl, rfl⟩
end Go.Proofs.YtpjehhnaojjanaaGreatDoor
-- sum 46d5015d70a94a29


/- Runs of steps, each step a letter; words for frequent proofs. Printed by pack.py. -/
import Derived.Test.YtlnjfkfojkgiiaaGreatDoorK4
namespace Go.aZ
open Go Go.RowKit
set_option maxRecDepth 100000
theorem aC {p : Prop} (h : p := by repeat' (first | exact rfl | assumption | refine all_cons ?_ ?_)) : p := h
theorem mL {p : Prop} (h : p := by unfold maxLen; omega) : p := h
theorem sZ {α : Type} {l : List α} : List.Sublist [] l := List.nil_sublist _
theorem sR {α : Type} {l : List α} : List.Sublist l l := List.Sublist.refl _
theorem sA {α : Type} {a0 : α} {l : List α} : List.Sublist l (a0 :: l) := .cons _ (List.Sublist.refl _)
theorem sB {α : Type} {a0 a1 : α} {l : List α} : List.Sublist l (a0 :: a1 :: l) := .cons _ (.cons _ (List.Sublist.refl _))
theorem sC {α : Type} {a0 a1 a2 : α} {l : List α} : List.Sublist l (a0 :: a1 :: a2 :: l) := .cons _ (.cons _ (.cons _ (List.Sublist.refl _)))
theorem sD {α : Type} {a0 a1 a2 a3 : α} {l : List α} : List.Sublist l (a0 :: a1 :: a2 :: a3 :: l) := .cons _ (.cons _ (.cons _ (.cons _ (List.Sublist.refl _))))
theorem sE {α : Type} {a0 a1 a2 a3 a4 : α} {l : List α} : List.Sublist l (a0 :: a1 :: a2 :: a3 :: a4 :: l) := .cons _ (.cons _ (.cons _ (.cons _ (.cons _ (List.Sublist.refl _)))))
theorem sF {α : Type} {a0 a1 a2 a3 a4 a5 : α} {l : List α} : List.Sublist l (a0 :: a1 :: a2 :: a3 :: a4 :: a5 :: l) := .cons _ (.cons _ (.cons _ (.cons _ (.cons _ (.cons _ (List.Sublist.refl _))))))
inductive W where
 | z0
 | a (w : W)
 | b (w : W)
 | c (w : W)
 | d (w : W)
 | e (w : W)
 | f (w : W)
 | g (w : W)
 | h (w : W)
 | i (w : W)
 | j (w : W)
 | k (w : W)
 | l (w : W)
 | m (w : W)
 | n (w : W)
 | o (w : W)
 | p (w : W)
 | q (w : W)
 | r (w : W)
 | s (w : W)
 | t (w : W)
 | u (w : W)
 | v (w : W)
 | x (w : W)
 | y (w : W)
 | A (w : W)
 | B (w : W)
 | C (w : W)
 | D (w : W)
 | E (w : W)
 | F (w : W)
 | G (w : W)
 | H (w : W)
 | I (w : W)
 | J (w : W)
 | K (w : W)
 | L (w : W)
 | M (w : W)
 | N (w : W)
 | O (w : W)
 | P (w : W)
 | Q (w : W)
 | R (w : W)
 | S (w : W)
 | T (w : W)
 | U (w : W)
 | V (w : W)
 | X (w : W)
 | Y (w : W)
 | Z (w : W)
 | Aa (w : W)
 | Ab (w : W)
 | Ac (w : W)
 | Ad (w : W)
 | Ae (w : W)
 | Af (w : W)
 | Ag (w : W)
 | Ah (w : W)
 | Ai (w : W)
 | Aj (w : W)
 | Ak (w : W)
 | Al (w : W)
 | Am (w : W)
 | An (w : W)
 | Ao (w : W)
 | Ap (w : W)
 | Aq (w : W)
 | Ar (w : W)
 | As (w : W)
 | At (w : W)
 | Au (w : W)
 | Av (w : W)
 | Aw (w : W)
 | Ax (w : W)
 | Ay (w : W)
 | Az (w : W)
 | AA (w : W)
 | AB (w : W)
 | AC (w : W)
 | AD (w : W)
 | AE (w : W)
 | AF (w : W)
 | AG (w : W)
 | AH (w : W)
 | AI (w : W)
 | AJ (w : W)
 | AK (w : W)
 | AL (w : W)
 | AM (w : W)
 | AN (w : W)
 | AO (w : W)
 | AP (w : W)
 | AQ (w : W)
 | AR (w : W)
 | AS (w : W)
 | AT (w : W)
 | AU (w : W)
 | AV (w : W)
 | AW (w : W)
 | AX (w : W)
 | AY (w : W)
 | AZ (w : W)
 | Ba (w : W)
 | Bb (w : W)
 | Bc (w : W)
 | Bd (w : W)
 | Be (w : W)
 | Bf (w : W)
 | Bg (w : W)
 | Bh (w : W)
 | Bi (w : W)
 | Bj (w : W)
 | Bk (w : W)
 | Bl (w : W)
 | Bm (w : W)
 | Bn (w : W)
 | Bo (w : W)
 | Bp (w : W)
 | Bq (w : W)
 | Br (w : W)
 | Bs (w : W)
 | Bt (w : W)
 | Bu (w : W)
 | Bv (w : W)
 | Bw (w : W)
 | Bx (w : W)
 | By (w : W)
 | Bz (w : W)
 | BA (w : W)
 | BB (w : W)
 | BC (w : W)
 | BD (w : W)
 | BE (w : W)
 | BF (w : W)
 | BG (w : W)
 | BH (w : W)
 | BI (w : W)
 | BJ (w : W)
 | BK (w : W)
 | BL (w : W)
 | BM (w : W)
 | BN (w : W)
 | BO (w : W)
 | BP (w : W)
 | BQ (w : W)
 | BR (w : W)
 | BS (w : W)
 | BT (w : W)
 | BU (w : W)
 | BV (w : W)
 | BW (w : W)
 | BX (w : W)
 | BY (w : W)
 | BZ (w : W)
 | Ca (w : W)
 | Cb (w : W)
 | Cc (w : W)
 | Cd (w : W)
 | Ce (w : W)
 | Cf (w : W)
 | Cg (w : W)
 | Ch (w : W)
 | Ci (w : W)
 | Cj (w : W)
 | Ck (w : W)
 | Cl (w : W)
 | Cm (w : W)
 | Cn (w : W)
 | Co (w : W)
 | Cp (w : W)
 | Cq (w : W)
 | Cr (w : W)
 | Cs (w : W)
 | Ct (w : W)
 | Cu (w : W)
 | Cv (w : W)
 | Cw (w : W)
 | Cx (w : W)
 | Cy (w : W)
 | Cz (w : W)
 | CA (w : W)
 | CB (w : W)
 | CC (w : W)
 | CD (w : W)
 | CE (w : W)
 | CF (w : W)
 | CG (w : W)
 | CH (w : W)
 | CI (w : W)
 | CJ (w : W)
 | CK (w : W)
 | CL (w : W)
 | CM (w : W)
 | CN (w : W)
 | CO (w : W)
 | CP (w : W)
 | CQ (w : W)
 | CR (w : W)
 | CS (w : W)
 | CT (w : W)
 | CU (w : W)
 | CV (w : W)
 | CW (w : W)
 | CX (w : W)
 | CY (w : W)
 | CZ (w : W)
 | Da (w : W)
 | Db (w : W)
 | Dc (w : W)
 | Dd (w : W)
 | De (w : W)
 | Df (w : W)
 | Dg (w : W)
 | Dh (w : W)
 | Di (w : W)
 | Dj (w : W)
 | Dk (w : W)
 | Dl (w : W)
 | Dm (w : W)
 | Dn (w : W)
 | Do (w : W)
 | Dp (w : W)
 | Dq (w : W)
 | Dr (w : W)
abbrev wz : W := .z0
structure Lw (w : W) : Prop where
structure Kw (Q : Prop) : Prop where
 p : Q
theorem nx (c : W → W) {w : W} (_ : Lw (c w)) : Lw w := ⟨⟩
theorem fin {Q : Prop} (_ : Lw .z0) (k : Kw Q) : Q := k.p
theorem W.z {Q P : Prop} (w : W) (k : Q) (h : Lw w → Kw Q → P := by intro l k; (repeat (first | (guard_hyp l : Lw (W.a _); replace l := nx W.a l; refine IA rfl rfl ?_) | (guard_hyp l : Lw (W.b _); replace l := nx W.b l; refine iV ?_) | (guard_hyp l : Lw (W.c _); replace l := nx W.c l; refine aS ?_) | (guard_hyp l : Lw (W.d _); replace l := nx W.d l; refine Ez ?_) | (guard_hyp l : Lw (W.e _); replace l := nx W.e l; refine kM ?_) | (guard_hyp l : Lw (W.f _); replace l := nx W.f l; refine aC9 hG ?_) | (guard_hyp l : Lw (W.g _); replace l := nx W.g l; refine Nr rfl rfl ?_) | (guard_hyp l : Lw (W.h _); replace l := nx W.h l; refine M8 rfl rfl rfl ?_) | (guard_hyp l : Lw (W.i _); replace l := nx W.i l; refine Ey ?_) | (guard_hyp l : Lw (W.j _); replace l := nx W.j l; refine Jt ?_) | (guard_hyp l : Lw (W.k _); replace l := nx W.k l; refine Gm rfl ?_) | (guard_hyp l : Lw (W.l _); replace l := nx W.l l; refine Jw ?_) | (guard_hyp l : Lw (W.m _); replace l := nx W.m l; refine Jx ?_) | (guard_hyp l : Lw (W.n _); replace l := nx W.n l; refine M_ rfl rfl rfl ?_) | (guard_hyp l : Lw (W.o _); replace l := nx W.o l; refine EC rfl ?_) | (guard_hyp l : Lw (W.p _); replace l := nx W.p l; refine Jv ?_) | (guard_hyp l : Lw (W.q _); replace l := nx W.q l; refine kE 0 rfl rfl rfl rfl rL aC rfl ?_) | (guard_hyp l : Lw (W.r _); replace l := nx W.r l; refine Ev ?_) | (guard_hyp l : Lw (W.s _); replace l := nx W.s l; refine IB rfl rfl ?_) | (guard_hyp l : Lw (W.t _); replace l := nx W.t l; refine EB rfl ?_) | (guard_hyp l : Lw (W.u _); replace l := nx W.u l; refine Qp rfl rfl rfl ?_) | (guard_hyp l : Lw (W.v _); replace l := nx W.v l; refine pE 0 rfl rfl rfl rfl ?_) | (guard_hyp l : Lw (W.x _); replace l := nx W.x l; refine Jz ?_) | (guard_hyp l : Lw (W.y _); replace l := nx W.y l; refine Jy ?_) | (guard_hyp l : Lw (W.A _); replace l := nx W.A l; refine Nh rfl rfl ?_) | (guard_hyp l : Lw (W.B _); replace l := nx W.B l; refine kE 1 rfl rfl rfl rfl rL aC rfl ?_) | (guard_hyp l : Lw (W.C _); replace l := nx W.C l; refine Ju ?_) | (guard_hyp l : Lw (W.D _); replace l := nx W.D l; refine JA ?_) | (guard_hyp l : Lw (W.E _); replace l := nx W.E l; refine WM rfl rfl rfl oM ?_) | (guard_hyp l : Lw (W.F _); replace l := nx W.F l; refine aC1 kR ?_) | (guard_hyp l : Lw (W.G _); replace l := nx W.G l; refine oI 0 rfl rfl rfl rL ?_) | (guard_hyp l : Lw (W.H _); replace l := nx W.H l; refine Gn rfl ?_) | (guard_hyp l : Lw (W.I _); replace l := nx W.I l; refine pE 1 rfl rfl rfl rfl ?_) | (guard_hyp l : Lw (W.J _); replace l := nx W.J l; refine bR rfl (aI rfl) ?_) | (guard_hyp l : Lw (W.K _); replace l := nx W.K l; refine Qw rfl rfl rL ?_) | (guard_hyp l : Lw (W.L _); replace l := nx W.L l; refine Qo rfl rfl rfl ?_) | (guard_hyp l : Lw (W.M _); replace l := nx W.M l; refine gV rfl rfl rfl rfl oM ?_) | (guard_hyp l : Lw (W.N _); replace l := nx W.N l; refine Ew ?_) | (guard_hyp l : Lw (W.O _); replace l := nx W.O l; refine oI 1 rfl rfl rfl rL ?_) | (guard_hyp l : Lw (W.P _); replace l := nx W.P l; refine bn 0 rfl kR rfl hG ?_) | (guard_hyp l : Lw (W.Q _); replace l := nx W.Q l; refine bR rfl (a7 0 rfl rfl rfl) ?_) | (guard_hyp l : Lw (W.R _); replace l := nx W.R l; refine bn 1 rfl kR rfl hG ?_) | (guard_hyp l : Lw (W.S _); replace l := nx W.S l; refine bn 2 rfl kR rfl hG ?_) | (guard_hyp l : Lw (W.T _); replace l := nx W.T l; refine M9 ?_) | (guard_hyp l : Lw (W.U _); replace l := nx W.U l; refine JB rfl ?_) | (guard_hyp l : Lw (W.V _); replace l := nx W.V l; refine kE 2 rfl rfl rfl rfl rL aC rfl ?_) | (guard_hyp l : Lw (W.X _); replace l := nx W.X l; refine bn 3 rfl kR rfl hG ?_) | (guard_hyp l : Lw (W.Y _); replace l := nx W.Y l; refine oI 3 rfl rfl rfl rL ?_) | (guard_hyp l : Lw (W.Z _); replace l := nx W.Z l; refine bn 4 rfl kR rfl hG ?_) | (guard_hyp l : Lw (W.Aa _); replace l := nx W.Aa l; refine bn 7 rfl kR rfl hG ?_) | (guard_hyp l : Lw (W.Ab _); replace l := nx W.Ab l; refine WG mixed kR ?_) | (guard_hyp l : Lw (W.Ac _); replace l := nx W.Ac l; refine mJ 0 rfl rfl rfl rfl rfl rfl ?_) | (guard_hyp l : Lw (W.Ad _); replace l := nx W.Ad l; refine bn 5 rfl kR rfl hG ?_) | (guard_hyp l : Lw (W.Ae _); replace l := nx W.Ae l; refine gL 8 kR rfl ?_) | (guard_hyp l : Lw (W.Af _); replace l := nx W.Af l; refine oI 2 rfl rfl rfl rL ?_) | (guard_hyp l : Lw (W.Ag _); replace l := nx W.Ag l; refine pE 2 rfl rfl rfl rfl ?_) | (guard_hyp l : Lw (W.Ah _); replace l := nx W.Ah l; refine mJ 1 rfl rfl rfl rfl rfl rfl ?_) | (guard_hyp l : Lw (W.Ai _); replace l := nx W.Ai l; refine gL 9 kR rfl ?_) | (guard_hyp l : Lw (W.Aj _); replace l := nx W.Aj l; refine bR rfl (bU rfl rfl rfl oM) ?_) | (guard_hyp l : Lw (W.Ak _); replace l := nx W.Ak l; refine bn 6 rfl kR rfl hG ?_) | (guard_hyp l : Lw (W.Al _); replace l := nx W.Al l; refine bn 10 rfl kR rfl hG ?_) | (guard_hyp l : Lw (W.Am _); replace l := nx W.Am l; refine aDI kR ?_) | (guard_hyp l : Lw (W.An _); replace l := nx W.An l; refine eY rfl rfl (hr _) rfl ?_) | (guard_hyp l : Lw (W.Ao _); replace l := nx W.Ao l; refine gL 6 kR rfl ?_) | (guard_hyp l : Lw (W.Ap _); replace l := nx W.Ap l; refine jw rfl ⟨_, (ag rfl), ?_⟩) | (guard_hyp l : Lw (W.Aq _); replace l := nx W.Aq l; refine gL 5 kR rfl ?_) | (guard_hyp l : Lw (W.Ar _); replace l := nx W.Ar l; refine di 0 rfl kR rfl hG ?_) | (guard_hyp l : Lw (W.As _); replace l := nx W.As l; refine bn 11 rfl kR rfl hG ?_) | (guard_hyp l : Lw (W.At _); replace l := nx W.At l; refine gL 15 kR rfl ?_) | (guard_hyp l : Lw (W.Au _); replace l := nx W.Au l; refine kE 3 rfl rfl rfl rfl rL aC rfl ?_) | (guard_hyp l : Lw (W.Av _); replace l := nx W.Av l; refine bn 9 rfl kR rfl hG ?_) | (guard_hyp l : Lw (W.Aw _); replace l := nx W.Aw l; refine gL 3 kR rfl ?_) | (guard_hyp l : Lw (W.Ax _); replace l := nx W.Ax l; refine di 1 rfl kR rfl hG ?_) | (guard_hyp l : Lw (W.Ay _); replace l := nx W.Ay l; refine di 2 rfl kR rfl hG ?_) | (guard_hyp l : Lw (W.Az _); replace l := nx W.Az l; refine bn 12 rfl kR rfl hG ?_) | (guard_hyp l : Lw (W.AA _); replace l := nx W.AA l; refine Ni rfl rfl rfl nM ?_) | (guard_hyp l : Lw (W.AB _); replace l := nx W.AB l; refine bn 16 rfl kR rfl hG ?_) | (guard_hyp l : Lw (W.AC _); replace l := nx W.AC l; refine yx 1 rfl ?_) | (guard_hyp l : Lw (W.AD _); replace l := nx W.AD l; refine fW 41 5 ?_) | (guard_hyp l : Lw (W.AE _); replace l := nx W.AE l; refine WN rfl rfl rfl oM ?_) | (guard_hyp l : Lw (W.AF _); replace l := nx W.AF l; refine Qs rfl rfl ?_) | (guard_hyp l : Lw (W.AG _); replace l := nx W.AG l; refine gL 17 kR rfl ?_) | (guard_hyp l : Lw (W.AH _); replace l := nx W.AH l; refine gL 4 kR rfl ?_) | (guard_hyp l : Lw (W.AI _); replace l := nx W.AI l; refine Ng rfl rfl ?_) | (guard_hyp l : Lw (W.AJ _); replace l := nx W.AJ l; refine gL 13 kR rfl ?_) | (guard_hyp l : Lw (W.AK _); replace l := nx W.AK l; refine jw rfl ⟨_, (aI rfl), ?_⟩) | (guard_hyp l : Lw (W.AL _); replace l := nx W.AL l; refine gL 2 kR rfl ?_) | (guard_hyp l : Lw (W.AM _); replace l := nx W.AM l; refine gL 7 kR rfl ?_) | (guard_hyp l : Lw (W.AN _); replace l := nx W.AN l; refine pE 3 rfl rfl rfl rfl ?_) | (guard_hyp l : Lw (W.AO _); replace l := nx W.AO l; refine gL 14 kR rfl ?_) | (guard_hyp l : Lw (W.AP _); replace l := nx W.AP l; refine ko (List.Perm.swap _ _ _) ?_) | (guard_hyp l : Lw (W.AQ _); replace l := nx W.AQ l; refine bR rfl (B0 rfl rfl nM) ?_) | (guard_hyp l : Lw (W.AR _); replace l := nx W.AR l; refine Ni rfl rfl rfl fM ?_) | (guard_hyp l : Lw (W.AS _); replace l := nx W.AS l; refine di 3 rfl kR rfl hG ?_) | (guard_hyp l : Lw (W.AT _); replace l := nx W.AT l; refine di 4 rfl kR rfl hG ?_) | (guard_hyp l : Lw (W.AU _); replace l := nx W.AU l; refine aBQ rfl rfl (by assumption) ?_) | (guard_hyp l : Lw (W.AV _); replace l := nx W.AV l; refine bn 8 rfl kR rfl hG ?_) | (guard_hyp l : Lw (W.AW _); replace l := nx W.AW l; refine gL 10 kR rfl ?_) | (guard_hyp l : Lw (W.AX _); replace l := nx W.AX l; refine Ny ?_) | (guard_hyp l : Lw (W.AY _); replace l := nx W.AY l; refine Qr rfl rfl ?_) | (guard_hyp l : Lw (W.AZ _); replace l := nx W.AZ l; refine Nj rfl rfl ?_) | (guard_hyp l : Lw (W.Ba _); replace l := nx W.Ba l; refine Nk rfl rfl ?_) | (guard_hyp l : Lw (W.Bb _); replace l := nx W.Bb l; refine fF (own' := [_, _, _, _]) sA ?_) | (guard_hyp l : Lw (W.Bc _); replace l := nx W.Bc l; refine cB [_] rfl (ay 1 rfl rfl rL) (.tmp rfl) sB ⟨_, rfl, ?_⟩) | (guard_hyp l : Lw (W.Bd _); replace l := nx W.Bd l; refine gL 12 kR rfl ?_) | (guard_hyp l : Lw (W.Be _); replace l := nx W.Be l; refine di 5 rfl kR rfl hG ?_) | (guard_hyp l : Lw (W.Bf _); replace l := nx W.Bf l; refine gL 11 kR rfl ?_) | (guard_hyp l : Lw (W.Bg _); replace l := nx W.Bg l; refine fF (own' := [_, _, _, _]) (.cons_cons _ (.cons_cons _ (.cons_cons _ (.cons _ (.cons _ (.cons_cons _ sZ)))))) ?_) | (guard_hyp l : Lw (W.Bh _); replace l := nx W.Bh l; refine Nn rfl rfl ?_) | (guard_hyp l : Lw (W.Bi _); replace l := nx W.Bi l; refine fF (own' := [_, _]) sA ?_) | (guard_hyp l : Lw (W.Bj _); replace l := nx W.Bj l; refine mJ 2 rfl rfl rfl rfl rfl rfl ?_) | (guard_hyp l : Lw (W.Bk _); replace l := nx W.Bk l; refine fF (own' := [_]) sA ?_) | (guard_hyp l : Lw (W.Bl _); replace l := nx W.Bl l; refine mJ 3 rfl rfl rfl rfl rfl rfl ?_) | (guard_hyp l : Lw (W.Bm _); replace l := nx W.Bm l; refine pE 4 rfl rfl rfl rfl ?_) | (guard_hyp l : Lw (W.Bn _); replace l := nx W.Bn l; refine iP 5 kR rfl rfl ?_) | (guard_hyp l : Lw (W.Bo _); replace l := nx W.Bo l; refine di 7 rfl kR rfl hG ?_) | (guard_hyp l : Lw (W.Bp _); replace l := nx W.Bp l; refine fF (own' := [_, _, _]) sA ?_) | (guard_hyp l : Lw (W.Bq _); replace l := nx W.Bq l; refine jw rfl ⟨_, (a7 0 rfl rfl rfl), ?_⟩) | (guard_hyp l : Lw (W.Br _); replace l := nx W.Br l; refine kE 0 rfl rfl rfl rfl rL rfl rfl ?_) | (guard_hyp l : Lw (W.Bs _); replace l := nx W.Bs l; refine di 6 rfl kR rfl hG ?_) | (guard_hyp l : Lw (W.Bt _); replace l := nx W.Bt l; refine Nl rfl rfl ?_) | (guard_hyp l : Lw (W.Bu _); replace l := nx W.Bu l; refine bR rfl (Qz rfl (by assumption)) ?_) | (guard_hyp l : Lw (W.Bv _); replace l := nx W.Bv l; refine bp [_] rfl (ay 1 rfl rfl rL) sB ⟨_, rfl, ?_⟩) | (guard_hyp l : Lw (W.Bw _); replace l := nx W.Bw l; refine kE 4 rfl rfl rfl rfl rL aC rfl ?_) | (guard_hyp l : Lw (W.Bx _); replace l := nx W.Bx l; refine iP 8 kR rfl rfl ?_) | (guard_hyp l : Lw (W.By _); replace l := nx W.By l; refine iP 4 kR rfl rfl ?_) | (guard_hyp l : Lw (W.Bz _); replace l := nx W.Bz l; refine cB [_] rfl (ay 3 rfl rfl rL) (.tmp rfl) sD ⟨_, rfl, ?_⟩) | (guard_hyp l : Lw (W.BA _); replace l := nx W.BA l; refine fF (own' := []) sZ ?_) | (guard_hyp l : Lw (W.BB _); replace l := nx W.BB l; refine fF (own' := [_, _, _, _, _]) sA ?_) | (guard_hyp l : Lw (W.BC _); replace l := nx W.BC l; refine cX rfl (aDA rfl rfl kR) ?_) | (guard_hyp l : Lw (W.BD _); replace l := nx W.BD l; refine iP 9 kR rfl rfl ?_) | (guard_hyp l : Lw (W.BE _); replace l := nx W.BE l; refine iP 10 kR rfl rfl ?_) | (guard_hyp l : Lw (W.BF _); replace l := nx W.BF l; refine yx 0 rfl ?_) | (guard_hyp l : Lw (W.BG _); replace l := nx W.BG l; refine fW 9 1 ?_) | (guard_hyp l : Lw (W.BH _); replace l := nx W.BH l; refine cB [_] rfl (ay 1 rfl rfl rL) (.tmp rfl) sC ⟨_, rfl, ?_⟩) | (guard_hyp l : Lw (W.BI _); replace l := nx W.BI l; refine di 9 rfl kR rfl hG ?_) | (guard_hyp l : Lw (W.BJ _); replace l := nx W.BJ l; refine bn 13 rfl kR rfl hG ?_) | (guard_hyp l : Lw (W.BK _); replace l := nx W.BK l; refine iP 7 kR rfl rfl ?_) | (guard_hyp l : Lw (W.BL _); replace l := nx W.BL l; refine Nb rfl rfl rfl ?_) | (guard_hyp l : Lw (W.BM _); replace l := nx W.BM l; refine iP 3 kR rfl rfl ?_) | (guard_hyp l : Lw (W.BN _); replace l := nx W.BN l; refine fF (own' := [_, _, _, _]) sB ?_) | (guard_hyp l : Lw (W.BO _); replace l := nx W.BO l; refine cB [_] rfl (ay 0 rfl rfl rL) (.tmp rfl) sB ⟨_, rfl, ?_⟩) | (guard_hyp l : Lw (W.BP _); replace l := nx W.BP l; refine gL 1 kR rfl ?_) | (guard_hyp l : Lw (W.BQ _); replace l := nx W.BQ l; refine bR rfl (a7 1 rfl rfl rfl) ?_) | (guard_hyp l : Lw (W.BR _); replace l := nx W.BR l; refine bR rfl (jQ rfl) ?_) | (guard_hyp l : Lw (W.BS _); replace l := nx W.BS l; refine fF (own' := [_, _]) sB ?_) | (guard_hyp l : Lw (W.BT _); replace l := nx W.BT l; refine bR rfl (bP 0 rfl rfl rL) ?_) | (guard_hyp l : Lw (W.BU _); replace l := nx W.BU l; refine yx 2 rfl ?_) | (guard_hyp l : Lw (W.BV _); replace l := nx W.BV l; refine ko (own' := [_, _, _, _, _, _]) (.swap _ _ _) ?_) | (guard_hyp l : Lw (W.BW _); replace l := nx W.BW l; refine fF (own' := [_, _, _]) sB ?_) | (guard_hyp l : Lw (W.BX _); replace l := nx W.BX l; refine fF (own' := [_, _, _, _, _, _]) sA ?_) | (guard_hyp l : Lw (W.BY _); replace l := nx W.BY l; refine Nd rfl rfl rfl ?_) | (guard_hyp l : Lw (W.BZ _); replace l := nx W.BZ l; refine dX 11 rfl rfl kR rfl hG ?_) | (guard_hyp l : Lw (W.Ca _); replace l := nx W.Ca l; refine dX 18 rfl rfl kR rfl hG ?_) | (guard_hyp l : Lw (W.Cb _); replace l := nx W.Cb l; refine di 11 rfl kR rfl hG ?_) | (guard_hyp l : Lw (W.Cc _); replace l := nx W.Cc l; refine fF (own' := [_, _, _, _, _]) sB ?_) | (guard_hyp l : Lw (W.Cd _); replace l := nx W.Cd l; refine iP 6 kR rfl rfl ?_) | (guard_hyp l : Lw (W.Ce _); replace l := nx W.Ce l; refine di 6 rfl kR rfl hG ⟨_, (dL rfl (hr _) rfl), ?_⟩) | (guard_hyp l : Lw (W.Cf _); replace l := nx W.Cf l; refine oI 4 rfl rfl rfl rL ?_) | (guard_hyp l : Lw (W.Cg _); replace l := nx W.Cg l; refine WQ rfl rfl rfl oM ?_) | (guard_hyp l : Lw (W.Ch _); replace l := nx W.Ch l; refine bR rfl (mA rfl rfl oM) ?_) | (guard_hyp l : Lw (W.Ci _); replace l := nx W.Ci l; refine fW 47 11 ?_) | (guard_hyp l : Lw (W.Cj _); replace l := nx W.Cj l; refine kE 1 rfl rfl rfl rfl rL rfl rfl ?_) | (guard_hyp l : Lw (W.Ck _); replace l := nx W.Ck l; refine jw rfl ⟨_, (mA rfl rfl oM), ?_⟩) | (guard_hyp l : Lw (W.Cl _); replace l := nx W.Cl l; refine dX 12 rfl rfl kR rfl hG ?_) | (guard_hyp l : Lw (W.Cm _); replace l := nx W.Cm l; refine dX 15 rfl rfl kR rfl hG ?_) | (guard_hyp l : Lw (W.Cn _); replace l := nx W.Cn l; refine dX 16 rfl rfl kR rfl hG ?_) | (guard_hyp l : Lw (W.Co _); replace l := nx W.Co l; refine dX 20 rfl rfl kR rfl hG ?_) | (guard_hyp l : Lw (W.Cp _); replace l := nx W.Cp l; refine bn 23 rfl kR rfl hG ?_) | (guard_hyp l : Lw (W.Cq _); replace l := nx W.Cq l; refine di 8 rfl kR rfl hG ?_) | (guard_hyp l : Lw (W.Cr _); replace l := nx W.Cr l; refine fI 11 rfl rfl rfl kR rfl hG ?_) | (guard_hyp l : Lw (W.Cs _); replace l := nx W.Cs l; refine fI 15 rfl rfl rfl kR rfl hG ?_) | (guard_hyp l : Lw (W.Ct _); replace l := nx W.Ct l; refine fI 16 rfl rfl rfl kR rfl hG ?_) | (guard_hyp l : Lw (W.Cu _); replace l := nx W.Cu l; refine fI 17 rfl rfl rfl kR rfl hG ?_) | (guard_hyp l : Lw (W.Cv _); replace l := nx W.Cv l; refine fI 18 rfl rfl rfl kR rfl hG ?_) | (guard_hyp l : Lw (W.Cw _); replace l := nx W.Cw l; refine fI 19 rfl rfl rfl kR rfl hG ?_) | (guard_hyp l : Lw (W.Cx _); replace l := nx W.Cx l; refine fI 20 rfl rfl rfl kR rfl hG ?_) | (guard_hyp l : Lw (W.Cy _); replace l := nx W.Cy l; refine fI 21 rfl rfl rfl kR rfl hG ?_) | (guard_hyp l : Lw (W.Cz _); replace l := nx W.Cz l; refine fI 22 rfl rfl rfl kR rfl hG ?_) | (guard_hyp l : Lw (W.CA _); replace l := nx W.CA l; refine fW 111 14 ?_) | (guard_hyp l : Lw (W.CB _); replace l := nx W.CB l; refine fI 9 rfl rfl rfl kR rfl hG ?_) | (guard_hyp l : Lw (W.CC _); replace l := nx W.CC l; refine bn 26 rfl kR rfl hG ?_) | (guard_hyp l : Lw (W.CD _); replace l := nx W.CD l; refine dX 9 rfl rfl kR rfl hG ?_) | (guard_hyp l : Lw (W.CE _); replace l := nx W.CE l; refine cB [_] rfl (ay 2 rfl rfl rL) (.tmp rfl) sC ⟨_, rfl, ?_⟩) | (guard_hyp l : Lw (W.CF _); replace l := nx W.CF l; refine gV (j := 0) rfl rfl rfl rfl oM ?_) | (guard_hyp l : Lw (W.CG _); replace l := nx W.CG l; refine fF (own' := [_]) (.cons_cons _ sZ) ?_) | (guard_hyp l : Lw (W.CH _); replace l := nx W.CH l; refine fF (own' := [_]) sB ?_) | (guard_hyp l : Lw (W.CI _); replace l := nx W.CI l; refine bR rfl (a7 5 rfl rfl rfl) ?_) | (guard_hyp l : Lw (W.CJ _); replace l := nx W.CJ l; refine bR rfl (a7 3 rfl rfl rfl) ?_) | (guard_hyp l : Lw (W.CK _); replace l := nx W.CK l; refine N4 0 rfl oM ?_) | (guard_hyp l : Lw (W.CL _); replace l := nx W.CL l; refine bn 4 rfl kR rfl hG ⟨_, (Na rfl rfl), ?_⟩) | (guard_hyp l : Lw (W.CM _); replace l := nx W.CM l; refine gL 0 kR rfl ?_) | (guard_hyp l : Lw (W.CN _); replace l := nx W.CN l; refine bR rfl (bU (j := 0) rfl rfl rfl oM) ?_) | (guard_hyp l : Lw (W.CO _); replace l := nx W.CO l; refine bR rfl (bP 1 rfl rfl rL) ?_) | (guard_hyp l : Lw (W.CP _); replace l := nx W.CP l; refine jw rfl ⟨_, (bU rfl rfl rfl oM), ?_⟩) | (guard_hyp l : Lw (W.CQ _); replace l := nx W.CQ l; refine bp [_] rfl (ay 0 rfl rfl rL) sA ⟨_, rfl, ?_⟩) | (guard_hyp l : Lw (W.CR _); replace l := nx W.CR l; refine cX rfl (Tt rfl rfl) ?_) | (guard_hyp l : Lw (W.CS _); replace l := nx W.CS l; refine dX 13 rfl rfl kR rfl hG ?_) | (guard_hyp l : Lw (W.CT _); replace l := nx W.CT l; refine dX 17 rfl rfl kR rfl hG ?_) | (guard_hyp l : Lw (W.CU _); replace l := nx W.CU l; refine dX 22 rfl rfl kR rfl hG ?_) | (guard_hyp l : Lw (W.CV _); replace l := nx W.CV l; refine fI 12 rfl rfl rfl kR rfl hG ?_) | (guard_hyp l : Lw (W.CW _); replace l := nx W.CW l; refine fI 8 rfl rfl rfl kR rfl hG ?_) | (guard_hyp l : Lw (W.CX _); replace l := nx W.CX l; refine bn 14 rfl kR rfl hG ?_) | (guard_hyp l : Lw (W.CY _); replace l := nx W.CY l; refine dX 4 rfl rfl kR rfl hG ?_) | (guard_hyp l : Lw (W.CZ _); replace l := nx W.CZ l; refine dX 6 rfl rfl kR rfl hG ?_) | (guard_hyp l : Lw (W.Da _); replace l := nx W.Da l; refine dX 8 rfl rfl kR rfl hG ?_) | (guard_hyp l : Lw (W.Db _); replace l := nx W.Db l; refine dX 10 rfl rfl kR rfl hG ?_) | (guard_hyp l : Lw (W.Dc _); replace l := nx W.Dc l; refine dX 19 rfl rfl kR rfl hG ?_) | (guard_hyp l : Lw (W.Dd _); replace l := nx W.Dd l; refine fF (own' := [_, _, _, _, _, _, _, _]) sA ?_) | (guard_hyp l : Lw (W.De _); replace l := nx W.De l; refine fF (own' := [_, _, _, _, _, _]) sB ?_) | (guard_hyp l : Lw (W.Df _); replace l := nx W.Df l; refine bn 4 rfl kR rfl hG ⟨_, (mA rfl rfl oM), ?_⟩) | (guard_hyp l : Lw (W.Dg _); replace l := nx W.Dg l; refine mJ 2 rfl rfl rfl (aCZ (by assumption)) aC rfl ?_) | (guard_hyp l : Lw (W.Dh _); replace l := nx W.Dh l; refine bn 2 rfl kR rfl hG ⟨_, (bU (j := 0) rfl rfl rfl oM), ?_⟩) | (guard_hyp l : Lw (W.Di _); replace l := nx W.Di l; refine bn 6 rfl kR rfl hG ⟨_, (bU (j := 1) rfl rfl rfl oM), ?_⟩) | (guard_hyp l : Lw (W.Dj _); replace l := nx W.Dj l; refine cB [_] rfl (ay 2 rfl rfl rL) (.tmp rfl) sD ⟨_, rfl, ?_⟩) | (guard_hyp l : Lw (W.Dk _); replace l := nx W.Dk l; refine cB [_] rfl (ay 0 rfl rfl rL) (.tmp rfl) sA ⟨_, rfl, ?_⟩) | (guard_hyp l : Lw (W.Dl _); replace l := nx W.Dl l; refine bn 3 rfl kR rfl hG ⟨_, (bU rfl rfl rfl oM), ?_⟩) | (guard_hyp l : Lw (W.Dm _); replace l := nx W.Dm l; refine bn 4 rfl kR rfl hG ⟨_, (dL rfl (hr _) rfl), ?_⟩) | (guard_hyp l : Lw (W.Dn _); replace l := nx W.Dn l; refine bn 8 rfl kR rfl hG ⟨_, (bU rfl rfl rfl oM), ?_⟩) | (guard_hyp l : Lw (W.Do _); replace l := nx W.Do l; refine bn 9 rfl kR rfl hG ⟨_, (dL rfl (dA _) rfl), ?_⟩) | (guard_hyp l : Lw (W.Dp _); replace l := nx W.Dp l; refine fF (own' := [_, _, _, _, _]) (.cons_cons _ (.cons_cons _ (.cons_cons _ (.cons_cons _ (.cons_cons _ sZ))))) ?_) | (guard_hyp l : Lw (W.Dq _); replace l := nx W.Dq l; refine fF (own' := [_, _]) (.cons_cons _ (.cons _ (List.Sublist.refl _))) ?_) | (guard_hyp l : Lw (W.Dr _); replace l := nx W.Dr l; refine fF (own' := [_, _]) (.cons_cons _ (.cons_cons _ (.cons _ (List.Sublist.refl _)))) ?_))); exact fin l k) : P := h ⟨⟩ ⟨k⟩
theorem sT {Q P : Prop} (k : Q) (h : Kw Q → P := by intro k; (first | (refine aA9 ?_; (first | refine IA rfl rfl ?_ | refine Ng rfl rfl ?_ | refine Nh rfl rfl ?_ | refine Nr rfl rfl ?_ | refine pE 0 rfl rfl rfl rfl ?_ | refine pE 1 rfl rfl rfl rfl ?_ | refine pE 2 rfl rfl rfl rfl ?_ | refine pE 3 rfl rfl rfl rfl ?_ | refine oI 0 rfl rfl rfl (by rfl) ?_ | refine oI 1 rfl rfl rfl (by rfl) ?_ | refine oI 2 rfl rfl rfl (by rfl) ?_ | refine oI 3 rfl rfl rfl (by rfl) ?_ | refine Qw rfl rfl (by rfl) ?_ | refine Nj rfl rfl ?_ | refine Nk rfl rfl ?_ | refine Nl rfl rfl ?_ | refine zS rfl rfl ?_ | refine Nn rfl rfl ?_ | refine Nb rfl rfl rfl ?_ | refine Nd rfl rfl rfl ?_ | refine aBN rfl rfl ?_ | refine Nf rfl rfl rfl ?_ | refine aj rfl (fun b => ?_) | refine aP rfl rfl rfl (fun b => ?_))) | (refine aBB ?_; (first | refine Qp rfl rfl rfl ?_ | refine M8 rfl rfl rfl ?_ | refine Gm rfl ?_ | refine Qr rfl rfl ?_ | refine WD rfl rfl ?_)) | (refine aBC ?_; (first | refine iV ?_ | refine Ew ?_)) | (refine aBD ?_; (first | refine aS ?_ | refine kM ?_ | refine Ev ?_ | refine EB rfl ?_ | refine EC rfl ?_ | refine Ey ?_ | refine Jv ?_ | refine Ju ?_ | refine Jt ?_)) | (refine aBE ?_; (first | refine Ez ?_ | refine Jw ?_ | refine Jx ?_)) | (refine aBF ?_; (first | refine Jy ?_ | refine Jz ?_ | refine JA ?_ | refine JB rfl ?_)) | (refine aBA ?_; (first | refine mJ 0 rfl rfl rfl rfl rfl rfl ?_ | refine mJ 1 rfl rfl rfl rfl rfl rfl ?_ | refine mJ 2 rfl rfl rfl rfl rfl rfl ?_ | refine mJ 3 rfl rfl rfl rfl rfl rfl ?_ | refine kE 0 rfl rfl rfl rfl (by rfl) rfl rfl ?_ | refine kE 1 rfl rfl rfl rfl (by rfl) rfl rfl ?_ | refine kE 2 rfl rfl rfl rfl (by rfl) rfl rfl ?_ | refine kE 3 rfl rfl rfl rfl (by rfl) rfl rfl ?_ | refine aBK rfl ?_)) | (refine aBG ?_; (first | refine IB rfl rfl ?_ | refine bR rfl (aI rfl) ?_ | refine bR rfl (zF rfl) ?_ | refine bR rfl (jQ rfl) ?_ | refine bR rfl (a7 0 rfl rfl rfl) ?_ | refine bR rfl (a7 1 rfl rfl rfl) ?_ | refine bR rfl (a7 2 rfl rfl rfl) ?_ | refine bR rfl (a7 3 rfl rfl rfl) ?_ | refine bR rfl (bP 0 rfl rfl (by rfl)) ?_ | refine bR rfl (bP 1 rfl rfl (by rfl)) ?_ | refine bR rfl (bP 2 rfl rfl (by rfl)) ?_ | refine bR rfl (bP 3 rfl rfl (by rfl)) ?_ | refine bR rfl (et rfl (by rfl)) ?_)) | (refine aBH ?_; (first | refine Qo rfl rfl rfl ?_ | refine M_ rfl rfl rfl ?_ | refine Gn rfl ?_ | refine Qs rfl rfl ?_)) | (refine aBI ?_; (first | refine M9 ?_)) | refine Ny ?_); exact k.p) : P := h ⟨k⟩
end Go.aZ
/- Plain law: what the reference of chapter 2 computes, on lists of bytes. No program in sight. -/
namespace Go.Th
abbrev Bytes := List UInt8

structure Tok where
 kind : Int
 text : Bytes
 pos : Int

def lower (c : UInt8) : Bool := decide (97 ≤ c.toNat) && decide (c.toNat ≤ 122)
def upper (c : UInt8) : Bool := decide (65 ≤ c.toNat) && decide (c.toNat ≤ 90)
def digit (c : UInt8) : Bool := decide (48 ≤ c.toNat) && decide (c.toNat ≤ 57)
def inner (c : UInt8) : Bool := lower c || upper c || digit c || decide (c.toNat = 95)
def isWord (s : Bytes) : Bool := s.all inner && !s.isEmpty
def qR : List Bytes := [[100, 97, 116, 97], [108, 101, 116], [114, 101, 99], [105, 110], [99, 97, 115, 101], [111, 102], [101, 110, 100]]
def mD (s : Bytes) : Bool := decide (s ∈ qR)
def isLower (s : Bytes) : Bool := isWord s && lower (s.headD 0) && decide (s.length ≤ 12) && !mD s
def isUpper (s : Bytes) : Bool := isWord s && upper (s.headD 0) && decide (s.length ≤ 12)
def nr (s : Bytes) : Bool := !s.isEmpty && decide (s.length ≤ 9) && !(decide ((s.headD 0).toNat = 48) && decide (1 < s.length)) && s.all digit
def kA : Bytes := [92, 46, 61, 59, 58, 124, 40, 41, 123, 125, 63]
def l7 (s : Bytes) : Bool := decide (s = [45, 62]) || kA.any fun c => decide (s = [c])
def kindOf (s : Bytes) : Int := if mD s then 4 else if isLower s then 1 else if isUpper s then 2 else if nr s then 3 else if l7 s then 5 else 0

def ee (c : UInt8) : Bool := decide (c.toNat = 32) || decide (c.toNat = 9) || decide (c.toNat = 13) || decide (c.toNat = 10)

def fR : Bytes → Nat
 | [] => 0
 | c :: r => if c.toNat = 10 then 0 else fR r + 1
def i_ : Bytes → Nat
 | [] => 0
 | c :: r => if inner c then i_ r + 1 else 0
def cW : Bytes → Nat
 | [] => 0
 | c :: r => if inner c then i_ r + 1 else if c.toNat = 45 then (match r with | x :: _ => if x.toNat = 62 then 2 else 1 | [] => 1) else 1

def jE : Nat → Nat → Bytes → Except Nat (List Tok)
 | 0, _, _ => .ok []
 | _ + 1, _, [] => .ok []
 | f + 1, i, c :: r =>
  if ee c then jE f (i + 1) r
  else if c.toNat = 35 then jE f (i + fR (c :: r)) ((c :: r).drop (fR (c :: r)))
  else if kindOf ((c :: r).take (cW (c :: r))) = 0 then .error i
  else match jE f (i + cW (c :: r)) ((c :: r).drop (cW (c :: r))) with
   | .error e => .error e
   | .ok l => .ok (⟨kindOf ((c :: r).take (cW (c :: r))), (c :: r).take (cW (c :: r)), i⟩ :: l)

inductive aDL where
 | ok (l : List Tok)
 | bad (err pos : Int)

def scan (s : Bytes) : aDL :=
 if 4000 < s.length then .bad 1 0 else match jE s.length 0 s with
  | .ok l => .ok l
  | .error p => .bad 2 p

theorem Fx : ∀ s : Bytes, fR s ≤ s.length
 | [] => Nat.le_refl 0
 | c :: r => by have := Fx r; simp only [fR]; split <;> simp <;> omega
theorem Fz : ∀ s : Bytes, i_ s ≤ s.length
 | [] => Nat.le_refl 0
 | c :: r => by have := Fz r; simp only [i_]; split <;> simp <;> omega
theorem E2 : ∀ s : Bytes, cW s ≤ s.length
 | [] => Nat.le_refl 0
 | c :: r => by
  have := Fz r
  simp only [cW]
  split
  ·simp; omega
  ·split
   ·cases r with
    | nil => simp
    | cons x l => simp only; split <;> simp
   ·simp
theorem wv (c : UInt8) (r : Bytes) : 1 ≤ cW (c :: r) := by
 simp only [cW]
 split
 ·omega
 ·split
  ·cases r with
   | nil => simp
   | cons x l => simp only; split <;> omega
  ·omega
theorem zv {c : UInt8} (r : Bytes) (h : c.toNat = 35) : 1 ≤ fR (c :: r) := by
 simp only [fR]
 rw [if_neg oM]
 omega

theorem Rm : ∀ (f f' i : Nat) (s : Bytes), s.length ≤ f → s.length ≤ f' → jE f i s = jE f' i s := by
 intro f
 induction f with
 | zero =>
  intro f' i s h _
  have : s = [] := List.eq_nil_of_length_eq_zero oM
  subst this
  cases f' <;> simp [jE]
 | succ f ih =>
  intro f' i s h h'
  cases s with
  | nil => cases f' <;> simp [jE]
  | cons c r =>
   cases f' with
   | zero => simp at h'
   | succ f' =>
    simp only [List.length_cons] at h h'
    simp only [jE]
    have h1 := wv c r
    split
    ·exact ih _ _ _ oM oM
    ·split
     ·rename_i hc
      have h2 := zv r hc
      exact ih _ _ _ (by simp only [List.length_drop, List.length_cons]; omega) (by simp only [List.length_drop, List.length_cons]; omega)
     ·rw [ih f' (i + cW (c :: r)) ((c :: r).drop (cW (c :: r))) (by simp only [List.length_drop, List.length_cons]; omega) (by simp only [List.length_drop, List.length_cons]; omega)]

def ed (i : Nat) (s : Bytes) : Except Nat (List Tok) := jE s.length i s
theorem Kn (i : Nat) : ed i [] = .ok [] := rfl
theorem Rn {c : UInt8} {r : Bytes} (i : Nat) (h : ee c = true) : ed i (c :: r) = ed (i + 1) r := by
 simp [ed, jE, h]
theorem aDM {c : UInt8} {r : Bytes} (i : Nat) (h : ee c = false) (h' : c.toNat = 35) : ed i (c :: r) = ed (i + fR (c :: r)) ((c :: r).drop (fR (c :: r))) := by
 have := zv r h'
 simp only [ed, List.length_cons, jE, h, Bool.false_eq_true, if_false, h', if_true]
 exact Rm _ _ _ _ (by simp only [List.length_drop, List.length_cons]; omega) (by simp only [List.length_drop, List.length_cons]; omega)
theorem aDN {c : UInt8} {r : Bytes} (i : Nat) (h : ee c = false) (h' : c.toNat ≠ 35) (hk : kindOf ((c :: r).take (cW (c :: r))) = 0) : ed i (c :: r) = .error i := by
 simp [ed, jE, h, h', hk]
theorem Ee {c : UInt8} {r : Bytes} (i : Nat) (h : ee c = false) (h' : c.toNat ≠ 35) (hk : kindOf ((c :: r).take (cW (c :: r))) ≠ 0) :
  ed i (c :: r) = match ed (i + cW (c :: r)) ((c :: r).drop (cW (c :: r))) with
   | .error e => .error e
   | .ok l => .ok (⟨kindOf ((c :: r).take (cW (c :: r))), (c :: r).take (cW (c :: r)), i⟩ :: l) := by
 have := wv c r
 simp only [ed, List.length_cons, jE, h, Bool.false_eq_true, if_false, h', hk]
 rw [Rm r.length ((c :: r).drop (cW (c :: r))).length _ _ (by simp only [List.length_drop, List.length_cons]; omega) (Nat.le_refl _)]
end Go.Th

/- Plain law, second part: the scanner as loops see it. -/
namespace Go.Th

def pre (l : List Tok) : Except Nat (List Tok) → Except Nat (List Tok)
 | .ok r => .ok (l ++ r)
 | .error e => .error e
theorem pre_nil (r : Except Nat (List Tok)) : pre [] r = r := by cases r <;> rfl
theorem drop_cons {s : Bytes} {k : Nat} (h : k < s.length) : s.drop k = s[k] :: s.drop (k + 1) := List.drop_eq_getElem_cons h
theorem Te {s : Bytes} {k : Nat} (h : k < s.length) (hn : s[k].toNat ≠ 10) : fR (s.drop k) = fR (s.drop (k + 1)) + 1 := by
 rw [drop_cons h, fR, if_neg hn]
theorem Tf {s : Bytes} {k : Nat} (h : k < s.length) (hn : s[k].toNat = 10) : fR (s.drop k) = 0 := by
 rw [drop_cons h, fR, if_pos hn]
theorem Tg {s : Bytes} {k : Nat} (h : s.length ≤ k) : fR (s.drop k) = 0 := by
 rw [List.drop_eq_nil_of_le h]; rfl
theorem Ki {s : Bytes} {k : Nat} (h : k < s.length) (hn : inner s[k] = true) : i_ (s.drop k) = i_ (s.drop (k + 1)) + 1 := by
 rw [drop_cons h, i_, if_pos hn]
theorem Kj {s : Bytes} {k : Nat} (h : k < s.length) (hn : inner s[k] = false) : i_ (s.drop k) = 0 := by
 rw [drop_cons h, i_, hn]; rfl
theorem Kk {s : Bytes} {k : Nat} (h : s.length ≤ k) : i_ (s.drop k) = 0 := by
 rw [List.drop_eq_nil_of_le h]; rfl
theorem wx (s : Bytes) (i n : Nat) : (s.take (i + n)).drop i = (s.drop i).take n := by
 rw [List.drop_take]; congr 1; omega

theorem rJ (c : UInt8) (r : Bytes) : cW (c :: r) = if inner c then i_ r + 1 else if c.toNat = 45 then (match r with | x :: _ => if x.toNat = 62 then 2 else 1 | [] => 1) else 1 := by cases r <;> rfl
theorem E5 {s : Bytes} {i : Nat} (h : i < s.length) (hn : inner s[i] = true) : cW (s.drop i) = i_ (s.drop (i + 1)) + 1 := by
 rw [drop_cons h, rJ, if_pos hn]
theorem Km {s : Bytes} {i : Nat} (h : i + 1 < s.length) (hn : inner s[i] = false) (h1 : s[i].toNat = 45) (h2 : s[i + 1].toNat = 62) : cW (s.drop i) = 2 := by
 rw [drop_cons oM, drop_cons h, rJ, if_neg (by simp [hn]), if_pos h1]
 simp [h2]
theorem zw {s : Bytes} {i : Nat} (h : i < s.length) (hn : inner s[i] = false) (h1 : s[i].toNat = 45 → ∀ h2 : i + 1 < s.length, s[i + 1].toNat ≠ 62) : cW (s.drop i) = 1 := by
 rw [drop_cons h, rJ, if_neg (by simp [hn])]
 split
 ·rename_i E6
  by_cases hl : i + 1 < s.length
  ·rw [drop_cons hl]
   simp only
   rw [if_neg (h1 E6 hl)]
  ·rw [List.drop_eq_nil_of_le oM]
 ·rfl

theorem qK {s : Bytes} {i : Nat} (h : i < s.length) (hw : ee s[i] = true) : ed i (s.drop i) = ed (i + 1) (s.drop (i + 1)) := by
 rw [drop_cons h]; exact Rn i hw
theorem E3 {s : Bytes} {i : Nat} (h : i < s.length) (hw : ee s[i] = false) (hc : s[i].toNat = 35) : ed i (s.drop i) = ed (i + fR (s.drop i)) (s.drop (i + fR (s.drop i))) := by
 have := aDM (r := s.drop (i + 1)) i hw hc
 rw [← drop_cons h] at this
 rw [this, List.drop_drop]
theorem Kg {s : Bytes} {i : Nat} (h : i < s.length) (hw : ee s[i] = false) (hc : s[i].toNat ≠ 35) (hk : kindOf ((s.drop i).take (cW (s.drop i))) = 0) : ed i (s.drop i) = .error i := by
 have := aDN (r := s.drop (i + 1)) i hw hc
 rw [← drop_cons h] at this
 exact this hk
theorem Kh {s : Bytes} {i : Nat} (h : i < s.length) (hw : ee s[i] = false) (hc : s[i].toNat ≠ 35) (hk : kindOf ((s.drop i).take (cW (s.drop i))) ≠ 0) (l : List Tok) :
  pre l (ed i (s.drop i)) = pre (l ++ [⟨kindOf ((s.drop i).take (cW (s.drop i))), (s.drop i).take (cW (s.drop i)), i⟩]) (ed (i + cW (s.drop i)) (s.drop (i + cW (s.drop i)))) := by
 have := Ee (r := s.drop (i + 1)) i hw hc
 rw [← drop_cons h] at this
 rw [this hk, List.drop_drop]
 generalize ed (i + cW (s.drop i)) (s.drop (i + cW (s.drop i))) = r
 cases r <;> simp [pre]
theorem wy {s : Bytes} (h : s.length ≤ 4000) : scan s = match ed 0 (s.drop 0) with | .ok l => .ok l | .error p => .bad 2 p := by
 simp only [scan, ed, Nat.not_lt.2 h, if_false, List.drop_zero]
 all_goals (generalize jE s.length 0 s = r; cases r <;> rfl)
end Go.Th

/- Plain law, third part: tokens that stand apart are read as they are. -/
namespace Go.Th
def apart (r : Bytes) : Prop := ∀ c l, r = c :: l → inner c = false
theorem aCL : apart [] := fun _ _ h => by cases h
theorem zL {c : UInt8} {l : Bytes} (h : inner c = false) : apart (c :: l) := fun _ _ e => by cases e; exact h
theorem Ro : ∀ (w r : Bytes), w.all inner = true → apart r → i_ (w ++ r) = w.length
 | [], r, _, hr => by
  cases r with
  | nil => rfl
  | cons c l => simp [i_, hr c l rfl]
 | c :: w, r, hw, hr => by
  simp only [List.all_cons, Bool.and_eq_true] at hw
  simp [i_, hw.1, Ro w r hw.2 hr]
theorem aDO {w : Bytes} (h : kindOf w ≠ 0) : (w.all inner = true ∧ w ≠ []) ∨ l7 w = true := by
 by_cases hm : l7 w = true
 ·exact .inr hm
 ·left
  simp only [kindOf, hm] at h
  by_cases hk : mD w = true
  ·have : ∀ x ∈ qR, x.all inner = true ∧ x ≠ [] := by decide
   exact this w (by simpa [mD] using hk)
  ·simp only [hk] at h
   have Rp : isWord w = true → w.all inner = true ∧ w ≠ [] := fun hw => by simp [isWord] at hw; exact ⟨by simpa using hw.1, hw.2⟩
   by_cases hl : isLower w = true
   ·simp only [isLower, Bool.and_eq_true] at hl; exact Rp hl.1.1.1
   ·by_cases hu : isUpper w = true
    ·simp only [isUpper, Bool.and_eq_true] at hu; exact Rp hu.1.1
    ·by_cases hi : nr w = true
     ·simp only [nr, Bool.and_eq_true] at hi
      refine ⟨?_, by have := hi.1.1.1; simpa using this⟩
      rw [List.all_eq_true]
      intro x hx
      have := List.all_eq_true.1 hi.2 x hx
      simp [inner, this]
     ·simp [hl, hu, hi] at h
theorem Rq {w : Bytes} (h : l7 w = true) : w = [45, 62] ∨ ∃ c ∈ kA, w = [c] := by
 simpa [l7] using h
theorem aDP {c : UInt8} (h : inner c = true) : ee c = false ∧ c.toNat ≠ 35 := by
 simp only [inner, lower, upper, digit, Bool.or_eq_true, Bool.and_eq_true, decide_eq_true_eq] at h
 refine ⟨?_, oM⟩
 simp [ee]; omega
theorem aDQ {w r : Bytes} (i : Nat) (hk : kindOf w ≠ 0) (hr : apart r) : ed i (w ++ r) = match ed (i + w.length) r with
  | .error e => .error e
  | .ok l => .ok (⟨kindOf w, w, i⟩ :: l) := by
 have key : ∀ (c : UInt8) (w' : Bytes), w = c :: w' → ee c = false → c.toNat ≠ 35 → cW (w ++ r) = w.length → ed i (w ++ r) = match ed (i + w.length) r with
  | .error e => .error e
  | .ok l => .ok (⟨kindOf w, w, i⟩ :: l) := by
  intro c w' hw h1 h2 h3
  have h4 : (w ++ r).take (cW (w ++ r)) = w := by rw [h3]; simp
  have h5 : (w ++ r).drop (cW (w ++ r)) = r := by rw [h3]; simp
  have := Ee (c := c) (r := w' ++ r) i h1 h2
  rw [← List.cons_append, ← hw, h4, h5, h3] at this
  exact this hk
 rcases aDO hk with ⟨hall, hne⟩ | hm
 ·cases w with
  | nil => exact absurd rfl hne
  | cons c w' =>
   simp only [List.all_cons, Bool.and_eq_true] at hall
   obtain ⟨h1, h2⟩ := aDP hall.1
   refine key c w' rfl h1 h2 ?_
   rw [List.cons_append, rJ, if_pos hall.1, Ro w' r hall.2 hr]; rfl
 ·rcases Rq hm with rfl | ⟨c, hc, rfl⟩
  ·exact key 45 [62] rfl dC dC (by simp [rJ, show inner 45 = false by decide])
  ·have hh : ∀ c ∈ kA, ee c = false ∧ c.toNat ≠ 35 ∧ inner c = false ∧ c.toNat ≠ 45 := by decide
   obtain ⟨h1, h2, h3, h4⟩ := hh c hc
   refine key c [] rfl h1 h2 ?_
   rw [List.cons_append, rJ, if_neg (by simp [h3]), if_neg h4]; rfl
def kt (l : List Tok) : List (Int × Bytes) := l.map fun t => (t.kind, t.text)
def bq (ws : List Bytes) : List (Int × Bytes) := ws.map fun w => (kindOf w, w)
def ui (r : Except Nat (List Tok)) (ws : List (Int × Bytes)) : Prop := ∃ l, r = .ok l ∧ kt l = ws
theorem aDR {w r : Bytes} {i : Nat} {ws : List (Int × Bytes)} (hk : kindOf w ≠ 0) (hr : apart r) (h : ui (ed (i + w.length) r) ws) : ui (ed i (w ++ r)) ((kindOf w, w) :: ws) := by
 obtain ⟨l, h1, h2⟩ := h
 rw [aDQ i hk hr, h1]
 exact ⟨_, rfl, by rw [← h2]; rfl⟩
def Passes (u : Bytes) : Prop := ∀ i r, ∃ j, ed i (u ++ r) = ed j r
theorem Ln : Passes [] := fun i _ => ⟨i, rfl⟩
theorem Lm {c : UInt8} {u : Bytes} (h : ee c = true) (hu : Passes u) : Passes (c :: u) := fun i r => by
 rw [List.cons_append, Rn i h]; exact hu _ _
theorem Ll {u r : Bytes} {i : Nat} {ws : List (Int × Bytes)} (hu : Passes u) (h : ∀ j, ui (ed j r) ws) : ui (ed i (u ++ r)) ws := by
 obtain ⟨j, hj⟩ := hu i r
 rw [hj]; exact h j
def back (ws : List Bytes) : Bytes := ws.flatMap (· ++ [32])
def front (ps : List (Bytes × Bytes)) : Bytes := ps.flatMap fun p => p.1 ++ p.2
def aDS : List Bytes → Bytes
 | [] => []
 | [w] => w
 | w :: v :: r => w ++ 32 :: aDS (v :: r)
theorem aCM {s : Bytes} {ws : List (Int × Bytes)} (hs : s.length ≤ 4000) (h : ui (ed 0 s) ws) : ∃ l, scan s = .ok l ∧ kt l = ws := by
 obtain ⟨l, h1, h2⟩ := h
 rw [wy hs, List.drop_zero, h1]
 exact ⟨l, rfl, h2⟩
end Go.Th

/- Types in plain words: type terms, and what is read from tokens as a type. No program in sight. -/
namespace Go.Th
inductive Ty where
 | mk (kind : Int) (name : Bytes) (id home : Int) (args : List Ty)
def Ty.kind : Ty → Int | .mk k _ _ _ _ => k
def Ty.name : Ty → Bytes | .mk _ n _ _ _ => n
def Ty.id : Ty → Int | .mk _ _ i _ _ => i
def Ty.home : Ty → Int | .mk _ _ _ h _ => h
def Ty.args : Ty → List Ty | .mk _ _ _ _ a => a
def eg : Bytes := [45, 62]
def Fh : Bytes := [73, 110, 116]
def bJ (n : Bytes) (az : List Ty) : Ty := .mk 4 n 0 0 az
def fY (n : Bytes) : Ty := .mk 5 n 0 0 []
def cZ (a b : Ty) : Ty := bJ eg [a, b]
def fL : Ty := bJ Fh []
def bX : Ty := .mk 0 [] 0 0 []
def bH (l : List Tok) (i : Nat) : Int := match l[i]? with
 | some t => t.pos
 | none => match l.getLast? with
  | some t => t.pos + t.text.length
  | none => 0
def df (l : List Tok) (i : Nat) (k : Int) (w : Bytes) : Bool := match l[i]? with
 | some t => decide (t.kind = k) && decide (t.text = w)
 | none => false
def bB (l : List Tok) (i : Nat) (w : Bytes) : Bool := df l i 5 w
def kQ (t : Tok) : Bool := decide (t.kind = 1) || decide (t.kind = 2) || (decide (t.kind = 5) && decide (t.text = [40]))
def gH (l : List Tok) (i : Nat) : Bool := match l[i]? with
 | some t => kQ t
 | none => false
theorem cF {l : List Tok} {i : Nat} {k : Int} {w : Bytes} (h : df l i k w = true) : i < l.length := by
 unfold df at h
 cases ht : l[i]? with
 | none => rw [ht] at h; cases h
 | some t => exact (List.getElem?_eq_some_iff.1 ht).1
theorem r8 {l : List Tok} {i : Nat} (h : gH l i = true) : i < l.length := by
 unfold gH at h
 cases ht : l[i]? with
 | none => rw [ht] at h; cases h
 | some t => exact (List.getElem?_eq_some_iff.1 ht).1
inductive TQ where
 | whole
 | fA
 | atom
 | args (name : Bytes) (acc : List Ty)
abbrev TR := Except Int (Ty × Nat)
def rK (l : List Tok) (f : TQ → Nat → TR) : TQ → Nat → TR
 | .atom, i => match l[i]? with
  | none => .error (bH l i)
  | some t => if t.kind = 1 then .ok (fY t.text, i + 1) else if t.kind = 2 then .ok (bJ t.text [], i + 1)
   else if t.kind = 5 ∧ t.text = [40] then match f .whole (i + 1) with
    | .error p => .error p
    | .ok (x, j) => if bB l j [41] then .ok (x, j + 1) else .error (bH l j)
   else .error (bH l i)
 | .args n acc, i => if gH l i then match f .atom i with
   | .error p => .error p
   | .ok (x, j) => if i < j then f (.args n (acc ++ [x])) j else .error 0
  else .ok (bJ n acc, i)
 | .fA, i => match l[i]? with
  | some t => if t.kind = 2 then f (.args t.text []) (i + 1) else f .atom i
  | none => f .atom i
 | .whole, i => match f .fA i with
  | .error p => .error p
  | .ok (a, j) => if bB l j eg then (if i < j + 1 then match f .whole (j + 1) with
    | .error p => .error p
    | .ok (b, k) => .ok (cZ a b, k)
   else .error 0) else .ok (a, j)
def TQ.ck : TQ → Nat
 | .atom => 0
 | .args _ _ => 1
 | .fA => 2
 | .whole => 3
def dD (l : List Tok) (q : TQ) (i : Nat) : Nat := 4 * (l.length - i) + q.ck
theorem Rr {l : List Tok} {f g : TQ → Nat → TR} {q : TQ} {i : Nat} (h : ∀ q' i', dD l q' i' < dD l q i → f q' i' = g q' i') : rK l f q i = rK l g q i := by
 cases q with
 | atom =>
  simp only [rK]
  cases ht : l[i]? with
  | none => rfl
  | some t =>
   have hi := (List.getElem?_eq_some_iff.1 ht).1
   simp only
   rw [h .whole (i + 1) (by simp only [dD, TQ.ck]; omega)]
 | args n acc =>
  simp only [rK]
  cases hs : gH l i with
  | false => rfl
  | true =>
   have hi := r8 hs
   simp only [if_true]
   rw [h .atom i (by simp only [dD, TQ.ck]; omega)]
   cases g .atom i with
   | error p => rfl
   | ok p =>
    obtain ⟨x, j⟩ := p
    simp only
    by_cases hj : i < j
    ·rw [if_pos hj, if_pos hj, h _ j (by simp only [dD, TQ.ck]; omega)]
    ·rw [if_neg hj, if_neg hj]
 | fA =>
  simp only [rK]
  cases ht : l[i]? with
  | none => exact h _ _ (by simp only [dD, TQ.ck]; omega)
  | some t =>
   have hi := (List.getElem?_eq_some_iff.1 ht).1
   simp only
   rw [h (.args t.text []) (i + 1) (by simp only [dD, TQ.ck]; omega), h .atom i (by simp only [dD, TQ.ck]; omega)]
 | whole =>
  simp only [rK]
  rw [h .fA i (by simp only [dD, TQ.ck]; omega)]
  cases g .fA i with
  | error p => rfl
  | ok p =>
   obtain ⟨a, j⟩ := p
   simp only
   cases hm : bB l j eg with
   | false => rfl
   | true =>
    have hj := cF hm
    simp only [if_true]
    by_cases ky : i < j + 1
    ·rw [if_pos ky, if_pos ky, h .whole (j + 1) (by simp only [dD, TQ.ck]; omega)]
    ·rw [if_neg ky, if_neg ky]
def Ef (l : List Tok) : Nat → TQ → Nat → TR
 | 0, _, _ => .error 0
 | n + 1, q, i => rK l (Ef l n) q i
theorem Rs {l : List Tok} : ∀ (n m : Nat) (q : TQ) (i : Nat), dD l q i < n → dD l q i < m → Ef l n q i = Ef l m q i
 | 0, _, _, _, h, _ => by omega
 | _ + 1, 0, _, _, _, h => by omega
 | n + 1, m + 1, q, i, h, h' => Rr fun q' i' hlt => Rs n m q' i' oM oM
def a_ (l : List Tok) (q : TQ) (i : Nat) : TR := Ef l (dD l q i + 1) q i
theorem Eg (l : List Tok) (q : TQ) (i : Nat) : a_ l q i = rK l (a_ l) q i := Rr fun q' i' hlt => Rs _ _ q' i' hlt oM
theorem nV (l : List Tok) (i : Nat) : a_ l .atom i = match l[i]? with
  | none => .error (bH l i)
  | some t => if t.kind = 1 then .ok (fY t.text, i + 1) else if t.kind = 2 then .ok (bJ t.text [], i + 1)
   else if t.kind = 5 ∧ t.text = [40] then match a_ l .whole (i + 1) with
    | .error p => .error p
    | .ok (x, j) => if bB l j [41] then .ok (x, j + 1) else .error (bH l j)
   else .error (bH l i) := Eg l .atom i
theorem nQ (l : List Tok) (n : Bytes) (acc : List Ty) (i : Nat) : a_ l (.args n acc) i = if gH l i then match a_ l .atom i with
   | .error p => .error p
   | .ok (x, j) => if i < j then a_ l (.args n (acc ++ [x])) j else .error 0
  else .ok (bJ n acc, i) := Eg l (.args n acc) i
theorem oX (l : List Tok) (i : Nat) : a_ l .fA i = match l[i]? with
  | some t => if t.kind = 2 then a_ l (.args t.text []) (i + 1) else a_ l .atom i
  | none => a_ l .atom i := Eg l .fA i
theorem qJ (l : List Tok) (i : Nat) : a_ l .whole i = match a_ l .fA i with
  | .error p => .error p
  | .ok (a, j) => if bB l j eg then (if i < j + 1 then match a_ l .whole (j + 1) with
    | .error p => .error p
    | .ok (b, k) => .ok (cZ a b, k)
   else .error 0) else .ok (a, j) := Eg l .whole i
end Go.Th

/- Expressions in plain words: terms, and what is read from tokens as an expression. No program in sight. -/
namespace Go.Th
mutual
inductive Ex where
 | mk (kind pos : Int) (name : Bytes) (num : Int) (kids : List Ex) (aK : List Ar) (ty : Ty)
inductive Ar where
 | mk (pos : Int) (bQ : Bytes) (vars : List Bytes) (body : Ex)
end
def Ex.kind : Ex → Int | .mk k _ _ _ _ _ _ => k
def Ex.pos : Ex → Int | .mk _ p _ _ _ _ _ => p
def Ex.name : Ex → Bytes | .mk _ _ n _ _ _ _ => n
def Ex.num : Ex → Int | .mk _ _ _ m _ _ _ => m
def Ex.kids : Ex → List Ex | .mk _ _ _ _ ks _ _ => ks
def Ex.aK : Ex → List Ar | .mk _ _ _ _ _ a _ => a
def Ex.ty : Ex → Ty | .mk _ _ _ _ _ _ t => t
def Ar.pos : Ar → Int | .mk p _ _ _ => p
def Ar.bQ : Ar → Bytes | .mk _ c _ _ => c
def Ar.vars : Ar → List Bytes | .mk _ _ v _ => v
def Ar.body : Ar → Ex | .mk _ _ _ b => b
def pQ : Ex := .mk 0 0 [] 0 [] [] bX
def posOf (l : List Tok) (i : Nat) : Int := match l[i]? with
 | some t => t.pos
 | none => 0
def cA (l : List Tok) (i : Nat) (w : Bytes) : Bool := df l i 4 w
def nameAt (l : List Tok) (i : Nat) (k : Int) : Option Bytes := match l[i]? with
 | some t => if t.kind = k then some t.text else none
 | none => none
def lowers : List Tok → List Bytes
 | [] => []
 | t :: r => if t.kind = 1 then t.text :: lowers r else []
def numOf (s : Bytes) : Int := s.foldl (fun n c => 10 * n + (c.toNat - 48 : Int)) 0
def kS (t : Tok) : Bool := decide (t.kind = 1) || decide (t.kind = 2) || decide (t.kind = 3) || (decide (t.kind = 5) && (decide (t.text = [63]) || decide (t.text = [40]) || decide (t.text = [123])))
def mu (l : List Tok) (i : Nat) : Bool := match l[i]? with
 | some t => kS t
 | none => false
def dI : Bytes := [108, 101, 116]
def fy : Bytes := [114, 101, 99]
def iC : Bytes := [105, 110]
def kC : Bytes := [99, 97, 115, 101]
def kP : Bytes := [111, 102]
def iD : Bytes := [101, 110, 100]
def cN (k p : Int) (n : Bytes) (m : Int) : Ex := .mk k p n m [] [] bX
def bC (k p : Int) (n : Bytes) (ks : List Ex) : Ex := .mk k p n 0 ks [] bX
def eS (p : Int) (e : Ex) (az : List Ar) : Ex := .mk 8 p [] 0 [e] az bX
def h_ (p : Int) (e : Ex) (t : Ty) : Ex := .mk 9 p [] 0 [e] [] t
inductive EQ where
 | expr
 | atom
 | apps (e : Ex)
 | aK (p : Int) (e : Ex) (acc : List Ar)
abbrev ER := Except Int (Ex × Nat)
def EQ.ck : EQ → Nat
 | .atom => 0
 | .apps _ => 1
 | .aK _ _ _ => 1
 | .expr => 2
def fB (l : List Tok) (q : EQ) (i : Nat) : Nat := 4 * (l.length - i) + q.ck
def j8 (l : List Tok) (f : EQ → Nat → ER) (kind p : Int) (j : Nat) : ER := match nameAt l j 1 with
 | none => .error (bH l j)
 | some n => if bB l (j + 1) [61] then match f .expr (j + 2) with
   | .error p => .error p
   | .ok (a, k) => if cA l k iC then match f .expr (k + 1) with
     | .error p => .error p
     | .ok (b, m) => .ok (bC kind p n [a, b], m)
    else .error (bH l k)
  else .error (bH l (j + 1))
def dM (l : List Tok) (f : EQ → Nat → ER) : EQ → Nat → ER
 | .expr, i =>
  if bB l i [92] then match nameAt l (i + 1) 1 with
   | none => .error (bH l (i + 1))
   | some n => if bB l (i + 2) [46] then match f .expr (i + 3) with
     | .error p => .error p
     | .ok (b, k) => .ok (bC 4 (posOf l i) n [b], k)
    else .error (bH l (i + 2))
  else if cA l i dI then (if cA l (i + 1) fy then j8 l f 7 (posOf l i) (i + 2) else j8 l f 6 (posOf l i) (i + 1))
  else if cA l i kC then match f .expr (i + 1) with
   | .error p => .error p
   | .ok (e, j) => if cA l j kP then f (.aK (posOf l i) e []) (j + 1) else .error (bH l j)
  else match f .atom i with
   | .error p => .error p
   | .ok (e, j) => f (.apps e) j
 | .apps e, i => if mu l i then match f .atom i with
   | .error p => .error p
   | .ok (a, j) => f (.apps (bC 5 e.pos [] [e, a])) j
  else .ok (e, i)
 | .aK p e acc, i => match nameAt l i 2 with
  | none => .error (bH l i)
  | some c => if bB l (i + 1 + (lowers (l.drop (i + 1))).length) [46] then match f .expr (i + 1 + (lowers (l.drop (i + 1))).length + 1) with
    | .error p => .error p
    | .ok (b, m) => if bB l m [124] then f (.aK p e (acc ++ [.mk (posOf l i) c (lowers (l.drop (i + 1))) b])) (m + 1)
     else if cA l m iD then .ok (eS p e (acc ++ [.mk (posOf l i) c (lowers (l.drop (i + 1))) b]), m + 1) else .error (bH l m)
   else .error (bH l (i + 1 + (lowers (l.drop (i + 1))).length))
 | .atom, i => match l[i]? with
  | none => .error (bH l i)
  | some t => if t.kind = 1 then .ok (cN 1 t.pos t.text 0, i + 1) else if t.kind = 2 then .ok (cN 2 t.pos t.text 0, i + 1) else if t.kind = 3 then .ok (cN 3 t.pos [] (numOf t.text), i + 1)
   else if t.kind = 5 ∧ t.text = [63] then .ok (cN 10 t.pos [] 0, i + 1)
   else if t.kind = 5 ∧ t.text = [123] then match f .expr (i + 1) with
    | .error p => .error p
    | .ok (x, j) => if bB l j [125] then .ok (bC 11 t.pos [] [x], j + 1) else .error (bH l j)
   else if t.kind = 5 ∧ t.text = [40] then match f .expr (i + 1) with
    | .error p => .error p
    | .ok (x, j) => if bB l j [58] then match a_ l .whole (j + 1) with
      | .error p => .error p
      | .ok (y, k) => if bB l k [41] then .ok (h_ t.pos x y, k + 1) else .error (bH l k)
     else if bB l j [41] then .ok (x, j + 1) else .error (bH l j)
   else .error (bH l i)
def iZ (l : List Tok) (f : EQ → Nat → ER) (q : EQ) (i : Nat) (q' : EQ) (i' : Nat) : ER := if fB l q' i' < fB l q i then f q' i' else .error 0
def pH (l : List Tok) : Nat → EQ → Nat → ER
 | 0, _, _ => .error 0
 | n + 1, q, i => dM l (iZ l (pH l n) q i) q i
theorem Rt {l : List Tok} : ∀ (n m : Nat) (q : EQ) (i : Nat), fB l q i < n → fB l q i < m → pH l n q i = pH l m q i
 | 0, _, _, _, h, _ => by omega
 | _ + 1, 0, _, _, _, h => by omega
 | n + 1, m + 1, q, i, h, h' => by
  have : iZ l (pH l n) q i = iZ l (pH l m) q i := by
   funext q' i'
   unfold iZ
   by_cases hlt : fB l q' i' < fB l q i
   ·rw [if_pos hlt, if_pos hlt]; exact Rt n m q' i' oM oM
   ·rw [if_neg hlt, if_neg hlt]
  show dM l (iZ l (pH l n) q i) q i = dM l (iZ l (pH l m) q i) q i
  rw [this]
def bt (l : List Tok) (q : EQ) (i : Nat) : ER := pH l (fB l q i + 1) q i
theorem zt (l : List Tok) (q : EQ) (i : Nat) : bt l q i = dM l (iZ l (bt l) q i) q i := by
 have : iZ l (pH l (fB l q i)) q i = iZ l (bt l) q i := by
  funext q' i'
  unfold iZ
  by_cases hlt : fB l q' i' < fB l q i
  ·rw [if_pos hlt, if_pos hlt]; exact Rt _ _ q' i' hlt oM
  ·rw [if_neg hlt, if_neg hlt]
 show dM l (iZ l (pH l (fB l q i)) q i) q i = _
 rw [this]
theorem qA {l : List Tok} {q q' : EQ} {i i' : Nat} (h : i < l.length) (h' : i < i') : iZ l (bt l) q i q' i' = bt l q' i' := if_pos (by
 have h1 : q'.ck ≤ 2 := by cases q' <;> simp [EQ.ck]
 unfold fB
 omega)
theorem Ru {l : List Tok} {q q' : EQ} {i : Nat} (h : q'.ck < q.ck) : iZ l (bt l) q i q' i = bt l q' i := if_pos (by unfold fB; omega)
end Go.Th


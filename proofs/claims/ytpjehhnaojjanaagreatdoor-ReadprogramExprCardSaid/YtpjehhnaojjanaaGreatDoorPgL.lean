/- The walk of typedholesmake's Tape.Raw: it makes expressions that can be written, with short texts. Printed by mkraw.py. -/
import Derived.Test.YtpjehhnaojjanaaGreatDoorK13
import Derived.Test.YtpjehhnaojjanaaGreatDoorK9
namespace Go.Proofs.YtpjehhnaojjanaaGreatDoor
open Go Go.Eng Go.Th Go.Proofs
set_option maxRecDepth 10000
set_option maxHeartbeats 4000000
attribute [local irreducible] wpList Code.wp Run bodyPost Go.Eng.Ends Exit.then Exit.inBlock Again Wq Kq
structure RwE (g : Ghost) (codes : List Int) (lv : Value) (ds : List Da) (dv : Value) : Prop where
 c : SlAt g 1 lv codes.length (codes.map (Value.int .i64))
 hc : codes.length ≤ 1000000
 d : ∃ xd, SlAt g 4 dv ds.length xd ∧ AllAt (DaAt g) ds xd
 dn : ds.length ≤ 8
 dg : ∀ d ∈ ds, gdD d ∧ gcD d
theorem RwE.mono {g g' : Ghost} (hle : Ghost.le g g') {codes : List Int} {lv : Value} {ds : List Da} {dv : Value} (h : RwE g codes lv ds dv) : RwE g' codes lv ds dv := by
 obtain ⟨h1, h2, ⟨xd, h3, h4⟩, h5, h6⟩ := h
 exact ⟨h1.mono hle, h2, ⟨xd, h3.mono hle, das_mono hle h4⟩, h5, h6⟩
theorem RwE.tp {g : Ghost} {codes : List Int} {lv : Value} {ds : List Da} {dv : Value} (h : RwE g codes lv ds dv) : TpE g codes lv ds dv [] (.slice none 0 0) :=
 ⟨h.c, h.hc, h.d, h.dn, fun d hd => (h.dg d hd).1, ⟨[], slNil g 5, tysNil g⟩, by simp, fun t h => by cases h⟩
def rwPost (codes : List Int) (b : Nat) (lv : Value) (d : Nat) (v : Value) (g' : Ghost) (r' : Res) : Prop := ∃ (e : Ex) (i' : Nat), ExV g' v e ∧ GoodE e ∧ (showE e).length ≤ bE d ∧ r' = tpB b lv i' ∧ i' ≤ codes.length
theorem funS_len (e : Ex) : (funS e).length ≤ (showE e).length + 2 := by
 unfold funS paren
 split <;> simp
theorem argS_len (e : Ex) : (argS e).length ≤ (showE e).length + 2 := by
 unfold argS paren
 split <;> simp
theorem showVars_len (vs : List Bytes) (h : ∀ v ∈ vs, v.length ≤ 2) : (showVars vs).length ≤ 3 * vs.length := by
 induction vs with
 | nil => simp [showVars]
 | cons v r ih =>
  have h1 := ih (fun x hx => h x (List.mem_cons_of_mem _ hx))
  have h2 := h v (List.mem_cons_self ..)
  simp only [showVars, List.flatMap_cons, List.length_append, List.length_cons] at h1 ⊢
  omega
def smallA (B : Nat) (a : Ar) : Prop := a.con.length ≤ 5 ∧ (∀ v ∈ a.vars, v.length ≤ 2) ∧ a.vars.length ≤ 2 ∧ (showE a.body).length ≤ B
theorem showAr_len {B : Nat} {a : Ar} (h : smallA B a) : (showAr a).length ≤ 13 + B := by
 obtain ⟨h1, h2, h3, h4⟩ := h
 cases a with
 | mk p c vs b =>
  have h5 := showVars_len vs h2
  simp only [Ar.con, Ar.vars, Ar.body] at h1 h3 h4
  simp only [showAr, List.length_append, List.length_cons, List.length_nil]
  omega
theorem showMore_len {B : Nat} : ∀ (l : List Ar), (∀ a ∈ l, smallA B a) → (showMore l).length ≤ l.length * (16 + B)
 | [], _ => by simp [showMore]
 | a :: r, h => by
  have h1 := showMore_len r (fun x hx => h x (List.mem_cons_of_mem _ hx))
  have h2 := showAr_len (h a (List.mem_cons_self ..))
  simp only [showMore, List.length_append, List.length_cons, List.length_nil, Nat.add_mul]
  omega
theorem showArms_len {B : Nat} (l : List Ar) (hn : 1 ≤ l.length) (h : ∀ a ∈ l, smallA B a) : (showArms l).length + 3 ≤ l.length * (16 + B) := by
 cases l with
 | nil => simp at hn
 | cons a r =>
  have h1 := showMore_len r (fun x hx => h x (List.mem_cons_of_mem _ hx))
  have h2 := showAr_len (h a (List.mem_cons_self ..))
  simp only [showArms, List.length_append, List.length_cons, Nat.add_mul]
  omega
theorem TRaw_step (codes : List Int) (b d : Nat) (hd : d ≤ 1000)
  (hI : ∀ d', d = d' + 1 → ∀ g i lv ds dv, RwE g codes lv ds dv → i ≤ codes.length → SpecL Tryz.prog 29 [ptr b 0, dv, .int .i64 d'] g (tpB b lv i) (rwPost codes b lv d'))
  (g : Ghost) (i : Nat) (lv : Value) (ds : List Da) (dv : Value) (hE0 : RwE g codes lv ds dv) (hi : i ≤ codes.length) :
  SpecL Tryz.prog 29 [ptr b 0, dv, .int .i64 d] g (tpB b lv i) (rwPost codes b lv d) := by
 obtain ⟨xd, hd1, hd2⟩ := hE0.d
 have hb5 := bE_ge d
 have hdn := hE0.dn
 obtain ⟨da, dc, rfl⟩ := slForm2 hd1
 refine spec_of_run Tryz.func29 rfl Tryz.ntmps29 rfl fun E hE => ?_
 refine r_sr ?_
 refine r_alloc rfl (fun b6 => ?_)
 refine r_nn <| r_sr <| r_ev rfl rfl ?_
 refine r_callL 1 rfl rfl rfl (Next_spec g codes hE0.hc lv hE0.c b i hi 14 (by omega)) ?_
 rintro v g1 r' ⟨rfl, k, i1, rfl, hk1, hk2, rfl, hi1⟩ _
 refine r_ev rfl rfl <| r_nn ?_
 refine r_cutG (ι := Int) (fun p => [(0, ptr b 0), (1, .slice da ds.length dc), (2, .int .i64 d), (6, ptr b6 0), (7, .int .i64 p)]) (fun _ => g1)
  (fun _ => [.blk b6 51 noEc, tpB b lv i1]) (fun p => 0 ≤ p ∧ p < 14 ∧ (5 ≤ p → 1 ≤ d)) ?_ ?_
 ·intro p hp
  obtain ⟨p0, p1, p2⟩ := hp
  show Run E _ [(0, ptr b 0), (1, .slice da ds.length dc), (2, .int .i64 d), (6, ptr b6 0), (7, .int .i64 p)] g1 [.blk b6 51 noEc, tpB b lv i1] _
  have hcase : p = 0 ∨ p = 1 ∨ p = 2 ∨ p = 3 ∨ p = 4 ∨ p = 5 ∨ p = 6 ∨ p = 7 ∨ p = 8 ∨ p = 9 ∨ p = 10 ∨ p = 11 ∨ p = 12 ∨ p = 13 := by omega
  rcases hcase with rfl | rfl | rfl | rfl | rfl | rfl | rfl | rfl | rfl | rfl | rfl | rfl | rfl | rfl
  ·
   refine r_seq <| r_sr <| r_ev rfl rfl <| r_nn <| r_block <| r_seq <| r_sr <| r_ev rfl rfl <| r_ev rfl rfl <| r_nn <| r_cond_true rfl <| r_skip <| r_then_normal <| r_cond_true rfl ?_; refine r_sr <| r_ev rfl rfl ?_
   refine r_callL 1 rfl rfl rfl (Variable_spec g1 codes hE0.hc lv hE0.c b i1 hi1) ?_
   rintro v g2 r' ⟨rfl, n, i2, rfl, n1, n2, rfl, hi2⟩ _
   refine r_build rfl rfl (by rfl) ?_; refine r_storeA 0 rfl rfl rfl rfl (by rfl) (by repeat' (first | exact rfl | assumption | refine all_cons ?_ ?_)) rfl ?_; refine r_nn <| r_retc <| r_in_ret <| r_then_ret ?_
   exact r_retA [_] rfl (res_blk 0 rfl rfl (by rfl)) (.cons _ (List.Sublist.refl _)) ⟨_, rfl, leafE 1 0 n 0, i2, leafE_V g2 1 0 n 0, .var 0 n n1, by rw [showE_var]; omega, rfl, hi2⟩
  ·
   refine r_seq <| r_sr <| r_ev rfl rfl <| r_nn <| r_block <| r_seq <| r_sr <| r_ev rfl rfl <| r_ev rfl rfl <| r_nn <| r_cond_false rfl <| r_region <| r_ev rfl rfl <| r_ev rfl rfl ?_; refine r_nn <| r_cond_true rfl <| r_sr <| r_ev rfl rfl ?_
   refine r_callL 1 rfl rfl rfl (Variable_spec g1 codes hE0.hc lv hE0.c b i1 hi1) ?_
   rintro v g2 r' ⟨rfl, n, i2, rfl, n1, n2, rfl, hi2⟩ _
   refine r_build rfl rfl (by rfl) ?_; refine r_storeA 0 rfl rfl rfl rfl (by rfl) (by repeat' (first | exact rfl | assumption | refine all_cons ?_ ?_)) rfl ?_; refine r_nn <| r_retc <| r_in_ret <| r_then_ret ?_
   exact r_retA [_] rfl (res_blk 0 rfl rfl (by rfl)) (.cons _ (List.Sublist.refl _)) ⟨_, rfl, leafE 1 0 n 0, i2, leafE_V g2 1 0 n 0, .var 0 n n1, by rw [showE_var]; omega, rfl, hi2⟩
  ·
   refine r_seq <| r_sr <| r_ev rfl rfl <| r_nn <| r_block <| r_seq <| r_sr <| r_ev rfl rfl <| r_ev rfl rfl <| r_nn <| r_cond_false rfl <| r_region <| r_ev rfl rfl <| r_ev rfl rfl ?_; refine r_nn <| r_cond_false rfl <| r_sr <| r_ev rfl rfl <| r_ev rfl rfl <| r_nn <| r_cond_true rfl <| r_sr <| r_ev rfl rfl ?_
   refine r_callL 1 rfl rfl rfl (Next_spec g1 codes hE0.hc lv hE0.c b i1 hi1 4 (by omega)) ?_
   rintro v g2 r' ⟨rfl, q, i2, rfl, hq1, hq2, rfl, hi2⟩ _
   obtain ⟨m, rfl⟩ : ∃ m : Nat, q = m := ⟨q.toNat, by omega⟩
   refine r_build rfl rfl (by rfl) ?_; refine r_storeA 0 rfl rfl rfl rfl (by rfl) (by repeat' (first | exact rfl | assumption | refine all_cons ?_ ?_)) rfl ?_; refine r_nn <| r_retc <| r_in_ret <| r_then_ret ?_
   exact r_retA [_] rfl (res_blk 0 rfl rfl (by rfl)) (.cons _ (List.Sublist.refl _)) ⟨_, rfl, leafE 3 0 [] m, i2, leafE_V g2 3 0 [] m, .int 0 m (by omega), by rw [showE_int]; simp; omega, rfl, hi2⟩
  ·
   refine r_seq <| r_sr <| r_ev rfl rfl <| r_nn <| r_block <| r_seq <| r_sr <| r_ev rfl rfl <| r_ev rfl rfl <| r_nn <| r_cond_false rfl <| r_region <| r_ev rfl rfl <| r_ev rfl rfl ?_; refine r_nn <| r_cond_false rfl <| r_sr <| r_ev rfl rfl <| r_ev rfl rfl <| r_nn <| r_cond_false rfl <| r_sr <| r_ev rfl rfl <| r_ev rfl rfl <| r_nn <| r_cond_true rfl <| r_seq <| r_sr ?_; refine r_ev rfl rfl <| r_len_sl rfl rfl <| r_ev rfl rfl <| r_nn ?_
   refine r_cond rfl (fun h0 => ?_) (fun h0 => ?_)
   ·have hl0 : 0 < ds.length := by omega
    refine r_sr <| r_ev rfl rfl <| r_ev rfl rfl <| r_ev rfl rfl <| r_len_sl rfl rfl ?_
    refine r_callL 1 rfl rfl rfl (Next_spec g1 codes hE0.hc lv hE0.c b i1 hi1 ds.length (by omega)) ?_
    rintro v g2 r' ⟨rfl, q, i2, rfl, hq1, hq2, rfl, hi2⟩ _
    have hq : q.toNat < ds.length := by omega
    obtain ⟨b0, off, cap, hsl, hx⟩ := hd1.held hq
    cases hsl
    obtain ⟨cs, e1, hr⟩ := all_rd (fun _ _ h => h.one.1) hd2 hx hq
    obtain ⟨_, n1, n2, n3⟩ := hE0.dg _ (List.getElem_mem hq)
    generalize ds[q.toNat] = dd at e1 n1 n2 n3
    obtain ⟨a1, c1, a2, c2, xc, rfl, _, hc1, hc2⟩ := e1.form
    skip
    refine r_indexAddr (j := q.toNat) rfl rfl rfl (by omega) hq ?_
    refine r_load rfl rfl (hr _) rfl ?_
    refine r_alloc rfl (fun b8 => ?_)
    refine r_storeA 0 rfl rfl rfl rfl (by rfl) (by repeat' (first | exact rfl | assumption | refine all_cons ?_ ?_)) rfl ?_; refine r_nn <| r_seq ?_
    obtain ⟨bb, oo, cp, hsl2, hx2⟩ := hc1.held (show 0 < dd.cons.length by omega)
    cases hsl2
    skip
    refine h_beginE [2, 1] mixed (fun hG => ?_)
    refine h_takeXA 0 rfl (by kernel_rfl) rfl hG ?_; refine ⟨_, (val_fieldAddr rfl), ?_⟩; refine h_takeXA 1 rfl (by kernel_rfl) rfl hG ?_; refine ⟨_, (val_loadB1 0 rfl rfl rfl), ?_⟩; refine h_takeXA 2 rfl (by kernel_rfl) rfl hG ?_; refine ⟨_, (val_ev rfl), ?_⟩; refine h_takeXA 3 rfl (by kernel_rfl) rfl hG ?_; refine ⟨_, (val_fieldAddr rfl), ?_⟩; refine h_takeXA 4 rfl (by kernel_rfl) rfl hG ?_; refine ⟨_, (val_loadB1 0 rfl rfl rfl), ?_⟩; refine h_takeXA 5 rfl (by kernel_rfl) rfl hG ?_; refine ⟨_, (val_len_sl rfl), ?_⟩
    refine h_one 6 (by kernel_rfl) rfl ?_
    refine r_callL 2 rfl rfl rfl (Next_spec g2 codes hE0.hc lv hE0.c b i2 hi2 dd.cons.length (by omega)) ?_
    rintro v g3 r' ⟨rfl, q2, i3, rfl, hq3, hq4, rfl, hi3⟩ _
    have hq' : q2.toNat < dd.cons.length := by omega
    obtain ⟨cc, e2, hr2⟩ := all_rd (fun _ _ h => h.one.1) hc2 hx2 hq'
    obtain ⟨k1, k2, k3⟩ := n3 _ (List.getElem_mem hq')
    generalize dd.cons[q2.toNat] = c0 at e2 k1 k2 k3
    obtain ⟨a4, c4, xf, rfl, _, _⟩ := e2.form
    have hr1 : ∀ own, Rd g3 own bb (oo + q2.toNat * 3 + 1) [str c0.name] := fun own => (hr2 own).at1 1 rfl
    refine r_nn ?_
    refine h_keptA hG ?_
    refine h_takeXA 7 rfl (by kernel_rfl) rfl hG ⟨_, (val_indexAddr (j := q2.toNat) rfl rfl (by omega) hq'), ?_⟩
    refine h_takeXA 8 rfl (by kernel_rfl) rfl hG ?_; refine ⟨_, (val_fieldAddr rfl), ?_⟩
    refine h_takeXA 9 rfl (by kernel_rfl) rfl hG ⟨_, (val_load1 rfl (hr1 _)), ?_⟩
    refine h_takeXA 10 rfl (by kernel_rfl) rfl hG ?_; refine ⟨_, (val_build rfl (by rfl)), ?_⟩
    refine h_one 11 (by kernel_rfl) rfl ?_
    refine r_storeA 1 rfl rfl rfl rfl (by rfl) (by repeat' (first | exact rfl | assumption | refine all_cons ?_ ?_)) rfl ?_; refine r_nn ?_
    refine h_keptA hG ?_
    refine h_done (by kernel_rfl) ?_
    refine r_then_normal <| r_retc <| r_then_ret <| r_in_ret <| r_then_ret ?_
    exact r_retA [_] rfl (res_blk 1 rfl rfl (by rfl)) (.cons _ (.cons _ (List.Sublist.refl _))) ⟨_, rfl, leafE 2 0 c0.name 0, i3, leafE_V g3 2 0 c0.name 0, .con 0 _ k1, by rw [showE_con]; omega, rfl, hi3⟩
   ·refine r_skip <| r_then_normal <| r_sr <| r_build rfl rfl (by rfl) ?_; refine r_storeA 0 rfl rfl rfl rfl (by rfl) (by repeat' (first | exact rfl | assumption | refine all_cons ?_ ?_)) rfl ?_; refine r_nn <| r_retc <| r_in_ret <| r_then_ret ?_
    exact r_retA [_] rfl (res_blk 0 rfl rfl (by rfl)) (.cons _ (List.Sublist.refl _)) ⟨_, rfl, leafE 2 0 [71, 111, 110, 101] 0, i1, leafE_V g1 2 0 [71, 111, 110, 101] 0, .con 0 _ (by decide), by rw [showE_con]; simp; omega, rfl, hi1⟩
  ·
   refine r_seq <| r_sr <| r_ev rfl rfl <| r_nn <| r_block <| r_seq <| r_sr <| r_ev rfl rfl <| r_ev rfl rfl <| r_nn <| r_cond_false rfl <| r_region <| r_ev rfl rfl <| r_ev rfl rfl ?_; refine r_nn <| r_cond_false rfl <| r_sr <| r_ev rfl rfl <| r_ev rfl rfl <| r_nn <| r_cond_false rfl <| r_sr <| r_ev rfl rfl <| r_ev rfl rfl <| r_nn <| r_cond_false rfl <| r_sr <| r_ev rfl rfl ?_; refine r_ev rfl rfl <| r_nn <| r_cond_true rfl <| r_sr <| r_build rfl rfl (by rfl) ?_; refine r_storeA 0 rfl rfl rfl rfl (by rfl) (by repeat' (first | exact rfl | assumption | refine all_cons ?_ ?_)) rfl ?_; refine r_nn <| r_retc <| r_in_ret <| r_then_ret ?_
   exact r_retA [_] rfl (res_blk 0 rfl rfl (by rfl)) (.cons _ (List.Sublist.refl _)) ⟨_, rfl, leafE 10 0 [] 0, i1, leafE_V g1 10 0 [] 0, .hole 0, by rw [showE_hole]; simp; omega, rfl, hi1⟩
  ·
   obtain ⟨d', rfl⟩ : ∃ d', d = d' + 1 := ⟨d - 1, by omega⟩
   have ih := hI d' rfl
   have hbd : bE (d' + 1) = 3 * bE d' + 43 := rfl
   have hb5' := bE_ge d'
   refine r_seq <| r_sr <| r_ev rfl rfl <| r_nn <| r_block <| r_seq <| r_sr <| r_ev rfl rfl <| r_ev rfl rfl <| r_nn <| r_cond_false rfl <| r_region <| r_ev rfl rfl <| r_ev rfl rfl ?_; refine r_nn <| r_cond_false rfl <| r_sr <| r_ev rfl rfl <| r_ev rfl rfl <| r_nn <| r_cond_false rfl <| r_sr <| r_ev rfl rfl <| r_ev rfl rfl <| r_nn <| r_cond_false rfl <| r_sr <| r_ev rfl rfl ?_; refine r_ev rfl rfl <| r_nn <| r_cond_false rfl <| r_seq <| r_sr <| r_ev rfl rfl <| r_ev rfl rfl <| r_nn <| r_cond_true rfl <| r_skip <| r_then_normal <| r_cond_true rfl <| r_sr <| r_ev rfl rfl ?_
   refine r_callL 1 rfl rfl rfl (Variable_spec g1 codes hE0.hc lv hE0.c b i1 hi1) ?_
   rintro v g2 r' ⟨rfl, n, i2, rfl, n1, n2, rfl, hi2⟩ _
   refine r_ev rfl rfl <| r_ev rfl rfl <| r_ev rfl rfl <| r_sub_ rfl rfl rfl (by omega) ?_
   rw [show ((d' + 1 : Nat) : Int) - 1 = (d' : Int) by omega]
   refine r_callL 1 rfl rfl rfl (ih g2 i2 lv ds _ hE0 hi2) ?_
   rintro w g2 r' ⟨x, i3, hx, gx, lx, rfl, hi3⟩ hle2
   obtain ⟨a1, m1, c1, a2, m2, c2, a3, m3, c3, rfl, hx'⟩ := hx.form
   skip
   refine r_buildSlice rfl rfl (by rfl) (by rfl) (by rfl) (by rfl) (by rfl) (fun b41 => ?_)
   refine r_publishRow (fun g3 hle3 hs3 => ?_)
   refine r_build rfl rfl (by rfl) ?_; refine r_storeA 0 rfl rfl rfl rfl (by rfl) (by repeat' (first | exact rfl | assumption | refine all_cons ?_ ?_)) rfl ?_; refine r_nn <| r_retc <| r_in_ret <| r_then_ret ?_
   exact r_retA [_] rfl (res_blk 0 rfl rfl (by rfl)) (.cons _ (List.Sublist.refl _)) ⟨_, rfl, kidsE 4 0 n [x], i3, kidsE_V g3 4 0 n hs3 (exs1 (hx'.mono hle3)), .lam 0 n x n1 gx, by rw [showE_lam]; simp; omega, rfl, hi3⟩
  ·
   obtain ⟨d', rfl⟩ : ∃ d', d = d' + 1 := ⟨d - 1, by omega⟩
   have ih := hI d' rfl
   have hbd : bE (d' + 1) = 3 * bE d' + 43 := rfl
   have hb5' := bE_ge d'
   refine r_seq <| r_sr <| r_ev rfl rfl <| r_nn <| r_block <| r_seq <| r_sr <| r_ev rfl rfl <| r_ev rfl rfl <| r_nn <| r_cond_false rfl <| r_region <| r_ev rfl rfl <| r_ev rfl rfl ?_; refine r_nn <| r_cond_false rfl <| r_sr <| r_ev rfl rfl <| r_ev rfl rfl <| r_nn <| r_cond_false rfl <| r_sr <| r_ev rfl rfl <| r_ev rfl rfl <| r_nn <| r_cond_false rfl <| r_sr <| r_ev rfl rfl ?_; refine r_ev rfl rfl <| r_nn <| r_cond_false rfl <| r_seq <| r_sr <| r_ev rfl rfl <| r_ev rfl rfl <| r_nn <| r_cond_false rfl <| r_region <| r_ev rfl rfl <| r_ev rfl rfl <| r_nn <| r_cond_true rfl ?_; refine r_sr <| r_ev rfl rfl ?_
   refine r_callL 1 rfl rfl rfl (Variable_spec g1 codes hE0.hc lv hE0.c b i1 hi1) ?_
   rintro v g2 r' ⟨rfl, n, i2, rfl, n1, n2, rfl, hi2⟩ _
   refine r_ev rfl rfl <| r_ev rfl rfl <| r_ev rfl rfl <| r_sub_ rfl rfl rfl (by omega) ?_
   rw [show ((d' + 1 : Nat) : Int) - 1 = (d' : Int) by omega]
   refine r_callL 1 rfl rfl rfl (ih g2 i2 lv ds _ hE0 hi2) ?_
   rintro w g2 r' ⟨x, i3, hx, gx, lx, rfl, hi3⟩ hle2
   obtain ⟨a1, m1, c1, a2, m2, c2, a3, m3, c3, rfl, hx'⟩ := hx.form
   skip
   refine r_buildSlice rfl rfl (by rfl) (by rfl) (by rfl) (by rfl) (by rfl) (fun b41 => ?_)
   refine r_publishRow (fun g3 hle3 hs3 => ?_)
   refine r_build rfl rfl (by rfl) ?_; refine r_storeA 0 rfl rfl rfl rfl (by rfl) (by repeat' (first | exact rfl | assumption | refine all_cons ?_ ?_)) rfl ?_; refine r_nn <| r_retc <| r_in_ret <| r_then_ret ?_
   exact r_retA [_] rfl (res_blk 0 rfl rfl (by rfl)) (.cons _ (List.Sublist.refl _)) ⟨_, rfl, kidsE 4 0 n [x], i3, kidsE_V g3 4 0 n hs3 (exs1 (hx'.mono hle3)), .lam 0 n x n1 gx, by rw [showE_lam]; simp; omega, rfl, hi3⟩
  ·
   obtain ⟨d', rfl⟩ : ∃ d', d = d' + 1 := ⟨d - 1, by omega⟩
   have ih := hI d' rfl
   have hbd : bE (d' + 1) = 3 * bE d' + 43 := rfl
   have hb5' := bE_ge d'
   refine r_seq <| r_sr <| r_ev rfl rfl <| r_nn <| r_block <| r_seq <| r_sr <| r_ev rfl rfl <| r_ev rfl rfl <| r_nn <| r_cond_false rfl <| r_region <| r_ev rfl rfl <| r_ev rfl rfl ?_; refine r_nn <| r_cond_false rfl <| r_sr <| r_ev rfl rfl <| r_ev rfl rfl <| r_nn <| r_cond_false rfl <| r_sr <| r_ev rfl rfl <| r_ev rfl rfl <| r_nn <| r_cond_false rfl <| r_sr <| r_ev rfl rfl ?_; refine r_ev rfl rfl <| r_nn <| r_cond_false rfl <| r_seq <| r_sr <| r_ev rfl rfl <| r_ev rfl rfl <| r_nn <| r_cond_false rfl <| r_region <| r_ev rfl rfl <| r_ev rfl rfl <| r_nn <| r_cond_false rfl ?_; refine r_seq <| r_sr <| r_ev rfl rfl <| r_ev rfl rfl <| r_nn <| r_cond_true rfl <| r_skip <| r_then_normal <| r_cond_true rfl <| r_sr <| r_ev rfl rfl <| r_ev rfl rfl <| r_ev rfl rfl <| r_sub_ rfl rfl rfl (by omega) ?_
   rw [show ((d' + 1 : Nat) : Int) - 1 = (d' : Int) by omega]
   refine r_callL 1 rfl rfl rfl (ih g1 i1 lv ds _ hE0 hi1) ?_
   rintro w g2 r' ⟨x, i3, hx, gx, lx, rfl, hi3⟩ hle2
   obtain ⟨a1, m1, c1, a2, m2, c2, a3, m3, c3, rfl, hx'⟩ := hx.form
   skip
   refine r_alloc rfl (fun b9 => ?_)
   refine r_storeA 0 rfl rfl rfl rfl (by rfl) (by repeat' (first | exact rfl | assumption | refine all_cons ?_ ?_)) rfl ?_; refine r_nn <| r_seq ?_
   -- the argument
   refine h_beginE [2, 1] mixed (fun hG => ?_)
   refine h_takeXA 0 rfl (by kernel_rfl) rfl hG ?_; refine ⟨_, (val_loadB 0 rfl rfl (by rfl)), ?_⟩; refine h_takeXA 1 rfl (by kernel_rfl) rfl hG ?_; refine ⟨_, (val_ev rfl), ?_⟩; refine h_takeXA 2 rfl (by kernel_rfl) rfl hG ?_; refine ⟨_, (val_ev rfl), ?_⟩; refine h_takeXA 3 rfl (by kernel_rfl) rfl hG ?_; refine ⟨_, (val_ev rfl), ?_⟩
   refine h_takeXA 4 rfl (by kernel_rfl) rfl hG ⟨_, (val_sub_ rfl rfl (by omega)), ?_⟩
   refine h_one 5 (by kernel_rfl) rfl ?_
   rw [show ((d' + 1 : Nat) : Int) - 1 = (d' : Int) by omega]
   refine r_callL 2 rfl rfl rfl (ih g2 i3 lv ds _ (hE0.mono hle2) hi3) ?_
   rintro w2 g3 r' ⟨y, i4, hy, gy, ly, rfl, hi4⟩ hle3
   obtain ⟨e1, f1, h1, e2, f2, h2, e3, f3, h3, rfl, hy'⟩ := hy.form
   refine r_nn ?_
   refine h_keptA hG ?_
   refine h_one 6 (by kernel_rfl) rfl ?_
   refine r_buildSlice rfl rfl (by rfl) (by rfl) (by rfl) (by rfl) (by rfl) (fun b41 => ?_)
   refine r_publishRow (fun g4 hle4 hs4 => ?_)
   have hle24 := Ghost.le_trans hle3 hle4
   refine r_nn ?_
   refine h_keptA hG ?_
   refine h_one 7 (by kernel_rfl) rfl ?_
   refine r_build rfl rfl (by rfl) ?_; refine r_nn ?_
   refine h_keptA hG ?_
   refine h_one 8 (by kernel_rfl) rfl ?_
   refine r_storeA 1 rfl rfl rfl rfl (by rfl) (by repeat' (first | exact rfl | assumption | refine all_cons ?_ ?_)) rfl ?_; refine r_nn ?_
   refine h_keptA hG ?_
   refine h_done (by kernel_rfl) ?_
   refine r_then_normal <| r_retc <| r_in_ret <| r_then_ret ?_
   refine r_retA [_] rfl (res_blk 1 rfl rfl (by rfl)) (.cons _ (.cons _ (List.Sublist.refl _))) ⟨_, rfl, kidsE 5 0 [] [x, y], i4, kidsE_V g4 5 0 [] hs4 (exs2 ((hx'.mono hle3).mono hle4) (hy'.mono hle4)), .app 0 x y gx gy, ?_, rfl, hi4⟩
   have e1 := funS_len x
   have e2 := argS_len y
   rw [showE_app]
   simp only [List.length_append, List.length_cons]
   omega
  ·
   obtain ⟨d', rfl⟩ : ∃ d', d = d' + 1 := ⟨d - 1, by omega⟩
   have ih := hI d' rfl
   have hbd : bE (d' + 1) = 3 * bE d' + 43 := rfl
   have hb5' := bE_ge d'
   refine r_seq <| r_sr <| r_ev rfl rfl <| r_nn <| r_block <| r_seq <| r_sr <| r_ev rfl rfl <| r_ev rfl rfl <| r_nn <| r_cond_false rfl <| r_region <| r_ev rfl rfl <| r_ev rfl rfl ?_; refine r_nn <| r_cond_false rfl <| r_sr <| r_ev rfl rfl <| r_ev rfl rfl <| r_nn <| r_cond_false rfl <| r_sr <| r_ev rfl rfl <| r_ev rfl rfl <| r_nn <| r_cond_false rfl <| r_sr <| r_ev rfl rfl ?_; refine r_ev rfl rfl <| r_nn <| r_cond_false rfl <| r_seq <| r_sr <| r_ev rfl rfl <| r_ev rfl rfl <| r_nn <| r_cond_false rfl <| r_region <| r_ev rfl rfl <| r_ev rfl rfl <| r_nn <| r_cond_false rfl ?_; refine r_seq <| r_sr <| r_ev rfl rfl <| r_ev rfl rfl <| r_nn <| r_cond_false rfl <| r_sr <| r_ev rfl rfl <| r_ev rfl rfl <| r_nn <| r_cond_true rfl <| r_skip <| r_then_normal <| r_cond_true rfl ?_; refine r_sr <| r_ev rfl rfl <| r_ev rfl rfl <| r_ev rfl rfl <| r_sub_ rfl rfl rfl (by omega) ?_
   rw [show ((d' + 1 : Nat) : Int) - 1 = (d' : Int) by omega]
   refine r_callL 1 rfl rfl rfl (ih g1 i1 lv ds _ hE0 hi1) ?_
   rintro w g2 r' ⟨x, i3, hx, gx, lx, rfl, hi3⟩ hle2
   obtain ⟨a1, m1, c1, a2, m2, c2, a3, m3, c3, rfl, hx'⟩ := hx.form
   skip
   refine r_alloc rfl (fun b9 => ?_)
   refine r_storeA 0 rfl rfl rfl rfl (by rfl) (by repeat' (first | exact rfl | assumption | refine all_cons ?_ ?_)) rfl ?_; refine r_nn <| r_seq ?_
   -- the argument
   refine h_beginE [2, 1] mixed (fun hG => ?_)
   refine h_takeXA 0 rfl (by kernel_rfl) rfl hG ?_; refine ⟨_, (val_loadB 0 rfl rfl (by rfl)), ?_⟩; refine h_takeXA 1 rfl (by kernel_rfl) rfl hG ?_; refine ⟨_, (val_ev rfl), ?_⟩; refine h_takeXA 2 rfl (by kernel_rfl) rfl hG ?_; refine ⟨_, (val_ev rfl), ?_⟩; refine h_takeXA 3 rfl (by kernel_rfl) rfl hG ?_; refine ⟨_, (val_ev rfl), ?_⟩
   refine h_takeXA 4 rfl (by kernel_rfl) rfl hG ⟨_, (val_sub_ rfl rfl (by omega)), ?_⟩
   refine h_one 5 (by kernel_rfl) rfl ?_
   rw [show ((d' + 1 : Nat) : Int) - 1 = (d' : Int) by omega]
   refine r_callL 2 rfl rfl rfl (ih g2 i3 lv ds _ (hE0.mono hle2) hi3) ?_
   rintro w2 g3 r' ⟨y, i4, hy, gy, ly, rfl, hi4⟩ hle3
   obtain ⟨e1, f1, h1, e2, f2, h2, e3, f3, h3, rfl, hy'⟩ := hy.form
   refine r_nn ?_
   refine h_keptA hG ?_
   refine h_one 6 (by kernel_rfl) rfl ?_
   refine r_buildSlice rfl rfl (by rfl) (by rfl) (by rfl) (by rfl) (by rfl) (fun b41 => ?_)
   refine r_publishRow (fun g4 hle4 hs4 => ?_)
   have hle24 := Ghost.le_trans hle3 hle4
   refine r_nn ?_
   refine h_keptA hG ?_
   refine h_one 7 (by kernel_rfl) rfl ?_
   refine r_build rfl rfl (by rfl) ?_; refine r_nn ?_
   refine h_keptA hG ?_
   refine h_one 8 (by kernel_rfl) rfl ?_
   refine r_storeA 1 rfl rfl rfl rfl (by rfl) (by repeat' (first | exact rfl | assumption | refine all_cons ?_ ?_)) rfl ?_; refine r_nn ?_
   refine h_keptA hG ?_
   refine h_done (by kernel_rfl) ?_
   refine r_then_normal <| r_retc <| r_in_ret <| r_then_ret ?_
   refine r_retA [_] rfl (res_blk 1 rfl rfl (by rfl)) (.cons _ (.cons _ (List.Sublist.refl _))) ⟨_, rfl, kidsE 5 0 [] [x, y], i4, kidsE_V g4 5 0 [] hs4 (exs2 ((hx'.mono hle3).mono hle4) (hy'.mono hle4)), .app 0 x y gx gy, ?_, rfl, hi4⟩
   have e1 := funS_len x
   have e2 := argS_len y
   rw [showE_app]
   simp only [List.length_append, List.length_cons]
   omega
  ·
   obtain ⟨d', rfl⟩ : ∃ d', d = d' + 1 := ⟨d - 1, by omega⟩
   have ih := hI d' rfl
   have hbd : bE (d' + 1) = 3 * bE d' + 43 := rfl
   have hb5' := bE_ge d'
   refine r_seq <| r_sr <| r_ev rfl rfl <| r_nn <| r_block <| r_seq <| r_sr <| r_ev rfl rfl <| r_ev rfl rfl <| r_nn <| r_cond_false rfl <| r_region <| r_ev rfl rfl <| r_ev rfl rfl ?_; refine r_nn <| r_cond_false rfl <| r_sr <| r_ev rfl rfl <| r_ev rfl rfl <| r_nn <| r_cond_false rfl <| r_sr <| r_ev rfl rfl <| r_ev rfl rfl <| r_nn <| r_cond_false rfl <| r_sr <| r_ev rfl rfl ?_; refine r_ev rfl rfl <| r_nn <| r_cond_false rfl <| r_seq <| r_sr <| r_ev rfl rfl <| r_ev rfl rfl <| r_nn <| r_cond_false rfl <| r_region <| r_ev rfl rfl <| r_ev rfl rfl <| r_nn <| r_cond_false rfl ?_; refine r_seq <| r_sr <| r_ev rfl rfl <| r_ev rfl rfl <| r_nn <| r_cond_false rfl <| r_sr <| r_ev rfl rfl <| r_ev rfl rfl <| r_nn <| r_cond_false rfl <| r_region <| r_ev rfl rfl <| r_ev rfl rfl ?_; refine r_nn <| r_cond_true rfl <| r_sr <| r_ev rfl rfl <| r_ev rfl rfl <| r_ev rfl rfl <| r_sub_ rfl rfl rfl (by omega) ?_
   rw [show ((d' + 1 : Nat) : Int) - 1 = (d' : Int) by omega]
   refine r_callL 1 rfl rfl rfl (ih g1 i1 lv ds _ hE0 hi1) ?_
   rintro w g2 r' ⟨x, i3, hx, gx, lx, rfl, hi3⟩ hle2
   obtain ⟨a1, m1, c1, a2, m2, c2, a3, m3, c3, rfl, hx'⟩ := hx.form
   skip
   refine r_alloc rfl (fun b9 => ?_)
   refine r_storeA 0 rfl rfl rfl rfl (by rfl) (by repeat' (first | exact rfl | assumption | refine all_cons ?_ ?_)) rfl ?_; refine r_nn <| r_seq ?_
   -- the argument
   refine h_beginE [2, 1] mixed (fun hG => ?_)
   refine h_takeXA 0 rfl (by kernel_rfl) rfl hG ?_; refine ⟨_, (val_loadB 0 rfl rfl (by rfl)), ?_⟩; refine h_takeXA 1 rfl (by kernel_rfl) rfl hG ?_; refine ⟨_, (val_ev rfl), ?_⟩; refine h_takeXA 2 rfl (by kernel_rfl) rfl hG ?_; refine ⟨_, (val_ev rfl), ?_⟩; refine h_takeXA 3 rfl (by kernel_rfl) rfl hG ?_; refine ⟨_, (val_ev rfl), ?_⟩
   refine h_takeXA 4 rfl (by kernel_rfl) rfl hG ⟨_, (val_sub_ rfl rfl (by omega)), ?_⟩
   refine h_one 5 (by kernel_rfl) rfl ?_
   rw [show ((d' + 1 : Nat) : Int) - 1 = (d' : Int) by omega]
   refine r_callL 2 rfl rfl rfl (ih g2 i3 lv ds _ (hE0.mono hle2) hi3) ?_
   rintro w2 g3 r' ⟨y, i4, hy, gy, ly, rfl, hi4⟩ hle3
   obtain ⟨e1, f1, h1, e2, f2, h2, e3, f3, h3, rfl, hy'⟩ := hy.form
   refine r_nn ?_
   refine h_keptA hG ?_
   refine h_one 6 (by kernel_rfl) rfl ?_
   refine r_buildSlice rfl rfl (by rfl) (by rfl) (by rfl) (by rfl) (by rfl) (fun b41 => ?_)
   refine r_publishRow (fun g4 hle4 hs4 => ?_)
   have hle24 := Ghost.le_trans hle3 hle4
   refine r_nn ?_
   refine h_keptA hG ?_
   refine h_one 7 (by kernel_rfl) rfl ?_
   refine r_build rfl rfl (by rfl) ?_; refine r_nn ?_
   refine h_keptA hG ?_
   refine h_one 8 (by kernel_rfl) rfl ?_
   refine r_storeA 1 rfl rfl rfl rfl (by rfl) (by repeat' (first | exact rfl | assumption | refine all_cons ?_ ?_)) rfl ?_; refine r_nn ?_
   refine h_keptA hG ?_
   refine h_done (by kernel_rfl) ?_
   refine r_then_normal <| r_retc <| r_in_ret <| r_then_ret ?_
   refine r_retA [_] rfl (res_blk 1 rfl rfl (by rfl)) (.cons _ (.cons _ (List.Sublist.refl _))) ⟨_, rfl, kidsE 5 0 [] [x, y], i4, kidsE_V g4 5 0 [] hs4 (exs2 ((hx'.mono hle3).mono hle4) (hy'.mono hle4)), .app 0 x y gx gy, ?_, rfl, hi4⟩
   have e1 := funS_len x
   have e2 := argS_len y
   rw [showE_app]
   simp only [List.length_append, List.length_cons]
   omega
  ·
   obtain ⟨d', rfl⟩ : ∃ d', d = d' + 1 := ⟨d - 1, by omega⟩
   have ih := hI d' rfl
   have hbd : bE (d' + 1) = 3 * bE d' + 43 := rfl
   have hb5' := bE_ge d'
   refine r_seq <| r_sr <| r_ev rfl rfl <| r_nn <| r_block <| r_seq <| r_sr <| r_ev rfl rfl <| r_ev rfl rfl <| r_nn <| r_cond_false rfl <| r_region <| r_ev rfl rfl <| r_ev rfl rfl ?_; refine r_nn <| r_cond_false rfl <| r_sr <| r_ev rfl rfl <| r_ev rfl rfl <| r_nn <| r_cond_false rfl <| r_sr <| r_ev rfl rfl <| r_ev rfl rfl <| r_nn <| r_cond_false rfl <| r_sr <| r_ev rfl rfl ?_; refine r_ev rfl rfl <| r_nn <| r_cond_false rfl <| r_seq <| r_sr <| r_ev rfl rfl <| r_ev rfl rfl <| r_nn <| r_cond_false rfl <| r_region <| r_ev rfl rfl <| r_ev rfl rfl <| r_nn <| r_cond_false rfl ?_; refine r_seq <| r_sr <| r_ev rfl rfl <| r_ev rfl rfl <| r_nn <| r_cond_false rfl <| r_sr <| r_ev rfl rfl <| r_ev rfl rfl <| r_nn <| r_cond_false rfl <| r_region <| r_ev rfl rfl <| r_ev rfl rfl ?_; refine r_nn <| r_cond_false rfl <| r_sr <| r_ev rfl rfl <| r_ev rfl rfl <| r_nn <| r_cond_true rfl <| r_sr <| r_ev rfl rfl ?_
   refine r_callL 1 rfl rfl rfl (Next_spec g1 codes hE0.hc lv hE0.c b i1 hi1 2 (by omega)) ?_
   rintro v g2 r' ⟨rfl, q, i2, rfl, hq1, hq2, rfl, hi2⟩ _
   obtain ⟨kk, hkk⟩ : ∃ kk : Int, kk = 6 + q := ⟨_, rfl⟩
   refine r_add rfl rfl rfl (by omega) ?_; refine r_ev rfl rfl <| r_nn <| r_sr <| r_ev rfl rfl ?_
   rw [← hkk]
   refine r_callL 1 rfl rfl rfl (Variable_spec g2 codes hE0.hc lv hE0.c b i2 hi2) ?_
   rintro v g3 r' ⟨rfl, n, i3, rfl, n1, n2, rfl, hi3⟩ _
   refine r_ev rfl rfl <| r_nn <| r_sr <| r_ev rfl rfl <| r_ev rfl rfl <| r_ev rfl rfl <| r_sub_ rfl rfl rfl (by omega) ?_
   rw [show ((d' + 1 : Nat) : Int) - 1 = (d' : Int) by omega]
   refine r_callL 1 rfl rfl rfl (ih g3 i3 lv ds _ hE0 hi3) ?_
   rintro w g4 r' ⟨x, i4, hx, gx, lx, rfl, hi4⟩ hle2
   obtain ⟨a1, m1, c1, a2, m2, c2, a3, m3, c3, rfl, hx'⟩ := hx.form
   skip
   refine r_alloc rfl (fun b12 => ?_)
   refine r_storeA 0 rfl rfl rfl rfl (by rfl) (by repeat' (first | exact rfl | assumption | refine all_cons ?_ ?_)) rfl ?_; refine r_nn <| r_seq ?_
   refine h_beginE [2, 1] mixed (fun hG => ?_)
   refine h_takeXA 0 rfl (by kernel_rfl) rfl hG ?_; refine ⟨_, (val_ev rfl), ?_⟩; refine h_takeXA 1 rfl (by kernel_rfl) rfl hG ?_; refine ⟨_, (val_ev rfl), ?_⟩; refine h_takeXA 2 rfl (by kernel_rfl) rfl hG ?_; refine ⟨_, (val_loadB 0 rfl rfl (by rfl)), ?_⟩; refine h_takeXA 3 rfl (by kernel_rfl) rfl hG ?_; refine ⟨_, (val_ev rfl), ?_⟩; refine h_takeXA 4 rfl (by kernel_rfl) rfl hG ?_; refine ⟨_, (val_ev rfl), ?_⟩; refine h_takeXA 5 rfl (by kernel_rfl) rfl hG ?_; refine ⟨_, (val_ev rfl), ?_⟩
   refine h_takeXA 6 rfl (by kernel_rfl) rfl hG ⟨_, (val_sub_ rfl rfl (by omega)), ?_⟩
   refine h_one 7 (by kernel_rfl) rfl ?_
   rw [show ((d' + 1 : Nat) : Int) - 1 = (d' : Int) by omega]
   refine r_callL 2 rfl rfl rfl (ih g4 i4 lv ds _ (hE0.mono hle2) hi4) ?_
   rintro w2 g5 r' ⟨y, i5, hy, gy, ly, rfl, hi5⟩ hle3
   obtain ⟨e1, f1, h1, e2, f2, h2, e3, f3, h3, rfl, hy'⟩ := hy.form
   refine r_nn ?_
   refine h_keptA hG ?_
   refine h_one 8 (by kernel_rfl) rfl ?_
   refine r_buildSlice rfl rfl (by rfl) (by rfl) (by rfl) (by rfl) (by rfl) (fun b41 => ?_)
   refine r_publishRow (fun g6 hle4 hs4 => ?_)
   have hle24 := Ghost.le_trans hle3 hle4
   refine r_nn ?_
   refine h_keptA hG ?_
   refine h_one 9 (by kernel_rfl) rfl ?_
   refine r_build rfl rfl (by rfl) ?_; refine r_nn ?_
   refine h_keptA hG ?_
   refine h_one 10 (by kernel_rfl) rfl ?_
   refine r_storeA 1 rfl rfl rfl rfl (by rfl) (by repeat' (first | exact rfl | assumption | refine all_cons ?_ ?_)) rfl ?_; refine r_nn ?_
   refine h_keptA hG ?_
   refine h_done (by kernel_rfl) ?_
   refine r_then_normal <| r_retc <| r_in_ret <| r_then_ret ?_
   have hk67 : kk = 6 ∨ kk = 7 := by omega
   refine r_retA [_] rfl (res_blk 1 rfl rfl (by rfl)) (.cons _ (.cons _ (List.Sublist.refl _))) ⟨_, rfl, kidsE kk 0 n [x, y], i5, kidsE_V g6 kk 0 n hs4 (exs2 ((hx'.mono hle3).mono hle4) (hy'.mono hle4)), .bind kk 0 n x y hk67 n1 gx gy, ?_, rfl, hi5⟩
   have e3 : letB.length = 3 ∧ recB.length = 3 ∧ inB.length = 2 := by decide
   rcases hk67 with rfl | rfl
   ·rw [showE_let]
    simp only [List.length_append, List.length_cons, List.length_nil]
    omega
   ·rw [showE_rec]
    simp only [List.length_append, List.length_cons, List.length_nil]
    omega
  ·
   obtain ⟨d', rfl⟩ : ∃ d', d = d' + 1 := ⟨d - 1, by omega⟩
   have ih := hI d' rfl
   have hbd : bE (d' + 1) = 3 * bE d' + 43 := rfl
   have hb5' := bE_ge d'
   refine r_seq <| r_sr <| r_ev rfl rfl <| r_nn <| r_block <| r_seq <| r_sr <| r_ev rfl rfl <| r_ev rfl rfl <| r_nn <| r_cond_false rfl <| r_region <| r_ev rfl rfl <| r_ev rfl rfl ?_; refine r_nn <| r_cond_false rfl <| r_sr <| r_ev rfl rfl <| r_ev rfl rfl <| r_nn <| r_cond_false rfl <| r_sr <| r_ev rfl rfl <| r_ev rfl rfl <| r_nn <| r_cond_false rfl <| r_sr <| r_ev rfl rfl ?_; refine r_ev rfl rfl <| r_nn <| r_cond_false rfl <| r_seq <| r_sr <| r_ev rfl rfl <| r_ev rfl rfl <| r_nn <| r_cond_false rfl <| r_region <| r_ev rfl rfl <| r_ev rfl rfl <| r_nn <| r_cond_false rfl ?_; refine r_seq <| r_sr <| r_ev rfl rfl <| r_ev rfl rfl <| r_nn <| r_cond_false rfl <| r_sr <| r_ev rfl rfl <| r_ev rfl rfl <| r_nn <| r_cond_false rfl <| r_region <| r_ev rfl rfl <| r_ev rfl rfl ?_; refine r_nn <| r_cond_false rfl <| r_sr <| r_ev rfl rfl <| r_ev rfl rfl <| r_nn <| r_cond_false rfl <| r_sr <| r_ev rfl rfl <| r_ev rfl rfl <| r_nn <| r_cond_true rfl <| r_sr <| r_ev rfl rfl ?_; refine r_ev rfl rfl <| r_ev rfl rfl <| r_sub_ rfl rfl rfl (by omega) ?_
   rw [show ((d' + 1 : Nat) : Int) - 1 = (d' : Int) by omega]
   refine r_callL 1 rfl rfl rfl (ih g1 i1 lv ds _ hE0 hi1) ?_
   rintro w g2 r' ⟨x, i3, hx, gx, lx, rfl, hi3⟩ hle2
   obtain ⟨a1, m1, c1, a2, m2, c2, a3, m3, c3, rfl, hx'⟩ := hx.form
   skip
   refine r_buildSlice rfl rfl (by rfl) (by rfl) (by rfl) (by rfl) (by rfl) (fun b41 => ?_)
   refine r_publishRow (fun g3 hle3 hs3 => ?_)
   refine r_ev rfl rfl <| r_ev rfl rfl ?_
   refine r_callL 1 rfl rfl rfl (TType_spec codes b 2 (by omega) g3 i3 lv ds _ [] _ ((hE0.mono hle2).mono hle3).tp hi3) ?_
   rintro w3 g4 r' ⟨t, i4, ht, gt, lt, rfl, hi4⟩ hle4
   have hlt : (showT t).length ≤ 48 := lt
   obtain ⟨ya, ym, yc, rfl, ht'⟩ := ht.cells5
   refine r_build rfl rfl (by rfl) ?_; refine r_storeA 0 rfl rfl rfl rfl (by rfl) (by repeat' (first | exact rfl | assumption | refine all_cons ?_ ?_)) rfl ?_; refine r_nn <| r_retc <| r_in_ret <| r_then_ret ?_
   exact r_retA [_] rfl (res_blk 0 rfl rfl (by rfl)) (.cons _ (List.Sublist.refl _)) ⟨_, rfl, annE 0 x t, i4, annE_V g4 0 t (hs3.mono hle4) ((hx'.mono hle3).mono hle4) ht', .ann 0 x t gx gt, by rw [showE_ann]; simp; omega, rfl, hi4⟩
  ·
   obtain ⟨d', rfl⟩ : ∃ d', d = d' + 1 := ⟨d - 1, by omega⟩
   have ih := hI d' rfl
   have hbd : bE (d' + 1) = 3 * bE d' + 43 := rfl
   have hb5' := bE_ge d'
   refine r_seq <| r_sr <| r_ev rfl rfl <| r_nn <| r_block <| r_seq <| r_sr <| r_ev rfl rfl <| r_ev rfl rfl <| r_nn <| r_cond_false rfl <| r_region <| r_ev rfl rfl <| r_ev rfl rfl ?_; refine r_nn <| r_cond_false rfl <| r_sr <| r_ev rfl rfl <| r_ev rfl rfl <| r_nn <| r_cond_false rfl <| r_sr <| r_ev rfl rfl <| r_ev rfl rfl <| r_nn <| r_cond_false rfl <| r_sr <| r_ev rfl rfl ?_; refine r_ev rfl rfl <| r_nn <| r_cond_false rfl <| r_seq <| r_sr <| r_ev rfl rfl <| r_ev rfl rfl <| r_nn <| r_cond_false rfl <| r_region <| r_ev rfl rfl <| r_ev rfl rfl <| r_nn <| r_cond_false rfl ?_; refine r_seq <| r_sr <| r_ev rfl rfl <| r_ev rfl rfl <| r_nn <| r_cond_false rfl <| r_sr <| r_ev rfl rfl <| r_ev rfl rfl <| r_nn <| r_cond_false rfl <| r_region <| r_ev rfl rfl <| r_ev rfl rfl ?_; refine r_nn <| r_cond_false rfl <| r_sr <| r_ev rfl rfl <| r_ev rfl rfl <| r_nn <| r_cond_false rfl <| r_sr <| r_ev rfl rfl <| r_ev rfl rfl <| r_nn <| r_cond_false rfl <| r_sr <| r_ev rfl rfl ?_; refine r_ev rfl rfl <| r_nn <| r_cond_true rfl <| r_sr <| r_ev rfl rfl <| r_ev rfl rfl <| r_ev rfl rfl <| r_sub_ rfl rfl rfl (by omega) ?_
   rw [show ((d' + 1 : Nat) : Int) - 1 = (d' : Int) by omega]
   refine r_callL 1 rfl rfl rfl (ih g1 i1 lv ds _ hE0 hi1) ?_
   rintro w g2 r' ⟨x, i3, hx, gx, lx, rfl, hi3⟩ hle2
   obtain ⟨a1, m1, c1, a2, m2, c2, a3, m3, c3, rfl, hx'⟩ := hx.form
   skip
   refine r_buildSlice rfl rfl (by rfl) (by rfl) (by rfl) (by rfl) (by rfl) (fun b41 => ?_)
   refine r_publishRow (fun g3 hle3 hs3 => ?_)
   refine r_build rfl rfl (by rfl) ?_; refine r_storeA 0 rfl rfl rfl rfl (by rfl) (by repeat' (first | exact rfl | assumption | refine all_cons ?_ ?_)) rfl ?_; refine r_nn <| r_retc <| r_in_ret <| r_then_ret ?_
   exact r_retA [_] rfl (res_blk 0 rfl rfl (by rfl)) (.cons _ (List.Sublist.refl _)) ⟨_, rfl, kidsE 11 0 [] [x], i3, kidsE_V g3 11 0 [] hs3 (exs1 (hx'.mono hle3)), .held 0 x gx, by rw [showE_held]; simp; omega, rfl, hi3⟩
  ·
   obtain ⟨d', rfl⟩ : ∃ d', d = d' + 1 := ⟨d - 1, by omega⟩
   have ih := hI d' rfl
   have hbd : bE (d' + 1) = 3 * bE d' + 43 := rfl
   have hb5' := bE_ge d'
   refine r_seq <| r_sr <| r_ev rfl rfl <| r_nn <| r_block <| r_seq <| r_sr <| r_ev rfl rfl <| r_ev rfl rfl <| r_nn <| r_cond_false rfl <| r_region <| r_ev rfl rfl <| r_ev rfl rfl ?_; refine r_nn <| r_cond_false rfl <| r_sr <| r_ev rfl rfl <| r_ev rfl rfl <| r_nn <| r_cond_false rfl <| r_sr <| r_ev rfl rfl <| r_ev rfl rfl <| r_nn <| r_cond_false rfl <| r_sr <| r_ev rfl rfl ?_; refine r_ev rfl rfl <| r_nn <| r_cond_false rfl <| r_seq <| r_sr <| r_ev rfl rfl <| r_ev rfl rfl <| r_nn <| r_cond_false rfl <| r_region <| r_ev rfl rfl <| r_ev rfl rfl <| r_nn <| r_cond_false rfl ?_; refine r_seq <| r_sr <| r_ev rfl rfl <| r_ev rfl rfl <| r_nn <| r_cond_false rfl <| r_sr <| r_ev rfl rfl <| r_ev rfl rfl <| r_nn <| r_cond_false rfl <| r_region <| r_ev rfl rfl <| r_ev rfl rfl ?_; refine r_nn <| r_cond_false rfl <| r_sr <| r_ev rfl rfl <| r_ev rfl rfl <| r_nn <| r_cond_false rfl <| r_sr <| r_ev rfl rfl <| r_ev rfl rfl <| r_nn <| r_cond_false rfl <| r_sr <| r_ev rfl rfl ?_; refine r_ev rfl rfl <| r_nn <| r_cond_false rfl <| r_skip <| r_in_normal <| r_then_normal <| r_seq <| r_sr <| r_ev rfl rfl <| r_len_sl rfl rfl <| r_ev rfl rfl <| r_nn ?_
   refine r_cond rfl (fun h0 => ?_) (fun h0 => ?_)
   ·refine r_sr <| r_ev rfl rfl <| r_ev rfl rfl <| r_ev rfl rfl <| r_sub_ rfl rfl rfl (by omega) ?_
    rw [show ((d' + 1 : Nat) : Int) - 1 = (d' : Int) by omega]
    refine r_callL 1 rfl rfl rfl (ih g1 i1 lv ds _ hE0 hi1) ?_
    rintro w g2 r' ⟨x, i3, hx, gx, lx, rfl, hi3⟩ hle2
    obtain ⟨a1, m1, c1, a2, m2, c2, a3, m3, c3, rfl, hx'⟩ := hx.form
    refine r_storeA 0 rfl rfl rfl rfl (by rfl) (by repeat' (first | exact rfl | assumption | refine all_cons ?_ ?_)) rfl ?_; refine r_nn <| r_retc <| r_then_ret ?_
    exact r_retA [_] rfl (res_blk 0 rfl rfl (by rfl)) (.cons _ (List.Sublist.refl _)) ⟨_, rfl, x, i3, ⟨_, rfl, hx'⟩, gx, by omega, rfl, hi3⟩
   ·have hl0 : 0 < ds.length := by omega
    refine r_skip <| r_then_normal <| r_sr <| r_ev rfl rfl <| r_ev rfl rfl <| r_ev rfl rfl <| r_len_sl rfl rfl ?_
    refine r_callL 1 rfl rfl rfl (Next_spec g1 codes hE0.hc lv hE0.c b i1 hi1 ds.length (by omega)) ?_
    rintro v g2 r' ⟨rfl, q, i2, rfl, hq1, hq2, rfl, hi2⟩ _
    have hq : q.toNat < ds.length := by omega
    obtain ⟨b0, off, cap, hsl, hx⟩ := hd1.held hq
    cases hsl
    obtain ⟨cs, e1, hr⟩ := all_rd (fun _ _ h => h.one.1) hd2 hx hq
    obtain ⟨_, n1, n2, n3⟩ := hE0.dg _ (List.getElem_mem hq)
    generalize ds[q.toNat] = dd at e1 n1 n2 n3
    obtain ⟨a1, c1, a2, c2, xc, rfl, _, hc1, hc2⟩ := e1.form
    obtain ⟨bb, oo, cp, hsl2, hx2⟩ := hc1.held (show 0 < dd.cons.length by omega)
    cases hsl2
    skip
    refine r_indexAddr (j := q.toNat) rfl rfl rfl (by omega) hq ?_
    refine r_load rfl rfl (hr _) rfl ?_
    refine r_alloc rfl (fun b13 => ?_)
    refine r_storeA 0 rfl rfl rfl rfl (by rfl) (by repeat' (first | exact rfl | assumption | refine all_cons ?_ ?_)) rfl ?_; refine r_nn <| r_sr <| r_ev rfl rfl <| r_ev rfl rfl <| r_ev rfl rfl <| r_sub_ rfl rfl rfl (by omega) ?_
    rw [show ((d' + 1 : Nat) : Int) - 1 = (d' : Int) by omega]
    refine r_callL 2 rfl rfl rfl (ih g2 i2 lv ds _ hE0 hi2) ?_
    rintro w g3 r' ⟨x, i3, hx0, gx, lx, rfl, hi3⟩ hle3
    obtain ⟨f1, k1, h1, f2, k2, h2, f3, k3, h3, rfl, hx'⟩ := hx0.form
    skip
    refine r_buildSlice rfl rfl (by rfl) (by rfl) (by rfl) (by rfl) (by rfl) (fun b41 => ?_)
    refine r_publishRow (fun g4 hle4 hs4 => ?_)
    refine r_build rfl rfl (by rfl) ?_
    refine r_alloc rfl (fun b14 => ?_)
    refine r_storeA 0 rfl rfl rfl rfl (by rfl) (by repeat' (first | exact rfl | assumption | refine all_cons ?_ ?_)) rfl ?_; refine r_nn <| r_seq <| r_sr <| r_ev rfl rfl <| r_nn <| r_block ?_
    -- STOPCASE
    have hx4 := hx'.mono hle4
    refine r_nilRow 110 14 ?_
    refine r_loop (ι := Nat × List Ar × Value × List Value × Nat × Ghost) (fun p => [(0, ptr b 0), (1, .slice (some ⟨b0, off, none⟩) ds.length dc), (2, .int .i64 (d' + 1 : Nat)), (6, ptr b6 0), (13, ptr b13 0), (14, ptr b14 0), (15, .int .i64 p.1)]) (fun p => p.2.2.2.2.2)
     (fun p => [.row 110 14 p.2.2.1 p.2.1.length p.2.2.2.1, .blk b14 51 (caseCells 0 (.slice (some ⟨b41, 0, none⟩) 1 1) p.2.2.1), .blk b13 86 [.int .i64 dd.pos, str dd.name, .slice a1 dd.params.length c1, .slice (some ⟨bb, oo, none⟩) dd.cons.length c2], .blk b6 51 noEc, tpB b lv p.2.2.2.2.1])
     (fun p => Ghost.le g4 p.2.2.2.2.2 ∧ p.1 ≤ dd.cons.length ∧ p.2.1.length = p.1 ∧ (∃ a m c, p.2.2.1 = .slice a m c) ∧ ArsAt p.2.2.2.2.2 p.2.1 p.2.2.2.1 ∧ (∀ a ∈ p.2.1, kindOf a.con = 2 ∧ a.con.length ≤ 5 ∧ (∀ v ∈ a.vars, kindOf v = 1 ∧ v.length ≤ 2) ∧ a.vars.length ≤ 2 ∧ GoodE a.body ∧ (showE a.body).length ≤ bE d') ∧ p.2.2.2.2.1 ≤ codes.length) (fun p => dd.cons.length - p.1)
     (0, [], .slice none 0 0, [], i3, g4) ⟨Ghost.le_refl _, Nat.zero_le _, rfl, ⟨_, _, _, rfl⟩, arsNil _, (fun a h => by cases h), hi3⟩ ⟨rfl, rfl, rfl, rfl, rfl, rfl, rfl, trivial⟩ rfl rfl ?_
    rintro ⟨j, acc, av, xa, i5, g5⟩ ⟨k1, k2, k3, ⟨sa, sm, sc, k4⟩, k5, k6, k7⟩
    simp only at k1 k2 k3 k4 k5 k6 k7
    subst k4
    show Run E _ [(0, ptr b 0), (1, .slice (some ⟨b0, off, none⟩) ds.length dc), (2, .int .i64 (d' + 1 : Nat)), (6, ptr b6 0), (13, ptr b13 0), (14, ptr b14 0), (15, .int .i64 j)] g5 [.row 110 14 (.slice sa sm sc) acc.length xa, .blk b14 51 (caseCells 0 (.slice (some ⟨b41, 0, none⟩) 1 1) (.slice sa sm sc)), .blk b13 86 [.int .i64 dd.pos, str dd.name, .slice a1 dd.params.length c1, .slice (some ⟨bb, oo, none⟩) dd.cons.length c2], .blk b6 51 noEc, tpB b lv i5] _
    refine r_seq <| r_sr <| r_ev rfl rfl <| r_fieldAddr rfl rfl <| r_loadB1 2 rfl rfl rfl rfl <| r_len_sl rfl rfl <| r_ev rfl rfl <| r_nn ?_
    refine r_cond rfl (fun hlt => ?_) (fun hlt => ?_)
    ·have hjl : j < dd.cons.length := by omega
     have hle25 := Ghost.le_trans hle3 (Ghost.le_trans hle4 k1)
     have hE5 := hE0.mono hle25
     obtain ⟨cc, e2, hr2⟩ := all_rd (g := g5) (fun _ _ h => h.one.1) hc2 (fun k x h => hle25 _ _ _ (hx2 k x h)) hjl
     obtain ⟨q1, q2, q3⟩ := n3 _ (List.getElem_mem hjl)
     generalize hc0 : dd.cons[j] = c0 at e2 q1 q2 q3
     obtain ⟨a4, c4, xf, rfl, _, _⟩ := e2.form
     have hr1 : ∀ own, Rd g5 own bb (oo + j * 3 + 1) [str c0.name] := fun own => (hr2 own).at1 1 rfl
     have hr3 : ∀ own, Rd g5 own bb (oo + j * 3 + 2) [.slice a4 c0.fields.length c4] := fun own => (hr2 own).at1 2 rfl
     refine r_skip <| r_then_normal <| r_seq <| r_block <| r_sr <| r_fieldAddr rfl rfl <| r_loadB1 2 rfl rfl rfl rfl <| r_ev rfl rfl <| r_indexAddr rfl rfl rfl rfl (by omega) ?_; refine r_fieldAddr rfl rfl ?_
     refine r_load1 rfl rfl (hr1 _) ?_
     refine r_build rfl rfl (by rfl) ?_
     refine r_alloc rfl (fun b16 => ?_)
     refine r_storeA 0 rfl rfl rfl rfl (by rfl) (by repeat' (first | exact rfl | assumption | refine all_cons ?_ ?_)) rfl ?_; refine r_nn <| r_seq <| r_sr <| r_ev rfl rfl <| r_nn <| r_block ?_
     refine r_nilRow 9 1 ?_
     refine r_loop (ι := Nat × List Bytes × Value × Nat) (fun p => [(0, ptr b 0), (1, .slice (some ⟨b0, off, none⟩) ds.length dc), (2, .int .i64 (d' + 1 : Nat)), (6, ptr b6 0), (13, ptr b13 0), (14, ptr b14 0), (15, .int .i64 j), (16, ptr b16 0), (17, .int .i64 p.1)]) (fun _ => g5)
      (fun p => [.row 9 1 p.2.2.1 p.2.1.length (p.2.1.map str), .blk b16 110 (arCells 0 c0.name p.2.2.1 noEc), .row 110 14 (.slice sa sm sc) acc.length xa, .blk b14 51 (caseCells 0 (.slice (some ⟨b41, 0, none⟩) 1 1) (.slice sa sm sc)), .blk b13 86 [.int .i64 dd.pos, str dd.name, .slice a1 dd.params.length c1, .slice (some ⟨bb, oo, none⟩) dd.cons.length c2], .blk b6 51 noEc, tpB b lv p.2.2.2])
      (fun p => (∃ a m c, p.2.2.1 = .slice a m c) ∧ p.1 ≤ c0.fields.length ∧ p.2.1.length = p.1 ∧ (∀ v ∈ p.2.1, kindOf v = 1 ∧ v.length ≤ 2) ∧ p.2.2.2 ≤ codes.length) (fun p => c0.fields.length - p.1)
      (0, [], .slice none 0 0, i5) ⟨⟨_, _, _, rfl⟩, Nat.zero_le _, rfl, (fun v h => by cases h), k7⟩ ⟨rfl, rfl, rfl, rfl, rfl, rfl, rfl, rfl, rfl, trivial⟩ rfl rfl ?_
     rintro ⟨k, vs, vv, i6⟩ ⟨⟨va, vm, vc, m1⟩, m2, m3, m4, m5⟩
     simp only at m1 m2 m3 m4 m5
     subst m1
     show Run E _ [(0, ptr b 0), (1, .slice (some ⟨b0, off, none⟩) ds.length dc), (2, .int .i64 (d' + 1 : Nat)), (6, ptr b6 0), (13, ptr b13 0), (14, ptr b14 0), (15, .int .i64 j), (16, ptr b16 0), (17, .int .i64 k)] g5 [.row 9 1 (.slice va vm vc) vs.length (vs.map str), .blk b16 110 (arCells 0 c0.name (.slice va vm vc) noEc), .row 110 14 (.slice sa sm sc) acc.length xa, .blk b14 51 (caseCells 0 (.slice (some ⟨b41, 0, none⟩) 1 1) (.slice sa sm sc)), .blk b13 86 [.int .i64 dd.pos, str dd.name, .slice a1 dd.params.length c1, .slice (some ⟨bb, oo, none⟩) dd.cons.length c2], .blk b6 51 noEc, tpB b lv i6] _
     refine r_seq <| r_sr <| r_ev rfl rfl <| r_fieldAddr rfl rfl <| r_loadB1 4 rfl rfl rfl rfl <| r_ev rfl rfl <| r_indexAddr rfl rfl rfl rfl (by omega) ?_; refine r_fieldAddr rfl rfl ?_
     refine r_load1 rfl rfl (hr3 _) ?_
     refine r_len_sl rfl rfl <| r_ev rfl rfl <| r_nn ?_
     refine r_cond rfl (fun hlt3 => ?_) (fun hlt3 => ?_)
     ·refine r_skip <| r_then_normal <| r_seq <| r_block ?_
      refine m_begin 6 [6, 0] mixed (by kernel_rfl) (fun hG => ?_)
      refine m_takeXA 0 rfl (by kernel_rfl) rfl hG ?_; refine ⟨_, (val_fieldAddr rfl), ?_⟩; refine m_takeXA 1 rfl (by kernel_rfl) rfl hG ?_; refine ⟨_, (val_loadB1 0 rfl rfl rfl), ?_⟩; refine m_takeXA 2 rfl (by kernel_rfl) rfl hG ?_; refine ⟨_, (val_ev rfl), ?_⟩
      refine m_one 3 (by kernel_rfl) rfl rfl ?_
      refine r_callL 6 rfl rfl rfl (Variable_spec g5 codes hE0.hc lv hE5.c b i6 m5) ?_
      rintro v g6 r' ⟨rfl, n, i7, rfl, n1', n2', rfl, hi7⟩ _
      refine r_nn ?_
      refine h_keptA hG ?_
      refine m_one 4 (by kernel_rfl) rfl rfl ?_
      refine r_buildSlice rfl rfl (by rfl) (by rfl) (by rfl) (by rfl) (by rfl) (fun b41 => ?_)
      refine r_nn ?_
      refine h_keptA hG ?_
      refine m_one 5 (by kernel_rfl) rfl rfl ?_
      refine r_appendRow 1 0 rfl rfl rfl rfl rfl (by rfl) (by rfl) rfl (by unfold maxLen; omega) (by omega) (fun v' hv' => ?_)
      refine r_rowForm 1 rfl ?_
      rintro ⟨ya, ym, yc, rfl⟩
      refine r_nn ?_
      refine h_keptA hG ?_
      refine m_done (by kernel_rfl) ?_
      refine r_fieldAddr rfl rfl <| r_store1 2 rfl rfl rfl rfl rfl rfl <| r_nil <| r_in_normal <| r_then_normal <| r_region <| r_ev rfl rfl <| r_add rfl rfl rfl (by omega) ?_; refine r_ev rfl rfl <| r_nn ?_
      refine r_drop (own' := [_, _, _, _, _, _, _]) (.cons _ (List.Sublist.refl _)) ?_
      refine r_again (k + 1, vs ++ [n], .slice ya ym yc, i7) ⟨⟨_, _, _, rfl⟩, by simp only; omega, by simp only [List.length_append, List.length_cons, List.length_nil]; omega, fun v hv => ?_, hi7⟩ (by simp only; omega) ⟨rfl, rfl, rfl, rfl, rfl, rfl, rfl, rfl, rfl, trivial⟩ rfl ?_
      ·rcases List.mem_append.1 hv with h | h
       ·exact m4 v h
       ·rw [List.mem_singleton.1 h]; exact ⟨n1', n2'⟩
      ·simp [arCells, repN]
     ·refine r_publishRow (fun g6 hle6 hs6 => ?_)
      refine r_exit <| r_then_exit <| r_then_exit <| r_in_exit <| r_then_normal <| r_sr <| r_ev rfl rfl <| r_ev rfl rfl <| r_ev rfl rfl <| r_sub_ rfl rfl rfl (by omega) ?_
      rw [show ((d' + 1 : Nat) : Int) - 1 = (d' : Int) by omega]
      refine r_callL 5 rfl rfl rfl (ih g6 i6 lv ds _ (hE5.mono hle6) m5) ?_
      rintro w5 g7 r' ⟨y, i7, hy, gy, ly, rfl, hi7⟩ hle7
      obtain ⟨z1, z2, z3, z4, z5, z6, z7, z8, z9, rfl, hy'⟩ := hy.form
      have hle57 := Ghost.le_trans hle6 hle7
      -- STOPE
      refine r_fieldAddr rfl rfl <| r_storeA 0 rfl rfl rfl rfl (by rfl) (by repeat' (first | exact rfl | assumption | refine all_cons ?_ ?_)) rfl ?_; refine r_nn <| r_region <| r_fieldAddr rfl rfl <| r_loadB1 2 rfl rfl rfl rfl <| r_loadB 0 rfl rfl rfl (by rfl) ?_
      refine r_buildSlice rfl rfl (by rfl) (by rfl) (by rfl) (by rfl) (by rfl) (fun b41 => ?_)
      refine r_appendRow 2 0 rfl rfl rfl rfl rfl (by rfl) (by rfl) rfl (by unfold maxLen; omega) (by omega) (fun v' hv' => ?_)
      refine r_rowForm 2 rfl ?_
      rintro ⟨ya, ym, yc, rfl⟩
      have hars := ars_snoc (p := 0) (c := c0.name) (k5.mono hle57) (hs6.mono hle7) hy'
      refine r_fieldAddr rfl rfl <| r_store1 3 rfl rfl rfl rfl rfl rfl <| r_nil <| r_in_normal <| r_then_normal <| r_region <| r_ev rfl rfl <| r_add rfl rfl rfl (by omega) ?_; refine r_ev rfl rfl <| r_nn ?_
      refine r_drop (own' := [_, _, _, _, _]) (.cons _ (.cons _ (List.Sublist.refl _))) ?_
      refine r_again (j + 1, acc ++ [.mk 0 c0.name vs y], .slice ya ym yc, xa ++ arCells 0 c0.name (.slice va vm vc) _, i7, g7) ⟨Ghost.le_trans k1 hle57, by simp only; omega, by simp only [List.length_append, List.length_cons, List.length_nil]; omega, ⟨_, _, _, rfl⟩, hars, fun a ha => ?_, hi7⟩ (by simp only; omega) ⟨rfl, rfl, rfl, rfl, rfl, rfl, rfl, trivial⟩ rfl ?_
      ·rcases List.mem_append.1 ha with h | h
       ·exact k6 a h
       ·rw [List.mem_singleton.1 h]; exact ⟨q1, q2, m4, by show vs.length ≤ 2; omega, gy, ly⟩
      ·simp [arCells, repN]
       first | rfl | exact ⟨rfl, rfl⟩
    ·have hjl : j = dd.cons.length := by omega
     refine r_publishRow (fun g6 hle6 hs6 => ?_)
     have hle46 := Ghost.le_trans k1 hle6
     have hV := caseE_V (pos := 0) (hs4.mono hle46) (hx4.mono hle46) hs6 (k5.mono hle6)
     refine r_exit <| r_then_exit <| r_then_exit <| r_in_exit <| r_then_normal <| r_sr <| r_loadB 0 rfl rfl rfl (by rfl) ?_; refine r_storeA 2 rfl rfl rfl rfl (by rfl) (by repeat' (first | exact rfl | assumption | refine all_cons ?_ ?_)) rfl ?_; refine r_nn <| r_retc ?_
     refine r_retA [_] rfl (res_blk 2 rfl rfl (by rfl)) (.cons _ (.cons _ (.cons _ (List.Sublist.refl _)))) ⟨_, rfl, caseE 0 x acc, i5, ⟨_, rfl, hV⟩, .case 0 x acc gx (fun h => by rw [h] at k3; simp at k3; omega) (fun a ha => ⟨(k6 a ha).1, fun v hv => ((k6 a ha).2.2.1 v hv).1⟩) (fun a ha => (k6 a ha).2.2.2.2.1), ?_, rfl, k7⟩
     have hal := showArms_len (B := bE d') acc (by omega) (fun a ha => ⟨(k6 a ha).2.1, fun v hv => ((k6 a ha).2.2.1 v hv).2, (k6 a ha).2.2.2.1, (k6 a ha).2.2.2.2.2⟩)
     have e3 : caseB.length = 4 ∧ ofB.length = 2 ∧ endB.length = 3 := by decide
     have hal2 : acc.length * (16 + bE d') ≤ 2 * (16 + bE d') := Nat.mul_le_mul_right _ (by omega)
     rw [showE_case]
     simp only [List.length_append, List.length_cons]
     omega
 ·intro K hK
  have hmod : k.tmod 5 = k % 5 := Int.tmod_eq_emod_of_nonneg hk1
  refine r_sr <| r_ev rfl rfl <| r_ev rfl rfl <| r_nn ?_
  refine r_cond rfl (fun h1 => ?_) (fun h1 => ?_)
  ·refine r_region <| r_ev rfl rfl <| r_rem rfl rfl rfl (by omega) ?_; refine r_ev rfl rfl <| r_nn ?_
   exact hK (k.tmod 5) _ ⟨by omega, by omega, fun h5 => by rw [hmod] at h5; omega⟩ ⟨rfl, rfl, rfl, rfl, rfl, trivial⟩
  ·refine r_skip <| r_then_normal ?_
   exact hK k _ ⟨hk1, hk2, fun _ => by omega⟩ ⟨rfl, rfl, rfl, rfl, rfl, trivial⟩
theorem TRaw_spec (codes : List Int) (b : Nat) : ∀ (d : Nat), d ≤ 1000 → ∀ g i lv ds dv, RwE g codes lv ds dv → i ≤ codes.length → SpecL Tryz.prog 29 [ptr b 0, dv, .int .i64 d] g (tpB b lv i) (rwPost codes b lv d)
 | 0, hd, g, i, lv, ds, dv, h, hi => TRaw_step codes b 0 hd (fun d' e => by omega) g i lv ds dv h hi
 | d + 1, hd, g, i, lv, ds, dv, h, hi => by
  refine TRaw_step codes b (d + 1) hd (fun d' e => ?_) g i lv ds dv h hi
  have e' : d' = d := by omega
  subst e'
  exact TRaw_spec codes b d' (by omega)
end Go.Proofs.YtpjehhnaojjanaaGreatDoor
-- sum 65fa3924f21ee8fb


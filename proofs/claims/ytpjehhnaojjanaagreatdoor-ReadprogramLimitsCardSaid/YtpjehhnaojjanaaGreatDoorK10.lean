/- The walks of package readexpr: arm, analysis. -/
import Derived.Test.YtpjehhnaojjanaaGreatDoorK9
namespace Go.Proofs.YtpjehhnaojjanaaGreatDoor
open Go Go.Eng Go.Th Go.Proofs
set_option maxRecDepth 10000
set_option maxHeartbeats 4000000
attribute [local irreducible] wpList Code.wp Run bodyPost Go.Eng.Ends Exit.then Exit.inBlock Again Wq Kq
def ArV (g : Ghost) (v : Value) (a : Ar) : Prop := ∃ cs, v = .agg cs.toArray ∧ ArAt g a cs
theorem ArV.form {g : Ghost} {v : Value} {a : Ar} (h : ArV g v a) : ∃ (a0 : Option Addr) (m0 c0 : Nat) (a1 : Option Addr) (m1 c1 : Nat) (a2 : Option Addr) (m2 c2 : Nat) (a3 : Option Addr) (m3 c3 : Nat),
  v = .agg #[.int .i64 a.pos, str a.con, .slice a0 m0 c0, .int .i64 a.body.kind, .int .i64 a.body.pos, str a.body.name, .int .i64 a.body.num, .slice a1 m1 c1, .slice a2 m2 c2, .int .i64 a.body.ty.kind, str a.body.ty.name, .int .i64 a.body.ty.id, .int .i64 a.body.ty.home, .slice a3 m3 c3] ∧
  ArAt g a [.int .i64 a.pos, str a.con, .slice a0 m0 c0, .int .i64 a.body.kind, .int .i64 a.body.pos, str a.body.name, .int .i64 a.body.num, .slice a1 m1 c1, .slice a2 m2 c2, .int .i64 a.body.ty.kind, str a.body.ty.name, .int .i64 a.body.ty.id, .int .i64 a.body.ty.home, .slice a3 m3 c3] := by
 obtain ⟨cs, rfl, h⟩ := h
 cases a with
 | mk p c vs e =>
  have h' := h
  unfold ArAt at h'
  obtain ⟨slv, bc, rfl, h1, h2⟩ := h'
  obtain ⟨a1, m1, c1, a2, m2, c2, a3, m3, c3, xk, xa, rfl, _⟩ := h2.form
  obtain ⟨a0, m0, c0, rfl⟩ := SlAt.form h1
  exact ⟨a0, m0, c0, a1, m1, c1, a2, m2, c2, a3, m3, c3, rfl, h⟩
theorem noE_At (g : Ghost) : ExAt g noE noEc := ExAt.mk (e := noE) (slNil g 11) (exsNil g) (slNil g 14) (arsNil g) (TyAt.mk (t := noT) (slNil g 5) (tysNil g))
theorem arV_mk {g : Ghost} {p : Int} {c : Bytes} {vs : List Bytes} {e : Ex} {sv : Value} {bc : List Value} (h1 : SlAt g 1 sv vs.length (vs.map str)) (h2 : ExAt g e bc) : ArV g (.agg (arCells p c sv bc).toArray) (.mk p c vs e) := by
 refine ⟨_, rfl, ?_⟩
 unfold ArAt
 exact ⟨sv, bc, rfl, h1, h2⟩
theorem ars_snoc' {g : Ghost} {acc : List Ar} {xa cs : List Value} {a : Ar} (h : ArsAt g acc xa) (h1 : ArAt g a cs) : ArsAt g (acc ++ [a]) (xa ++ cs) := ars_all.2 (AllAt.snoc h1 (ars_all.1 h))
def postA (l : List Tok) (i : Nat) (b : Nat) (lv : Value) (r : Except Int (Ar × Nat)) (v : Value) (g' : Ghost) (r' : Res) : Prop := match r with
 | .ok (e, j) => ∃ ev, v = .tuple #[ev, .nilIface] ∧ ArV g' ev e ∧ r' = rdE b lv j 0 ∧ i < j ∧ j ≤ l.length
 | .error p => ∃ ev e er, v = .tuple #[ev, er] ∧ ArV g' ev e ∧ ErrV er ∧ ∃ j, j ≤ l.length ∧ r' = rdE b lv j p
theorem lowers_step' {l : List Tok} {j : Nat} (h : j < l.length) (hk : l[j].kind = 1) : lowers (l.drop j) = l[j].text :: lowers (l.drop (j + 1)) := by
 rw [List.drop_eq_getElem_cons h]
 simp [lowers, hk]
theorem lowers_stop' {l : List Tok} {j : Nat} (h : j < l.length) (hk : ¬ l[j].kind = 1) : lowers (l.drop j) = [] := by
 rw [List.drop_eq_getElem_cons h]
 simp [lowers, hk]
section
variable {l : List Tok} (hb : TB l) (m : Nat) (lv : Value) (b : Nat)
 (hX : ∀ g i, ErrT g → ToksAt g lv l → i ≤ l.length → l.length - i < m → SpecL Tryz.prog 118 [ptr b 0] g (rdE b lv i 0) (postE l i b lv (eread l .expr i)))
include hb hX
theorem earm_step (g : Ghost) (i : Nat) (hg : ErrT g) (hs : ToksAt g lv l) (hi : i ≤ l.length) (hm : l.length - i < m + 1) :
  SpecL Tryz.prog 190 [ptr b 0] g (rdE b lv i 0) (postA l i b lv (armRes l i)) := by
 have hb1 := hb.1
 refine spec_of_run Tryz.func190 rfl Tryz.ntmps190 rfl fun E hE => ?_
 refine r_sr ?_
 refine r_alloc rfl (fun b2 => ?_)
 refine r_ev rfl rfl <| r_nn <| r_sr <| r_ev rfl rfl ?_
 refine r_callO 1 rfl rfl rfl (eplace_spec g l lv hs b i 0) ?_
 refine r_build rfl rfl (by rfl) ?_
 refine r_alloc rfl (fun b4 => ?_)
 refine r_storeA 0 rfl rfl rfl rfl (by rfl) (by repeat' (first | exact rfl | assumption | refine all_cons ?_ ?_)) rfl ?_; refine r_nn <| r_sr <| r_ev rfl rfl <| r_nn <| r_seq <| r_sr <| r_ev rfl rfl ?_
 refine r_callL 2 rfl rfl rfl (ename_spec g l hb lv hs b i 2) ?_
 rintro v g1 r' ⟨rfl, hv⟩ _
 obtain ⟨cr, hr⟩ : ∃ cr, cr = armRes l i := ⟨_, rfl⟩
 rw [← hr]
 unfold armRes at hr
 cases hn : nameAt l i 2 with
 | none =>
  rw [hn] at hv hr
  obtain ⟨rfl, rfl⟩ := hv
  refine r_ev rfl rfl <| r_ev rfl rfl <| r_ev rfl rfl <| r_fieldAddr rfl rfl <| r_store1 0 rfl rfl rfl rfl rfl rfl <| r_ev rfl rfl <| r_nn <| r_sr <| r_ev rfl rfl <| r_neq_nil_held rfl rfl <| r_nn <| r_cond_true rfl <| r_sr <| r_loadB 0 rfl rfl rfl (by rfl) ?_; refine r_ev rfl rfl <| r_storeA 1 rfl rfl rfl rfl (by rfl) (by repeat' (first | exact rfl | assumption | refine all_cons ?_ ?_)) rfl ?_; refine r_ev rfl rfl <| r_nn <| r_retc <| r_then_ret ?_
  refine r_ret2 [_] rfl (res_blk 1 rfl rfl (by rfl)) (.tmp rfl) (.cons _ (.cons _ (List.Sublist.refl _))) ⟨_, rfl, ?_⟩
  rw [hr]
  exact ⟨_, _, _, rfl, arV_mk (vs := []) (slNil g1 1) (noE_At g1), errV_miss _, i, hi, rfl⟩
 | some c =>
  rw [hn] at hv hr
  simp only at hr
  obtain ⟨rfl, rfl⟩ := hv
  have hlt := nameAt_lt hn
  refine r_ev rfl rfl <| r_ev rfl rfl <| r_ev rfl rfl <| r_fieldAddr rfl rfl <| r_store1 0 rfl rfl rfl rfl rfl rfl <| r_ev rfl rfl <| r_nn ?_
  refine r_sr ?_
  refine r_ev rfl rfl <| r_neq_nil_nil rfl rfl <| r_nn <| r_cond_false rfl <| r_skip <| r_then_normal ?_
  -- STOPA
  have hl0 : i + 1 ≤ l.length := hlt
  refine r_cutG (ι := List Bytes × Value) (fun p => [(0, ptr b 0), (2, ptr b2 0), (4, ptr b4 0)]) (fun _ => g1)
   (fun p => [.row 9 1 p.2 p.1.length (p.1.map str), .blk b4 110 (arCells (posOf l i) c p.2 noEc), .blk b2 110 (arCells 0 [] (.slice none 0 0) noEc), rdE b lv (i + 1 + p.1.length) 0])
   (fun p => (∃ a m c, p.2 = .slice a m c) ∧ lowers (l.drop (i + 1)) = p.1 ∧ i + 1 + p.1.length ≤ l.length) ?_ ?_
  ·rintro ⟨vs, vv⟩ ⟨⟨va, vm, vc, q1⟩, q2, q3⟩
   simp only at q1 q2 q3
   subst q1
   rw [q2] at hr
   show Run E _ [(0, ptr b 0), (2, ptr b2 0), (4, ptr b4 0)] g1 [.row 9 1 (.slice va vm vc) vs.length (vs.map str), .blk b4 110 (arCells (posOf l i) c (.slice va vm vc) noEc), .blk b2 110 (arCells 0 [] (.slice none 0 0) noEc), rdE b lv (i + 1 + vs.length) 0] _
   refine r_publishRow (fun g2 hg2 hv2 => ?_)
   have hgr2 := hg.mono hg2
   have hs2 := hs.mono hg2
   refine r_seq <| r_sr <| r_ev rfl rfl ?_
   refine r_callL 2 rfl rfl rfl (ewant_spec g2 l hb lv hs2 b (i + 1 + vs.length) 5 [46]) ?_
   rintro v g2' r' ⟨rfl, hv⟩ _
   rcases hv with ⟨hk, rfl, rfl⟩ | ⟨hk, rfl, rfl⟩
   ·have hlt2 := tokAt_lt hk
    refine r_ev rfl rfl <| r_nn <| r_sr <| r_ev rfl rfl <| r_neq_nil_nil rfl rfl <| r_nn <| r_cond_false rfl <| r_skip <| r_then_normal <| r_sr <| r_ev rfl rfl ?_
    refine r_callL 2 rfl rfl rfl (hX g2' (i + 1 + vs.length + 1) hgr2 hs2 (by omega) (by omega)) ?_
    rintro v g3 r' hw hle
    rw [show markAt l _ _ = true from hk] at hr
    simp only [if_true] at hr
    cases hq : eread l .expr (i + 1 + vs.length + 1) with
    | error p =>
     rw [hq] at hw hr
     obtain ⟨ev, e, er, rfl, he, ⟨t, u, rfl, her⟩, j, hj, rfl⟩ := hw
     obtain ⟨a1, m1, c1, a2, m2, c2, a3, m3, c3, rfl, he'⟩ := he.form
     refine r_ev rfl rfl <| r_ev rfl rfl <| r_ev rfl rfl <| r_fieldAddr rfl rfl <| r_storeA 0 rfl rfl rfl rfl (by rfl) (by repeat' (first | exact rfl | assumption | refine all_cons ?_ ?_)) rfl ?_; refine r_ev rfl rfl <| r_nn <| r_sr <| r_loadB 0 rfl rfl rfl (by rfl) ?_; refine r_ev rfl rfl <| r_storeA 1 rfl rfl rfl rfl (by rfl) (by repeat' (first | exact rfl | assumption | refine all_cons ?_ ?_)) rfl ?_; refine r_ev rfl rfl <| r_nn <| r_retc ?_
     refine r_ret2 [_] rfl (res_blk 1 rfl rfl (by rfl)) (.tmp rfl) (.cons _ (.cons _ (List.Sublist.refl _))) ⟨_, rfl, ?_⟩
     rw [hr]
     exact ⟨_, _, _, rfl, arV_mk (p := posOf l i) (c := c) (hv2.mono hle) he', ⟨t, u, rfl, her⟩, j, hj, rfl⟩
    | ok q =>
     obtain ⟨e, j⟩ := q
     rw [hq] at hw hr
     obtain ⟨ev, rfl, he, rfl, hj1, hj2⟩ := hw
     obtain ⟨a1, m1, c1, a2, m2, c2, a3, m3, c3, rfl, he'⟩ := he.form
     refine r_ev rfl rfl <| r_ev rfl rfl <| r_ev rfl rfl <| r_fieldAddr rfl rfl <| r_storeA 0 rfl rfl rfl rfl (by rfl) (by repeat' (first | exact rfl | assumption | refine all_cons ?_ ?_)) rfl ?_; refine r_ev rfl rfl <| r_nn <| r_sr <| r_loadB 0 rfl rfl rfl (by rfl) ?_; refine r_ev rfl rfl <| r_storeA 1 rfl rfl rfl rfl (by rfl) (by repeat' (first | exact rfl | assumption | refine all_cons ?_ ?_)) rfl ?_; refine r_ev rfl rfl <| r_nn <| r_retc ?_
     refine r_ret2 [_] rfl (res_blk 1 rfl rfl (by rfl)) (.tmp rfl) (.cons _ (.cons _ (List.Sublist.refl _))) ⟨_, rfl, ?_⟩
     rw [hr]
     exact ⟨_, rfl, arV_mk (hv2.mono hle) he', rfl, by omega, hj2⟩
   ·rw [show markAt l _ _ = false from hk] at hr
    simp only [Bool.false_eq_true, if_false] at hr
    refine r_ev rfl rfl <| r_nn <| r_sr <| r_ev rfl rfl <| r_neq_nil_held rfl rfl <| r_nn <| r_cond_true rfl <| r_sr <| r_loadB 0 rfl rfl rfl (by rfl) ?_; refine r_ev rfl rfl <| r_storeA 1 rfl rfl rfl rfl (by rfl) (by repeat' (first | exact rfl | assumption | refine all_cons ?_ ?_)) rfl ?_; refine r_ev rfl rfl <| r_nn <| r_retc <| r_then_ret ?_
    refine r_ret2 [_] rfl (res_blk 1 rfl rfl (by rfl)) (.tmp rfl) (.cons _ (.cons _ (List.Sublist.refl _))) ⟨_, rfl, ?_⟩
    rw [hr]
    exact ⟨_, _, _, rfl, arV_mk (p := posOf l i) (c := c) hv2 (noE_At g2'), errV_miss _, _, q3, rfl⟩
  ·intro K hK
   refine r_block ?_
   refine r_nilRow 9 1 ?_
   refine r_loop (ι := List Bytes × Value) (fun p => [(0, ptr b 0), (2, ptr b2 0), (4, ptr b4 0)]) (fun _ => g1)
    (fun p => [.row 9 1 p.2 p.1.length (p.1.map str), .blk b4 110 (arCells (posOf l i) c p.2 noEc), .blk b2 110 (arCells 0 [] (.slice none 0 0) noEc), rdE b lv (i + 1 + p.1.length) 0])
    (fun p => (∃ a m c, p.2 = .slice a m c) ∧ lowers (l.drop (i + 1)) = p.1 ++ lowers (l.drop (i + 1 + p.1.length)) ∧ i + 1 + p.1.length ≤ l.length) (fun p => l.length - p.1.length) ([], .slice none 0 0) ⟨⟨_, _, _, rfl⟩, rfl, hl0⟩ ⟨rfl, rfl, rfl, trivial⟩ rfl rfl ?_
   rintro ⟨vs, vv⟩ ⟨⟨va, vm, vc, q1⟩, q2, q3⟩
   simp only at q1 q2 q3
   subst q1
   show Run E _ [(0, ptr b 0), (2, ptr b2 0), (4, ptr b4 0)] g1 [.row 9 1 (.slice va vm vc) vs.length (vs.map str), .blk b4 110 (arCells (posOf l i) c (.slice va vm vc) noEc), .blk b2 110 (arCells 0 [] (.slice none 0 0) noEc), rdE b lv (i + 1 + vs.length) 0] _
   obtain ⟨la, lc, rfl⟩ := slForm2 hs
   refine r_seq <| r_seq ?_
   refine h_beginE [] mixed (fun hG => ?_)
   refine h_takeXA 0 rfl (by kernel_rfl) rfl hG ?_; refine ⟨_, (val_ev rfl), ?_⟩; refine h_takeXA 1 rfl (by kernel_rfl) rfl hG ?_; refine ⟨_, (val_ev rfl), ?_⟩; refine h_takeXA 2 rfl (by kernel_rfl) rfl hG ?_; refine ⟨_, (val_fieldAddr rfl), ?_⟩; refine h_takeXA 3 rfl (by kernel_rfl) rfl hG ?_; refine ⟨_, (val_loadB1 3 rfl rfl rfl), ?_⟩; refine h_takeXA 4 rfl (by kernel_rfl) rfl hG ?_; refine ⟨_, (val_ev rfl), ?_⟩; refine h_takeXA 5 rfl (by kernel_rfl) rfl hG ?_; refine ⟨_, (val_ev rfl), ?_⟩; refine h_takeXA 6 rfl (by kernel_rfl) rfl hG ?_; refine ⟨_, (val_fieldAddr rfl), ?_⟩; refine h_takeXA 7 rfl (by kernel_rfl) rfl hG ?_; refine ⟨_, (val_loadB1 3 rfl rfl rfl), ?_⟩; refine h_takeXA 8 rfl (by kernel_rfl) rfl hG ?_; refine ⟨_, (val_len_sl rfl), ?_⟩; refine h_takeXA 9 rfl (by kernel_rfl) rfl hG ?_; refine ⟨_, (val_ev rfl), ?_⟩; refine h_takeXA 10 rfl (by kernel_rfl) rfl hG ?_; refine ⟨_, (val_ev rfl), ?_⟩
   refine r_dec 29 rfl (fun hjl => ?_) (fun hjl => ?_)
   ·have hjl' : i + 1 + vs.length < l.length := by omega
    obtain ⟨b0, off, cap, hsl, hxx⟩ := hs.held hjl'
    cases hsl
    refine h_takeGXA 11 rfl rfl (by kernel_rfl) rfl hG ?_; refine ⟨_, (val_ev rfl), ?_⟩; refine h_takeGXA 12 rfl rfl (by kernel_rfl) rfl hG ?_; refine ⟨_, (val_ev rfl), ?_⟩; refine h_takeGXA 13 rfl rfl (by kernel_rfl) rfl hG ?_; refine ⟨_, (val_fieldAddr rfl), ?_⟩; refine h_takeGXA 14 rfl rfl (by kernel_rfl) rfl hG ?_; refine ⟨_, (val_loadB1 3 rfl rfl rfl), ?_⟩; refine h_takeGXA 15 rfl rfl (by kernel_rfl) rfl hG ?_; refine ⟨_, (val_ev rfl), ?_⟩; refine h_takeGXA 16 rfl rfl (by kernel_rfl) rfl hG ?_; refine ⟨_, (val_ev rfl), ?_⟩; refine h_takeGXA 17 rfl rfl (by kernel_rfl) rfl hG ?_; refine ⟨_, (val_fieldAddr rfl), ?_⟩; refine h_takeGXA 18 rfl rfl (by kernel_rfl) rfl hG ?_; refine ⟨_, (val_loadB1 3 rfl rfl rfl), ?_⟩
    refine h_takeGXA 19 rfl rfl (by kernel_rfl) rfl hG ⟨_, (val_indexAddr (j := i + 1 + vs.length) rfl rfl rfl hjl'), ?_⟩
    refine h_takeGXA 20 rfl rfl (by kernel_rfl) rfl hG ?_; refine ⟨_, (val_fieldAddr rfl), ?_⟩
    refine h_takeGXA 21 rfl rfl (by kernel_rfl) rfl hG ⟨_, (val_load1 rfl (SlAt.cell tokCells_len hxx hjl' 0 rfl)), ?_⟩
    refine h_takeGXA 22 rfl rfl (by kernel_rfl) rfl hG ?_; refine ⟨_, (val_ev rfl), ?_⟩; refine h_takeXA 23 rfl (by kernel_rfl) rfl hG ?_; refine ⟨_, (val_ev rfl), ?_⟩
    refine h_done (by kernel_rfl) ?_
    refine r_then_normal ?_
    refine r_cond rfl (fun hk1 => ?_) (fun hk1 => ?_)
    ·have hst := lowers_step' hjl' hk1
     refine r_skip <| r_then_normal <| r_block <| r_seq ?_
     -- STOPB
     refine m_begin 15 [0] mixed (by kernel_rfl) (fun hG => ?_)
     refine m_takeXA 0 rfl (by kernel_rfl) rfl hG ?_; refine ⟨_, (val_fieldAddr rfl), ?_⟩; refine m_takeXA 1 rfl (by kernel_rfl) rfl hG ?_; refine ⟨_, (val_loadB1 0 rfl rfl rfl), ?_⟩; refine m_takeXA 2 rfl (by kernel_rfl) rfl hG ?_; refine ⟨_, (val_ev rfl), ?_⟩; refine m_takeXA 3 rfl (by kernel_rfl) rfl hG ?_; refine ⟨_, (val_ev rfl), ?_⟩; refine m_takeXA 4 rfl (by kernel_rfl) rfl hG ?_; refine ⟨_, (val_fieldAddr rfl), ?_⟩; refine m_takeXA 5 rfl (by kernel_rfl) rfl hG ?_; refine ⟨_, (val_loadB1 2 rfl rfl rfl), ?_⟩; refine m_takeXA 6 rfl (by kernel_rfl) rfl hG ?_; refine ⟨_, (val_ev rfl), ?_⟩; refine m_takeXA 7 rfl (by kernel_rfl) rfl hG ?_; refine ⟨_, (val_ev rfl), ?_⟩; refine m_takeXA 8 rfl (by kernel_rfl) rfl hG ?_; refine ⟨_, (val_fieldAddr rfl), ?_⟩; refine m_takeXA 9 rfl (by kernel_rfl) rfl hG ?_; refine ⟨_, (val_loadB1 2 rfl rfl rfl), ?_⟩
     refine m_takeXA 10 rfl (by kernel_rfl) rfl hG ⟨_, (val_indexAddr (j := i + 1 + vs.length) rfl rfl rfl hjl'), ?_⟩
     refine m_takeXA 11 rfl (by kernel_rfl) rfl hG ?_; refine ⟨_, (val_fieldAddr rfl), ?_⟩
     refine m_takeXA 12 rfl (by kernel_rfl) rfl hG ⟨_, (val_load1 rfl (SlAt.cell tokCells_len hxx hjl' 1 rfl)), ?_⟩
     refine m_one 13 (by kernel_rfl) rfl rfl ?_
     refine r_buildSlice rfl rfl (by rfl) (by rfl) (by rfl) (by rfl) (by rfl) (fun b41 => ?_)
     refine r_nn ?_
     refine h_keptA hG ?_
     refine m_one 14 (by kernel_rfl) rfl rfl ?_
     refine r_appendRow 1 0 rfl rfl rfl rfl rfl (by rfl) (by rfl) rfl (by unfold maxLen; omega) (by omega) (fun v' hv' => ?_)
     refine r_rowForm 1 rfl ?_
     rintro ⟨ya, ym, yc, rfl⟩
     refine r_nn ?_
     refine h_keptA hG ?_
     refine m_done (by kernel_rfl) ?_
     refine r_drop (own' := [_, _, _, _]) (.cons _ (List.Sublist.refl _)) ?_
     refine r_fieldAddr rfl rfl <| r_store1 1 rfl rfl rfl rfl rfl rfl <| r_nn <| r_region <| r_ev rfl rfl <| r_ev rfl rfl <| r_fieldAddr rfl rfl <| r_loadB1 3 rfl rfl rfl rfl <| r_add rfl rfl rfl (by omega) ?_; refine r_ev rfl rfl <| r_fieldAddr rfl rfl <| r_store1 3 rfl rfl rfl rfl rfl rfl <| r_nil <| r_in_normal <| r_then_normal ?_
     refine r_again (vs ++ [l[i + 1 + vs.length].text], .slice ya ym yc) ⟨⟨_, _, _, rfl⟩, ?_, ?_⟩ (by simp; omega) ⟨rfl, rfl, rfl, trivial⟩ rfl ?_
     ·simp only
      rw [q2, hst]
      simp [Nat.add_assoc]
     ·simp only [List.length_append, List.length_cons, List.length_nil]
      omega
     ·simp [arCells, repN]
      omega
    ·have hst := lowers_stop' hjl' hk1
     refine r_exit <| r_then_exit <| r_then_exit <| r_in_exit <| r_then_normal ?_
     exact hK (vs, .slice va vm vc) _ ⟨⟨_, _, _, rfl⟩, by simp only; rw [q2, hst, List.append_nil], q3⟩ ⟨rfl, rfl, rfl, trivial⟩
   ·have hst : lowers (l.drop (i + 1 + vs.length)) = [] := by rw [List.drop_eq_nil_of_le (by omega)]; rfl
    refine h_passA 11 rfl rfl rfl (by kernel_rfl) rfl hG ?_; refine h_passA 12 rfl rfl rfl (by kernel_rfl) rfl hG ?_; refine h_passA 13 rfl rfl rfl (by kernel_rfl) rfl hG ?_; refine h_passA 14 rfl rfl rfl (by kernel_rfl) rfl hG ?_; refine h_passA 15 rfl rfl rfl (by kernel_rfl) rfl hG ?_; refine h_passA 16 rfl rfl rfl (by kernel_rfl) rfl hG ?_; refine h_passA 17 rfl rfl rfl (by kernel_rfl) rfl hG ?_; refine h_passA 18 rfl rfl rfl (by kernel_rfl) rfl hG ?_; refine h_passA 19 rfl rfl rfl (by kernel_rfl) rfl hG ?_; refine h_passA 20 rfl rfl rfl (by kernel_rfl) rfl hG ?_; refine h_passA 21 rfl rfl rfl (by kernel_rfl) rfl hG ?_; refine h_passA 22 rfl rfl rfl (by kernel_rfl) rfl hG ?_; refine h_takeXA 23 rfl (by kernel_rfl) rfl hG ?_; refine ⟨_, (val_ev rfl), ?_⟩
    refine h_done (by kernel_rfl) ?_
    refine r_then_normal <| r_cond_false rfl <| r_exit <| r_then_exit <| r_then_exit <| r_in_exit <| r_then_normal ?_
    exact hK (vs, .slice va vm vc) _ ⟨⟨_, _, _, rfl⟩, by simp only; rw [q2, hst, List.append_nil], q3⟩ ⟨rfl, rfl, rfl, trivial⟩
end
end Go.Proofs.YtpjehhnaojjanaaGreatDoor
-- sum b268b9f99a88723c

/- The walks of package readexpr: analysis. -/
namespace Go.Proofs.YtpjehhnaojjanaaGreatDoor
open Go Go.Eng Go.Th Go.Proofs
set_option maxRecDepth 10000
set_option maxHeartbeats 4000000
attribute [local irreducible] wpList Code.wp Run bodyPost Go.Eng.Ends Exit.then Exit.inBlock Again Wq Kq
def armsEnd (l : List Tok) (pos : Int) (x0 : Ex) (acc : List Ar) (j : Nat) : ER := if wordAt l j endB then .ok (caseE pos x0 acc, j + 1) else .error (failPos l j)
section
variable {l : List Tok} (hb : TB l) (m : Nat) (lv : Value) (b : Nat)
 (hX : ∀ g i, ErrT g → ToksAt g lv l → i ≤ l.length → l.length - i < m → SpecL Tryz.prog 118 [ptr b 0] g (rdE b lv i 0) (postE l i b lv (eread l .expr i)))
include hb hX
theorem eanalysis_step (g : Ghost) (i : Nat) (hg : ErrT g) (hs : ToksAt g lv l) (hi : i ≤ l.length) (hm : l.length - i < m) (pos : Int) :
  SpecL Tryz.prog 157 [ptr b 0, newEv 8 pos] g (rdE b lv i 0) (postE l i b lv (caseRes l pos i)) := by
 have hb1 := hb.1
 refine spec_of_run Tryz.func157 rfl Tryz.ntmps157 rfl fun E hE => ?_
 refine r_sr ?_
 refine r_box rfl rfl rfl (fun b3 => ?_)
 refine r_alloc rfl (fun b4 => ?_)
 refine r_ev rfl rfl <| r_nn <| r_sr <| r_ev rfl rfl ?_
 refine r_callL 2 rfl rfl rfl (hX g i hg hs hi hm) ?_
 rintro v g1 r' hw hle
 have hg1 := hg.mono hle
 have hs1 := hs.mono hle
 cases hq : eread l .expr i with
 | error p =>
  rw [hq] at hw
  obtain ⟨ev, e, er, rfl, he, ⟨t, u, rfl, her⟩, j, hj, rfl⟩ := hw
  obtain ⟨a1, m1, c1, a2, m2, c2, a3, m3, c3, rfl, he'⟩ := he.form
  have hr : caseRes l pos i = .error p := by unfold caseRes; rw [hq]
  rw [hr]
  refine r_ev rfl rfl <| r_ev rfl rfl <| r_ev rfl rfl ?_
  refine r_alloc rfl (fun b6 => ?_)
  refine r_storeA 0 rfl rfl rfl rfl (by rfl) (by repeat' (first | exact rfl | assumption | refine all_cons ?_ ?_)) rfl ?_; refine r_ev rfl rfl <| r_nn <| r_seq <| r_sr <| r_ev rfl rfl <| r_neq_nil_held rfl rfl <| r_nn <| r_cond_true rfl <| r_sr <| r_loadB 2 rfl rfl rfl (by rfl) ?_; refine r_ev rfl rfl <| r_storeA 1 rfl rfl rfl rfl (by rfl) (by repeat' (first | exact rfl | assumption | refine all_cons ?_ ?_)) rfl ?_; refine r_ev rfl rfl <| r_nn <| r_retc <| r_then_ret ?_
  refine r_ret2 [_] rfl (res_blk 1 rfl rfl (by rfl)) (.tmp rfl) (.cons _ (.cons _ (.cons _ (List.Sublist.refl _)))) ⟨_, rfl, ?_⟩
  exact ⟨_, _, _, rfl, leafE_V g1 8 pos [] 0, ⟨t, u, rfl, her⟩, j, hj, rfl⟩
 | ok q =>
  obtain ⟨x0, j⟩ := q
  rw [hq] at hw
  obtain ⟨ev, rfl, he, rfl, hj1, hj2⟩ := hw
  obtain ⟨a1, m1, c1, a2, m2, c2, a3, m3, c3, rfl, he'⟩ := he.form
  refine r_ev rfl rfl <| r_ev rfl rfl <| r_ev rfl rfl ?_
  refine r_alloc rfl (fun b6 => ?_)
  refine r_storeA 0 rfl rfl rfl rfl (by rfl) (by repeat' (first | exact rfl | assumption | refine all_cons ?_ ?_)) rfl ?_; refine r_ev rfl rfl <| r_nn <| r_seq <| r_sr <| r_ev rfl rfl <| r_neq_nil_nil rfl rfl <| r_nn <| r_cond_false rfl <| r_skip <| r_then_normal <| r_sr <| r_loadB 0 rfl rfl rfl (by rfl) ?_
  refine r_buildSlice rfl rfl (by rfl) (by rfl) (by rfl) (by rfl) (by rfl) (fun b7 => ?_)
  refine r_publishRow (fun g2 hg2 hs7 => ?_)
  have hgr2 := hg1.mono hg2
  have hs2 := hs1.mono hg2
  have hx2 := he'.mono hg2
  refine r_fieldAddr rfl rfl <| r_store1 2 rfl rfl rfl rfl rfl rfl <| r_nn <| r_seq <| r_sr <| r_ev rfl rfl ?_
  refine r_callL 3 rfl rfl rfl (ewant_spec g2 l hb lv hs2 b j 4 ofB) ?_
  rintro v g2' r' ⟨rfl, hv⟩ _
  rcases hv with ⟨hk, rfl, rfl⟩ | ⟨hk, rfl, rfl⟩
  ·have hlt := tokAt_lt hk
   have hr : caseRes l pos i = eread l (.arms pos x0 []) (j + 1) := by
    unfold caseRes
    rw [hq]
    simp only
    rw [show wordAt l j ofB = true from hk]
    rfl
   have hcl : ∀ {e : Ex} {j : Nat}, caseRes l pos i = .ok (e, j) → i < j := fun h => caseRes_lt h
   generalize caseRes l pos i = cr at hr hcl ⊢
   refine r_ev rfl rfl <| r_nn ?_
   refine r_sr ?_
   refine r_ev rfl rfl <| r_neq_nil_nil rfl rfl <| r_nn <| r_cond_false rfl <| r_skip <| r_then_normal ?_
   refine r_drop (own' := [_, _, _]) (.cons _ (List.Sublist.refl _)) ?_
   -- STOPA
   refine r_cutG (ι := List Ar × Value × Nat × Ghost) (fun p => [(0, ptr b 0), (3, ptr b3 0), (4, ptr b4 0)]) (fun p => p.2.2.2)
    (fun p => [.blk b4 51 noEc, .blk b3 51 (caseCells pos (.slice (some ⟨b7, 0, none⟩) 1 1) p.2.1), rdE b lv p.2.2.1 0])
    (fun p => Ghost.le g2' p.2.2.2 ∧ (∃ xa, SlAt p.2.2.2 14 p.2.1 p.1.length xa ∧ ArsAt p.2.2.2 p.1 xa) ∧ p.2.2.1 ≤ l.length ∧ cr = armsEnd l pos x0 p.1 p.2.2.1) ?_ ?_
   ·rintro ⟨acc, sv, j', g3⟩ ⟨k1, ⟨xa, k2, k3⟩, k4, k5⟩
    simp only at k1 k2 k3 k4 k5
    obtain ⟨sa, sm, sc, rfl⟩ := SlAt.form k2
    have hs3 := hs2.mono k1
    have hx3 := caseE_V (pos := pos) (hs7.mono k1) (hx2.mono k1) k2 k3
    show Run E _ [(0, ptr b 0), (3, ptr b3 0), (4, ptr b4 0)] g3 [.blk b4 51 noEc, .blk b3 51 (caseCells pos (.slice (some ⟨b7, 0, none⟩) 1 1) (.slice sa sm sc)), rdE b lv j' 0] _
    refine r_seq ?_
    -- STOPC
    refine h_beginE [2, 0] mixed (fun hG => ?_)
    refine h_takeXA 0 rfl (by kernel_rfl) rfl hG ?_; refine ⟨_, (val_loadB 0 rfl rfl (by rfl)), ?_⟩; refine h_takeXA 1 rfl (by kernel_rfl) rfl hG ?_; refine ⟨_, (val_ev rfl), ?_⟩
    refine h_one 2 (by kernel_rfl) rfl ?_
    refine r_callL 2 rfl rfl rfl (ewant_spec g3 l hb lv hs3 b j' 4 endB) ?_
    rintro v g4 r' ⟨rfl, hv⟩ _
    rcases hv with ⟨hk2, rfl, rfl⟩ | ⟨hk2, rfl, rfl⟩
    ·refine r_nn ?_
     refine h_keptA hG ?_
     refine h_one 3 (by kernel_rfl) rfl ?_
     refine r_storeA 0 rfl rfl rfl rfl (by rfl) (by repeat' (first | exact rfl | assumption | refine all_cons ?_ ?_)) rfl ?_; refine r_nn ?_
     refine h_keptA hG ?_
     refine h_one 4 (by kernel_rfl) rfl ?_
     refine r_ev rfl rfl <| r_nn ?_
     refine h_keptA hG ?_
     refine h_done (by kernel_rfl) ?_
     refine r_then_normal <| r_retc ?_
     refine r_ret2 [_] rfl (res_blk 0 rfl rfl (by rfl)) (.tmp rfl) (.cons _ (.cons _ (List.Sublist.refl _))) ⟨_, rfl, ?_⟩
     have h2 : cr = .ok (caseE pos x0 acc, j' + 1) := by rw [k5]; unfold armsEnd; rw [show wordAt l j' endB = true from hk2]; rfl
     rw [h2]
     exact ⟨_, rfl, ⟨_, rfl, hx3⟩, rfl, hcl h2, tokAt_lt hk2⟩
    ·refine r_nn ?_
     refine h_keptA hG ?_
     refine h_one 3 (by kernel_rfl) rfl ?_
     refine r_storeA 0 rfl rfl rfl rfl (by rfl) (by repeat' (first | exact rfl | assumption | refine all_cons ?_ ?_)) rfl ?_; refine r_nn ?_
     refine h_keptA hG ?_
     refine h_one 4 (by kernel_rfl) rfl ?_
     refine r_ev rfl rfl <| r_nn ?_
     refine h_keptA hG ?_
     refine h_done (by kernel_rfl) ?_
     refine r_then_normal <| r_retc ?_
     refine r_ret2 [_] rfl (res_blk 0 rfl rfl (by rfl)) (.tmp rfl) (.cons _ (.cons _ (List.Sublist.refl _))) ⟨_, rfl, ?_⟩
     have h2 : cr = .error (failPos l j') := by rw [k5]; unfold armsEnd; rw [show wordAt l j' endB = false from hk2]; rfl
     rw [h2]
     exact ⟨_, _, _, rfl, ⟨_, rfl, hx3⟩, errV_miss _, j', k4, rfl⟩
   ·intro K hK
    refine r_sr <| r_ev rfl rfl <| r_nn <| r_block ?_
    refine r_nilRow 110 14 ?_
    refine r_loop (ι := Bool × Nat × List Ar × Value × List Value × Ghost) (fun p => [(0, ptr b 0), (3, ptr b3 0), (4, ptr b4 0), (8, .bool p.1)]) (fun p => p.2.2.2.2.2)
     (fun p => [.row 110 14 p.2.2.2.1 p.2.2.1.length p.2.2.2.2.1, .blk b4 51 noEc, .blk b3 51 (caseCells pos (.slice (some ⟨b7, 0, none⟩) 1 1) p.2.2.2.1), rdE b lv p.2.1 0])
     (fun p => Ghost.le g2' p.2.2.2.2.2 ∧ (∃ a m c, p.2.2.2.1 = .slice a m c) ∧ i < p.2.1 ∧ p.2.1 ≤ l.length ∧ p.2.2.1.length ≤ p.2.1 ∧ ArsAt p.2.2.2.2.2 p.2.2.1 p.2.2.2.2.1 ∧ cr = if p.1 then eread l (.arms pos x0 p.2.2.1) p.2.1 else armsEnd l pos x0 p.2.2.1 p.2.1)
     (fun p => l.length - p.2.1 + (if p.1 then 1 else 0)) (true, j + 1, [], .slice none 0 0, [], g2')
     ⟨Ghost.le_refl _, ⟨_, _, _, rfl⟩, by simp only; omega, hlt, by simp, arsNil _, by simp only [if_true]; exact hr⟩ ⟨rfl, rfl, rfl, rfl, trivial⟩ rfl rfl ?_
    rintro ⟨more, j', acc, sv, xa, g3⟩ ⟨k1, ⟨sa, sm, sc, k2⟩, k3, k4, k5, k6, k7⟩
    simp only at k1 k2 k3 k4 k5 k6 k7
    subst k2
    have hs3 := hs2.mono k1
    have hgr3 := hgr2.mono k1
    show Run E _ [(0, ptr b 0), (3, ptr b3 0), (4, ptr b4 0), (8, .bool more)] g3 [.row 110 14 (.slice sa sm sc) acc.length xa, .blk b4 51 noEc, .blk b3 51 (caseCells pos (.slice (some ⟨b7, 0, none⟩) 1 1) (.slice sa sm sc)), rdE b lv j' 0] _
    cases more with
    | false =>
     refine r_seq <| r_sr <| r_ev rfl rfl <| r_nn <| r_cond_false rfl <| r_exit <| r_then_exit <| r_then_exit <| r_in_exit <| r_then_normal ?_
     refine r_publishRow (fun g4 hg4 ha4 => ?_)
     exact hK (acc, .slice sa sm sc, j', g4) _ ⟨Ghost.le_trans k1 hg4, ⟨xa, ha4, k6.mono hg4⟩, k4, by simpa using k7⟩ ⟨rfl, rfl, rfl, trivial⟩
    | true =>
     simp only [if_true] at k7
     rw [arms_eq] at k7
     refine r_seq <| r_sr <| r_ev rfl rfl <| r_nn <| r_cond_true rfl <| r_skip <| r_then_normal <| r_seq <| r_block <| r_sr <| r_ev rfl rfl ?_
     refine r_callL 3 rfl rfl rfl (earm_step hb m lv b hX g3 j' hgr3 hs3 k4 (by omega)) ?_
     rintro v g4 r' hw4 hle4
     have hs4 := hs3.mono hle4
     cases hq4 : armRes l j' with
     | error p =>
      rw [hq4] at hw4 k7
      obtain ⟨av, a, er, rfl, ha, ⟨t, u, rfl, her⟩, j2, hj2', rfl⟩ := hw4
      obtain ⟨d0, n0, o0, d1, n1, o1, d2, n2, o2, d3, n3, o3, rfl, ha'⟩ := ha.form
      refine r_publishRow (fun g5 hg5 ha5 => ?_)
      have hle35 := Ghost.le_trans hle4 hg5
      have hx3 := caseE_V (pos := pos) ((hs7.mono k1).mono hle35) ((hx2.mono k1).mono hle35) ha5 (k6.mono hle35)
      refine r_ev rfl rfl <| r_ev rfl rfl <| r_ev rfl rfl ?_
      refine r_alloc rfl (fun b9 => ?_)
      refine r_storeA 0 rfl rfl rfl rfl (by rfl) (by repeat' (first | exact rfl | assumption | refine all_cons ?_ ?_)) rfl ?_; refine r_ev rfl rfl <| r_nn <| r_seq <| r_sr <| r_ev rfl rfl <| r_neq_nil_held rfl rfl <| r_nn <| r_cond_true rfl <| r_sr <| r_loadB 2 rfl rfl rfl (by rfl) ?_; refine r_ev rfl rfl <| r_storeA 1 rfl rfl rfl rfl (by rfl) (by repeat' (first | exact rfl | assumption | refine all_cons ?_ ?_)) rfl ?_; refine r_ev rfl rfl <| r_nn <| r_retc <| r_then_ret <| r_in_ret <| r_then_ret <| r_then_ret <| r_in_ret <| r_then_ret ?_
      refine r_ret2 [_] rfl (res_blk 1 rfl rfl (by rfl)) (.tmp rfl) (.cons _ (.cons _ (.cons _ (List.Sublist.refl _)))) ⟨_, rfl, ?_⟩
      rw [k7]
      exact ⟨_, _, _, rfl, ⟨_, rfl, hx3⟩, ⟨t, u, rfl, her⟩, j2, hj2', rfl⟩
     | ok q =>
      obtain ⟨a, m'⟩ := q
      rw [hq4] at hw4 k7
      simp only at k7
      obtain ⟨av, rfl, ha, rfl, hm1, hm2⟩ := hw4
      obtain ⟨d0, n0, o0, d1, n1, o1, d2, n2, o2, d3, n3, o3, rfl, ha'⟩ := ha.form
      have hars := ars_snoc' (k6.mono hle4) ha'
      refine r_ev rfl rfl <| r_ev rfl rfl <| r_ev rfl rfl ?_
      refine r_alloc rfl (fun b9 => ?_)
      refine r_storeA 0 rfl rfl rfl rfl (by rfl) (by repeat' (first | exact rfl | assumption | refine all_cons ?_ ?_)) rfl ?_; refine r_ev rfl rfl <| r_nn <| r_seq <| r_sr <| r_ev rfl rfl <| r_neq_nil_nil rfl rfl <| r_nn <| r_cond_false rfl <| r_skip <| r_then_normal <| r_region <| r_fieldAddr rfl rfl <| r_loadB1 3 rfl rfl rfl rfl <| r_loadB 0 rfl rfl rfl (by rfl) ?_
      refine r_buildSlice rfl rfl (by rfl) (by rfl) (by rfl) (by rfl) (by rfl) (fun b41 => ?_)
      refine r_appendRow 2 0 rfl rfl rfl rfl rfl (by rfl) (by rfl) rfl (by unfold maxLen; omega) (by omega) (fun v' hv' => ?_)
      refine r_rowForm 2 rfl ?_
      rintro ⟨ya, ym, yc, rfl⟩
      refine r_drop (own' := [_, _, _, _]) (.cons _ (.cons _ (List.Sublist.refl _))) ?_
      refine r_fieldAddr rfl rfl <| r_store1 2 rfl rfl rfl rfl rfl rfl <| r_nil <| r_in_normal <| r_then_normal <| r_region <| r_ev rfl rfl ?_
      refine r_callL 3 rfl rfl rfl (eread_spec g4 l hb lv hs4 b m' 0 5 [124]) ?_
      rintro v g5 r' ⟨rfl, rfl, rfl⟩ _
      refine r_ev rfl rfl <| r_nn ?_
      refine r_again (markAt l m' [124], if markAt l m' [124] then m' + 1 else m', acc ++ [a], .slice ya ym yc, _, g5) ⟨Ghost.le_trans k1 hle4, ⟨_, _, _, rfl⟩, ?_, ?_, ?_, hars, ?_⟩ ?_ ⟨rfl, rfl, rfl, rfl, trivial⟩ rfl ?_
      ·simp only; split <;> omega
      ·simp only
       split
       ·rename_i hk'; exact tokAt_lt hk'
       ·exact hm2
      ·simp only [List.length_append, List.length_cons, List.length_nil]
       split <;> omega
      ·simp only
       rw [k7]
       cases markAt l m' [124] <;> rfl
      ·simp only
       split <;> simp only [if_true] <;> omega
      ·simp [repN]
       exact ⟨rfl, rfl⟩
  ·have hr : caseRes l pos i = .error (failPos l j) := by
    unfold caseRes
    rw [hq]
    simp only
    rw [show wordAt l j ofB = false from hk]
    rfl
   rw [hr]
   refine r_ev rfl rfl <| r_nn <| r_sr <| r_ev rfl rfl <| r_neq_nil_held rfl rfl <| r_nn <| r_cond_true rfl <| r_sr <| r_loadB 2 rfl rfl rfl (by rfl) ?_; refine r_ev rfl rfl <| r_storeA 1 rfl rfl rfl rfl (by rfl) (by repeat' (first | exact rfl | assumption | refine all_cons ?_ ?_)) rfl ?_; refine r_ev rfl rfl <| r_nn <| r_retc <| r_then_ret ?_
   refine r_ret2 [_] rfl (res_blk 1 rfl rfl (by rfl)) (.tmp rfl) (.cons _ (.cons _ (.cons _ (List.Sublist.refl _)))) ⟨_, rfl, ?_⟩
   exact ⟨_, _, _, rfl, kidsE_V (ks := [x0]) g2' 8 pos [] hs7 (exs1 hx2), errV_miss _, j, hj2, rfl⟩
end
end Go.Proofs.YtpjehhnaojjanaaGreatDoor
-- sum 99b03225457439e5

/- The walks of package readexpr: applied, expr. -/
namespace Go.Proofs.YtpjehhnaojjanaaGreatDoor
open Go Go.Eng Go.Th Go.Proofs
set_option maxRecDepth 10000
set_option maxHeartbeats 4000000
attribute [local irreducible] wpList Code.wp Run bodyPost Go.Eng.Ends Exit.then Exit.inBlock Again Wq Kq
inductive ES where
 | go (j : Nat)
 | err (v : Value) (j : Nat) (p : Int)
def ES.val : ES → Value
 | .go _ => .nilIface
 | .err v _ _ => v
def ES.res (b : Nat) (lv : Value) : ES → Res
 | .go j => rdE b lv j 0
 | .err _ j p => rdE b lv j p
def ES.left (l : List Tok) : ES → Nat
 | .go j => l.length - j + 1
 | .err _ _ _ => 0
def AppE (l : List Tok) (cr : ER) (x : Ex) : ES → Prop
 | .go j => j ≤ l.length ∧ cr = eread l (.apps x) j
 | .err v j p => ErrV v ∧ j ≤ l.length ∧ cr = .error p
def appRes (l : List Tok) (i : Nat) : ER := match eread l .atom i with
 | .error p => .error p
 | .ok (e, j) => eread l (.apps e) j
theorem appRes_lt {l : List Tok} {i : Nat} {e : Ex} {j : Nat} (h : appRes l i = .ok (e, j)) : i < j := by
 unfold appRes at h
 cases hq : eread l .atom i with
 | error p => rw [hq] at h; cases h
 | ok q =>
  obtain ⟨x, k⟩ := q
  rw [hq] at h
  simp only at h
  have h1 := eread_lt rfl hq
  have h2 := eread_le h
  omega
theorem postE_es {l : List Tok} {i b : Nat} {lv v : Value} {g' : Ghost} {r' : Res} {r : ER} (h : postE l i b lv r v g' r') : ∃ (ev : Value) (x : Ex) (s : ES), v = .tuple #[ev, s.val] ∧ ExV g' ev x ∧ r' = s.res b lv ∧ (match s with
  | .go j => r = .ok (x, j) ∧ i < j ∧ j ≤ l.length
  | .err v j p => ErrV v ∧ r = .error p ∧ j ≤ l.length) := by
 cases r with
 | error p =>
  obtain ⟨ev, e, er, rfl, he, her, j, hj, rfl⟩ := h
  exact ⟨ev, e, .err er j p, rfl, he, rfl, her, rfl, hj⟩
 | ok q =>
  obtain ⟨e, j⟩ := q
  obtain ⟨ev, rfl, he, rfl, h1, h2⟩ := h
  exact ⟨ev, e, .go j, rfl, he, rfl, rfl, h1, h2⟩
section
variable {l : List Tok} (hb : TB l) (m : Nat) (lv : Value) (b : Nat)
 (hA : ∀ g i, ErrT g → ToksAt g lv l → i ≤ l.length → l.length - i < m + 1 → SpecL Tryz.prog 191 [ptr b 0] g (rdE b lv i 0) (postE l i b lv (eread l .atom i)))
include hb hA
theorem eapplied_step (g : Ghost) (i : Nat) (hg : ErrT g) (hs : ToksAt g lv l) (hi : i ≤ l.length) (hm : l.length - i < m + 1) :
  SpecL Tryz.prog 158 [ptr b 0] g (rdE b lv i 0) (postE l i b lv (appRes l i)) := by
 have hb1 := hb.1
 refine spec_of_run Tryz.func158 rfl Tryz.ntmps158 rfl fun E hE => ?_
 refine r_sr ?_
 refine r_alloc rfl (fun b2 => ?_)
 refine r_ev rfl rfl <| r_nn <| r_sr <| r_ev rfl rfl ?_
 refine r_callL 1 rfl rfl rfl (hA g i hg hs hi hm) ?_
 rintro v g1 r' hw hle
 have hg1 := hg.mono hle
 have hs1 := hs.mono hle
 obtain ⟨ev, x, s, rfl, hx, rfl, hst⟩ := postE_es hw
 have hap : AppE l (appRes l i) x s := by
  unfold appRes
  cases s with
  | go j => obtain ⟨h1, h2, h3⟩ := hst; rw [h1]; exact ⟨h3, rfl⟩
  | err v j p => obtain ⟨h1, h2, h3⟩ := hst; rw [h2]; exact ⟨h1, h3, rfl⟩
 have hij : ∀ j, s = .go j → i < j := by rintro j rfl; exact hst.2.1
 have hcl : ∀ {e : Ex} {j : Nat}, appRes l i = .ok (e, j) → i < j := fun h => appRes_lt h
 generalize appRes l i = cr at hap hcl ⊢
 obtain ⟨a1, m1, c1, a2, m2, c2, a3, m3, c3, rfl, hx'⟩ := hx.form
 refine r_ev rfl rfl <| r_ev rfl rfl <| r_ev rfl rfl ?_
 refine r_alloc rfl (fun b4 => ?_)
 refine r_storeA 0 rfl rfl rfl rfl (by rfl) rfl rfl ?_; refine r_ev rfl rfl <| r_nn ?_
 refine r_cutG (ι := Ex × Value × Value × Value × ES × Ghost) (fun p => [(0, ptr b 0), (2, ptr b2 0), (4, ptr b4 0), (5, p.2.2.2.2.1.val)]) (fun p => p.2.2.2.2.2)
  (fun p => [.blk b4 51 (exCells p.1 p.2.1 p.2.2.1 p.2.2.2.1), .blk b2 51 noEc, p.2.2.2.2.1.res b lv])
  (fun p => Ghost.le g1 p.2.2.2.2.2 ∧ ExAt p.2.2.2.2.2 p.1 (exCells p.1 p.2.1 p.2.2.1 p.2.2.2.1) ∧ (match p.2.2.2.2.1 with | .go j => j ≤ l.length ∧ cr = .ok (p.1, j) | .err v j q => ErrV v ∧ j ≤ l.length ∧ cr = .error q)) ?_ ?_
 ·rintro ⟨x1, v1, v2, v3, s1, g2⟩ ⟨k1, k2, k3⟩
  simp only at k1 k2 k3
  show Run E _ [(0, ptr b 0), (2, ptr b2 0), (4, ptr b4 0), (5, s1.val)] g2 [.blk b4 51 (exCells x1 v1 v2 v3), .blk b2 51 noEc, s1.res b lv] _
  have hf : ∃ a1 m1 c1 a2 m2 c2 a3 m3 c3, v1 = .slice a1 m1 c1 ∧ v2 = .slice a2 m2 c2 ∧ v3 = .slice a3 m3 c3 := by
   obtain ⟨a1, m1, c1, a2, m2, c2, a3, m3, c3, xk, xa, e, _⟩ := k2.form
   simp only [exCells, List.cons.injEq, and_true, true_and] at e
   exact ⟨a1, m1, c1, a2, m2, c2, a3, m3, c3, e.1, e.2.1, e.2.2⟩
  obtain ⟨a1, m1, c1, a2, m2, c2, a3, m3, c3, rfl, rfl, rfl⟩ := hf
  refine r_sr <| r_loadB 0 rfl rfl rfl (by rfl) ?_; refine r_ev rfl rfl <| r_storeA 1 rfl rfl rfl rfl (by rfl) (by repeat' (first | exact rfl | assumption | refine all_cons ?_ ?_)) rfl ?_; refine r_ev rfl rfl <| r_nn <| r_retc ?_
  refine r_ret2 [_] rfl (res_blk 1 rfl rfl (by rfl)) (.tmp rfl) (.cons _ (.cons _ (List.Sublist.refl _))) ⟨_, rfl, ?_⟩
  cases s1 with
  | err v j p =>
   obtain ⟨h0', h1', h2'⟩ := k3
   rw [h2']
   exact ⟨_, x1, _, rfl, ⟨_, rfl, k2⟩, h0', j, h1', rfl⟩
  | go j =>
   obtain ⟨h1', h2'⟩ := k3
   have := hcl h2'
   rw [h2']
   exact ⟨_, rfl, ⟨_, rfl, k2⟩, rfl, this, h1'⟩
 ·intro K hK
  refine r_block ?_
  refine r_loop (ι := Ex × Value × Value × Value × ES × Ghost) (fun p => [(0, ptr b 0), (2, ptr b2 0), (4, ptr b4 0), (5, p.2.2.2.2.1.val)]) (fun p => p.2.2.2.2.2)
   (fun p => [.blk b4 51 (exCells p.1 p.2.1 p.2.2.1 p.2.2.2.1), .blk b2 51 noEc, p.2.2.2.2.1.res b lv])
   (fun p => Ghost.le g1 p.2.2.2.2.2 ∧ ExAt p.2.2.2.2.2 p.1 (exCells p.1 p.2.1 p.2.2.1 p.2.2.2.1) ∧ AppE l cr p.1 p.2.2.2.2.1 ∧ (∀ j, p.2.2.2.2.1 = .go j → i < j)) (fun p => p.2.2.2.2.1.left l)
   (x, .slice a1 m1 c1, .slice a2 m2 c2, .slice a3 m3 c3, s, g1) ⟨Ghost.le_refl _, hx', hap, hij⟩ ⟨rfl, rfl, rfl, rfl, trivial⟩ rfl rfl ?_
  rintro ⟨x1, v1, v2, v3, s1, g2⟩ ⟨k1, k2, k3, k4⟩
  simp only at k1 k2 k3 k4
  show Run E _ [(0, ptr b 0), (2, ptr b2 0), (4, ptr b4 0), (5, s1.val)] g2 [.blk b4 51 (exCells x1 v1 v2 v3), .blk b2 51 noEc, s1.res b lv] _
  have hf : ∃ a1 m1 c1 a2 m2 c2 a3 m3 c3, v1 = .slice a1 m1 c1 ∧ v2 = .slice a2 m2 c2 ∧ v3 = .slice a3 m3 c3 := by
   obtain ⟨a1, m1, c1, a2, m2, c2, a3, m3, c3, xk, xa, e, _⟩ := k2.form
   simp only [exCells, List.cons.injEq, and_true, true_and] at e
   exact ⟨a1, m1, c1, a2, m2, c2, a3, m3, c3, e.1, e.2.1, e.2.2⟩
  obtain ⟨e1, n1, d1, e2, n2, d2, e3, n3, d3, rfl, rfl, rfl⟩ := hf
  have hs2 := hs1.mono k1
  have hg2 := hg1.mono k1
  obtain ⟨la, lc, rfl⟩ := slForm2 hs
  cases s1 with
  | err v j p =>
   obtain ⟨⟨t, u, rfl, her⟩, h1', h2'⟩ := k3
   unfold ES.val ES.res
   simp only
   refine r_seq <| r_seq ?_
   refine h_beginE [] mixed (fun hG => ?_)
   refine h_takeXA 0 rfl (by kernel_rfl) rfl hG ?_; refine ⟨_, (val_ev rfl), ?_⟩
   refine h_takeXA 1 rfl (by kernel_rfl) rfl hG ⟨_, (val_eql_nil_held rfl), ?_⟩
   refine h_takeXA 2 rfl (by kernel_rfl) rfl hG ?_; refine ⟨_, (val_ev rfl), ?_⟩; refine h_passA 3 rfl rfl rfl (by kernel_rfl) rfl hG ?_; refine h_passA 4 rfl rfl rfl (by kernel_rfl) rfl hG ?_; refine h_passA 5 rfl rfl rfl (by kernel_rfl) rfl hG ?_; refine h_passA 6 rfl rfl rfl (by kernel_rfl) rfl hG ?_; refine h_passA 7 rfl rfl rfl (by kernel_rfl) rfl hG ?_; refine h_passA 8 rfl rfl rfl (by kernel_rfl) rfl hG ?_; refine h_passA 9 rfl rfl rfl (by kernel_rfl) rfl hG ?_; refine h_passA 10 rfl rfl rfl (by kernel_rfl) rfl hG ?_; refine h_passA 11 rfl rfl rfl (by kernel_rfl) rfl hG ?_; refine h_passA 12 rfl rfl rfl (by kernel_rfl) rfl hG ?_; refine h_takeXA 13 rfl (by kernel_rfl) rfl hG ?_; refine ⟨_, (val_ev rfl), ?_⟩; refine h_takeXA 14 rfl (by kernel_rfl) rfl hG ?_; refine ⟨_, (val_ev rfl), ?_⟩; refine h_passA 15 rfl rfl rfl (by kernel_rfl) rfl hG ?_; refine h_passA 16 rfl rfl rfl (by kernel_rfl) rfl hG ?_; refine h_passA 17 rfl rfl rfl (by kernel_rfl) rfl hG ?_; refine h_passA 18 rfl rfl rfl (by kernel_rfl) rfl hG ?_; refine h_passA 19 rfl rfl rfl (by kernel_rfl) rfl hG ?_; refine h_passA 20 rfl rfl rfl (by kernel_rfl) rfl hG ?_; refine h_passA 21 rfl rfl rfl (by kernel_rfl) rfl hG ?_; refine h_passA 22 rfl rfl rfl (by kernel_rfl) rfl hG ?_; refine h_passA 23 rfl rfl rfl (by kernel_rfl) rfl hG ?_; refine h_passA 24 rfl rfl rfl (by kernel_rfl) rfl hG ?_; refine h_passA 25 rfl rfl rfl (by kernel_rfl) rfl hG ?_; refine h_takeXA 26 rfl (by kernel_rfl) rfl hG ?_; refine ⟨_, (val_ev rfl), ?_⟩
   refine h_done (by kernel_rfl) ?_
   refine r_then_normal <| r_cond_false rfl <| r_exit <| r_then_exit <| r_then_exit <| r_in_exit <| r_then_normal ?_
   exact hK (x1, .slice e1 n1 d1, .slice e2 n2 d2, .slice e3 n3 d3, .err _ j p, g2) _ ⟨k1, k2, ⟨t, u, rfl, her⟩, h1', h2'⟩ ⟨rfl, rfl, rfl, rfl, trivial⟩
  | go j =>
   obtain ⟨h1', h2'⟩ := k3
   have hij' := k4 j rfl
   rw [eread_step] at h2'
   simp only [estep] at h2'
   unfold ES.val ES.res
   simp only
   refine r_seq <| r_seq ?_
   -- STOPC
   refine h_beginE [] mixed (fun hG => ?_)
   refine h_takeXA 0 rfl (by kernel_rfl) rfl hG ?_; refine ⟨_, (val_ev rfl), ?_⟩
   refine h_takeXA 1 rfl (by kernel_rfl) rfl hG ⟨_, (val_eql_nil_nil rfl), ?_⟩
   refine h_takeXA 2 rfl (by kernel_rfl) rfl hG ?_; refine ⟨_, (val_ev rfl), ?_⟩; refine h_takeGXA 3 rfl rfl (by kernel_rfl) rfl hG ?_; refine ⟨_, (val_ev rfl), ?_⟩; refine h_takeGXA 4 rfl rfl (by kernel_rfl) rfl hG ?_; refine ⟨_, (val_ev rfl), ?_⟩; refine h_takeGXA 5 rfl rfl (by kernel_rfl) rfl hG ?_; refine ⟨_, (val_fieldAddr rfl), ?_⟩; refine h_takeGXA 6 rfl rfl (by kernel_rfl) rfl hG ?_; refine ⟨_, (val_loadB1 2 rfl rfl rfl), ?_⟩; refine h_takeGXA 7 rfl rfl (by kernel_rfl) rfl hG ?_; refine ⟨_, (val_ev rfl), ?_⟩; refine h_takeGXA 8 rfl rfl (by kernel_rfl) rfl hG ?_; refine ⟨_, (val_ev rfl), ?_⟩; refine h_takeGXA 9 rfl rfl (by kernel_rfl) rfl hG ?_; refine ⟨_, (val_fieldAddr rfl), ?_⟩; refine h_takeGXA 10 rfl rfl (by kernel_rfl) rfl hG ?_; refine ⟨_, (val_loadB1 2 rfl rfl rfl), ?_⟩; refine h_takeGXA 11 rfl rfl (by kernel_rfl) rfl hG ?_; refine ⟨_, (val_len_sl rfl), ?_⟩; refine h_takeGXA 12 rfl rfl (by kernel_rfl) rfl hG ?_; refine ⟨_, (val_ev rfl), ?_⟩; refine h_takeXA 13 rfl (by kernel_rfl) rfl hG ?_; refine ⟨_, (val_ev rfl), ?_⟩; refine h_takeXA 14 rfl (by kernel_rfl) rfl hG ?_; refine ⟨_, (val_ev rfl), ?_⟩
   refine r_dec 26 rfl (fun hlt => ?_) (fun hlt => ?_)
   ·have hlt' : j < l.length := by omega
    obtain ⟨b0, off, cap, hsl, hxx⟩ := hs2.held hlt'
    cases hsl
    refine h_takeGXA 15 rfl rfl (by kernel_rfl) rfl hG ?_; refine ⟨_, (val_ev rfl), ?_⟩; refine h_takeGXA 16 rfl rfl (by kernel_rfl) rfl hG ?_; refine ⟨_, (val_ev rfl), ?_⟩; refine h_takeGXA 17 rfl rfl (by kernel_rfl) rfl hG ?_; refine ⟨_, (val_fieldAddr rfl), ?_⟩; refine h_takeGXA 18 rfl rfl (by kernel_rfl) rfl hG ?_; refine ⟨_, (val_loadB1 2 rfl rfl rfl), ?_⟩; refine h_takeGXA 19 rfl rfl (by kernel_rfl) rfl hG ?_; refine ⟨_, (val_ev rfl), ?_⟩; refine h_takeGXA 20 rfl rfl (by kernel_rfl) rfl hG ?_; refine ⟨_, (val_ev rfl), ?_⟩; refine h_takeGXA 21 rfl rfl (by kernel_rfl) rfl hG ?_; refine ⟨_, (val_fieldAddr rfl), ?_⟩; refine h_takeGXA 22 rfl rfl (by kernel_rfl) rfl hG ?_; refine ⟨_, (val_loadB1 2 rfl rfl rfl), ?_⟩
    refine h_takeGXA 23 rfl rfl (by kernel_rfl) rfl hG ⟨_, (val_indexAddr (j := j) rfl rfl rfl hlt'), ?_⟩
    refine h_takeGXA 24 rfl rfl (by kernel_rfl) rfl hG ⟨_, (val_load rfl (toks_rd hxx hlt') rfl), ?_⟩
    refine h_one 25 (by kernel_rfl) rfl ?_
    refine r_take rfl ?_
    refine r_callP rfl rfl (estarts_spec g2 l[j]) ?_
    refine r_nn ?_
    refine h_keptA hG ?_
    refine h_takeXA 26 rfl (by kernel_rfl) rfl hG ?_; refine ⟨_, (val_ev rfl), ?_⟩
    refine h_done (by kernel_rfl) ?_
    rw [startsE_at hlt'] at h2'
    cases hst : startsE l[j] with
    | false =>
     rw [hst] at h2'
     refine r_then_normal <| r_cond_false rfl <| r_exit <| r_then_exit <| r_then_exit <| r_in_exit <| r_then_normal ?_
     exact hK (x1, .slice e1 n1 d1, .slice e2 n2 d2, .slice e3 n3 d3, .go j, g2) _ ⟨k1, k2, h1', h2'⟩ ⟨rfl, rfl, rfl, rfl, trivial⟩
    | true =>
     rw [hst] at h2'
     simp only [if_true] at h2'
     refine r_then_normal <| r_cond_true rfl <| r_skip <| r_then_normal <| r_block <| r_sr ?_
     refine r_alloc rfl (fun b6 => ?_)
     refine r_nn <| r_sr <| r_ev rfl rfl ?_
     refine r_callL 3 rfl rfl rfl (hA g2 j hg2 hs2 h1' (by omega)) ?_
     rintro v g3 r' hw3 hle3
     obtain ⟨av, a, s3, rfl, ha, rfl, hst3⟩ := postE_es hw3
     have hap3 : AppE l cr (kidsE 5 x1.pos [] [x1, a]) s3 := by
      rw [h2']
      cases s3 with
      | go j => obtain ⟨h1, h2, h3⟩ := hst3; rw [h1]; exact ⟨h3, rfl⟩
      | err v j p => obtain ⟨h1, h2, h3⟩ := hst3; rw [h2]; exact ⟨h1, h3, rfl⟩
     have hij3 : ∀ j', s3 = .go j' → j < j' := by rintro j' rfl; exact hst3.2.1
     obtain ⟨q1, o1, p1, q2, o2, p2, q3, o3, p3, rfl, ha'⟩ := ha.form
     refine r_ev rfl rfl <| r_ev rfl rfl <| r_ev rfl rfl <| r_storeA 0 rfl rfl rfl rfl (by rfl) (by repeat' (first | exact rfl | assumption | refine all_cons ?_ ?_)) rfl ?_; refine r_ev rfl rfl <| r_nn <| r_region <| r_fieldAddr rfl rfl <| r_loadB1 1 rfl rfl rfl rfl <| r_loadB 1 rfl rfl rfl (by rfl) ?_; refine r_loadB 0 rfl rfl rfl (by rfl) ?_
     refine r_buildSlice rfl rfl (by rfl) (by rfl) (by rfl) (by rfl) (by rfl) (fun b10 => ?_)
     refine r_publishRow (fun g4 hg4 hs4 => ?_)
     have hle34 := Ghost.le_trans hle3 hg4
     refine r_build rfl rfl (by rfl) ?_; refine r_storeA 1 rfl rfl rfl rfl (by rfl) (by repeat' (first | exact rfl | assumption | refine all_cons ?_ ?_)) rfl ?_; refine r_nil <| r_in_normal <| r_then_normal ?_
     refine r_drop (own' := [_, _, _]) (.cons _ (List.Sublist.refl _)) ?_
     refine r_again (kidsE 5 x1.pos [] [x1, a], .slice (some ⟨b10, 0, none⟩) 2 2, .slice none 0 0, .slice none 0 0, s3, g4) ⟨Ghost.le_trans k1 hle34, ?_, hap3, fun j' h => Nat.lt_trans hij' (hij3 j' h)⟩ ?_ ⟨rfl, rfl, rfl, rfl, trivial⟩ rfl rfl
     ·obtain ⟨cs, e, hh⟩ := kidsE_V g4 5 x1.pos [] hs4 (exs2 (k2.mono hle34) (ha'.mono hg4))
      simp only [Value.agg.injEq] at e
      have e' := congrArg Array.toList e
      simp only at e'
      rw [← e'] at hh
      exact hh
     ·cases s3 with
      | err v j' p => simp only [ES.left]; omega
      | go j' =>
       have := hij3 j' rfl
       simp only [ES.left]; omega
   ·have hst : startsEAt l j = false := by unfold startsEAt; rw [List.getElem?_eq_none (by omega)]
    rw [hst] at h2'
    simp only [Bool.false_eq_true, if_false] at h2'
    refine h_passA 15 rfl rfl rfl (by kernel_rfl) rfl hG ?_; refine h_passA 16 rfl rfl rfl (by kernel_rfl) rfl hG ?_; refine h_passA 17 rfl rfl rfl (by kernel_rfl) rfl hG ?_; refine h_passA 18 rfl rfl rfl (by kernel_rfl) rfl hG ?_; refine h_passA 19 rfl rfl rfl (by kernel_rfl) rfl hG ?_; refine h_passA 20 rfl rfl rfl (by kernel_rfl) rfl hG ?_; refine h_passA 21 rfl rfl rfl (by kernel_rfl) rfl hG ?_; refine h_passA 22 rfl rfl rfl (by kernel_rfl) rfl hG ?_; refine h_passA 23 rfl rfl rfl (by kernel_rfl) rfl hG ?_; refine h_passA 24 rfl rfl rfl (by kernel_rfl) rfl hG ?_; refine h_passA 25 rfl rfl rfl (by kernel_rfl) rfl hG ?_; refine h_takeXA 26 rfl (by kernel_rfl) rfl hG ?_; refine ⟨_, (val_ev rfl), ?_⟩
    refine h_done (by kernel_rfl) ?_
    refine r_then_normal <| r_cond_false rfl <| r_exit <| r_then_exit <| r_then_exit <| r_in_exit <| r_then_normal ?_
    exact hK (x1, .slice e1 n1 d1, .slice e2 n2 d2, .slice e3 n3 d3, .go j, g2) _ ⟨k1, k2, h1', h2'⟩ ⟨rfl, rfl, rfl, rfl, trivial⟩
end
end Go.Proofs.YtpjehhnaojjanaaGreatDoor
-- sum bb83209dab5a2a29


/- The walk of typedholesmake's Tape.Type: it makes types that can be written, with short texts. -/
import Derived.Test.YtpjehhnaojjanaaGreatDoorK12
import Derived.Test.YtpjehhnaojjanaaGreatDoorK1
import Derived.Lib.ItoaNum
namespace Go.Th
def bT : Nat → Nat
 | 0 => 3
 | d + 1 => 12 + 2 * bT d
theorem bT_pos : ∀ d, 3 ≤ bT d
 | 0 => Nat.le_refl _
 | d + 1 => by have := bT_pos d; simp only [bT]; omega
def gdD (d : Da) : Prop := kindOf d.name = 2 ∧ d.name.length ≤ 6 ∧ d.params.length ≤ 2
theorem showArg_len (t : Ty) : (showArg t).length ≤ (showT t).length + 2 := by
 unfold showArg
 split <;> simp
theorem showArgs_len : ∀ {ta : List Ty} {B : Nat}, (∀ t ∈ ta, (showT t).length ≤ B) → (showArgs ta).length ≤ ta.length * (3 + B)
 | [], B, _ => by simp [showArgs]
 | a :: r, B, h => by
  have h1 := h a (List.mem_cons_self ..)
  have h2 := showArgs_len (ta := r) (fun t ht => h t (List.mem_cons_of_mem _ ht))
  have h3 := showArg_len a
  rw [showArgs_cons]
  simp only [List.length_cons, List.length_append, Nat.add_mul]
  omega
theorem showFrom_len (t : Ty) : (showFrom t).length ≤ (showT t).length + 2 := by
 unfold showFrom
 split <;> simp
end Go.Th
namespace Go.Proofs.YtpjehhnaojjanaaGreatDoor
open Go Go.Eng Go.Th Go.Proofs
set_option maxRecDepth 10000
set_option maxHeartbeats 4000000
attribute [local irreducible] wpList Code.wp Run bodyPost Go.Eng.Ends Exit.then Exit.inBlock Again Wq Kq
structure TpE (g : Ghost) (codes : List Int) (lv : Value) (ds : List Da) (dv : Value) (lf : List Ty) (fv : Value) : Prop where
 c : SlAt g 1 lv codes.length (codes.map (Value.int .i64))
 hc : codes.length ≤ 1000000
 d : ∃ xd, SlAt g 4 dv ds.length xd ∧ AllAt (DaAt g) ds xd
 dn : ds.length ≤ 8
 dg : ∀ d ∈ ds, gdD d
 f : ∃ xl, SlAt g 5 fv lf.length xl ∧ TysAt g lf xl
 fn : lf.length ≤ 8
 fg : ∀ t ∈ lf, GoodT t ∧ (showT t).length ≤ 3
theorem TpE.mono {g g' : Ghost} (hle : Ghost.le g g') {codes : List Int} {lv : Value} {ds : List Da} {dv : Value} {lf : List Ty} {fv : Value} (h : TpE g codes lv ds dv lf fv) : TpE g' codes lv ds dv lf fv := by
 obtain ⟨h1, h2, ⟨xd, h3, h4⟩, h5, h6, ⟨xl, h7, h8⟩, h9, h10⟩ := h
 exact ⟨h1.mono hle, h2, ⟨xd, h3.mono hle, das_mono hle h4⟩, h5, h6, ⟨xl, h7.mono hle, h8.mono hle⟩, h9, h10⟩
def tpPost (codes : List Int) (b : Nat) (lv : Value) (d : Nat) (v : Value) (g' : Ghost) (r' : Res) : Prop := ∃ (t : Ty) (i' : Nat), TyV g' v t ∧ GoodT t ∧ (showT t).length ≤ bT d ∧ r' = tpB b lv i' ∧ i' ≤ codes.length
theorem good_int : GoodT intT := .con intB [] (by decide) (fun a h => by cases h)
theorem show_int : (showT intT).length = 3 := by decide
theorem TType_step (codes : List Int) (b d : Nat) (hd : d ≤ 1000)
  (hI : ∀ d', d = d' + 1 → ∀ g i lv ds dv lf fv, TpE g codes lv ds dv lf fv → i ≤ codes.length → SpecL Tryz.prog 31 [ptr b 0, dv, fv, .int .i64 d'] g (tpB b lv i) (tpPost codes b lv d'))
  (g : Ghost) (i : Nat) (lv : Value) (ds : List Da) (dv : Value) (lf : List Ty) (fv : Value) (hE0 : TpE g codes lv ds dv lf fv) (hi : i ≤ codes.length) :
  SpecL Tryz.prog 31 [ptr b 0, dv, fv, .int .i64 d] g (tpB b lv i) (tpPost codes b lv d) := by
 obtain ⟨xd, hd1, hd2⟩ := hE0.d
 obtain ⟨xl, hf1, hf2⟩ := hE0.f
 have hb3 := bT_pos d
 have hdn := hE0.dn
 have hfn := hE0.fn
 obtain ⟨da, dc, rfl⟩ := slForm2 hd1
 obtain ⟨fa, fc, rfl⟩ := slForm2 hf1
 refine spec_of_run Tryz.func31 rfl Tryz.ntmps31 rfl fun E hE => ?_
 refine r_sr ?_
 refine r_alloc rfl (fun b8 => ?_)
 refine r_nn <| r_sr <| r_ev rfl rfl ?_
 refine r_callL 1 rfl rfl rfl (Next_spec g codes hE0.hc lv hE0.c b i hi 7 (by omega)) ?_
 rintro v g1 r' ⟨rfl, k, i1, rfl, hk1, hk2, rfl, hi1⟩ _
 refine r_ev rfl rfl <| r_nn ?_
 refine r_seq ?_
 refine r_block ?_
 refine r_cutG (ι := Bool) (fun p => [(0, ptr b 0), (1, .slice da ds.length dc), (2, .slice fa lf.length fc), (3, .int .i64 d), (8, ptr b8 0), (9, .int .i64 k), (16, .bool p)]) (fun _ => g1)
  (fun _ => [.blk b8 49 (tyCells noT (.slice none 0 0)), tpB b lv i1]) (fun p => p = true → 0 < lf.length) ?_ ?_
 ·intro p hp
  show Run E _ [(0, ptr b 0), (1, .slice da ds.length dc), (2, .slice fa lf.length fc), (3, .int .i64 d), (8, ptr b8 0), (9, .int .i64 k), (16, .bool p)] g1 [.blk b8 49 (tyCells noT (.slice none 0 0)), tpB b lv i1] _
  cases p with
  | true =>
   have hl0 := hp rfl
   refine r_cond_true rfl <| r_sr <| r_ev rfl rfl <| r_ev rfl rfl <| r_ev rfl rfl <| r_len_sl rfl rfl ?_
   refine r_callL 1 rfl rfl rfl (Next_spec g1 codes hE0.hc lv hE0.c b i1 hi1 lf.length (by omega)) ?_
   rintro v g2 r' ⟨rfl, q, i2, rfl, hq1, hq2, rfl, hi2⟩ _
   have hq : q.toNat < lf.length := by omega
   obtain ⟨b0, off, cap, hsl, hx⟩ := hf1.held hq
   cases hsl
   obtain ⟨sl', t2, hr⟩ := tys_rdA hf2 hx hq
   obtain ⟨f1, f2⟩ := hE0.fg _ (List.getElem_mem hq)
   obtain ⟨_, hsl2, _⟩ := t2.args
   obtain ⟨ya, ym, yc, rfl⟩ := SlAt.form hsl2
   skip
   refine r_indexAddr (j := q.toNat) rfl rfl rfl (by omega) hq ?_
   refine r_load rfl rfl (hr _) rfl ?_
   refine r_storeA 0 rfl rfl rfl rfl (by rfl) (by repeat' (first | exact rfl | assumption | refine all_cons ?_ ?_)) rfl ?_; refine r_nn <| r_retc <| r_in_ret <| r_then_ret ?_
   exact r_retA [_] rfl (res_blk 0 rfl rfl (by rfl)) (.cons _ (List.Sublist.refl _)) ⟨_, rfl, _, i2, ⟨_, rfl, t2⟩, f1, by omega, rfl, hi2⟩
  | false =>
  refine r_cond_false rfl ?_
  refine r_cutG (ι := Bool) (fun p => [(0, ptr b 0), (1, .slice da ds.length dc), (2, .slice fa lf.length fc), (3, .int .i64 d), (8, ptr b8 0), (9, .int .i64 k), (31, .bool p)]) (fun _ => g1)
   (fun _ => [.blk b8 49 (tyCells noT (.slice none 0 0)), tpB b lv i1]) (fun p => p = false → 1 ≤ d) ?_ ?_
  ·intro p hp
   show Run E _ [(0, ptr b 0), (1, .slice da ds.length dc), (2, .slice fa lf.length fc), (3, .int .i64 d), (8, ptr b8 0), (9, .int .i64 k), (31, .bool p)] g1 [.blk b8 49 (tyCells noT (.slice none 0 0)), tpB b lv i1] _
   cases p with
   | true =>
    refine r_cond_true rfl <| r_sr ?_
    refine r_callN rfl rfl (rInt_spec g1) ?_
    rintro w g2 hw hle
    obtain ⟨ya, ym, yc, rfl, ht⟩ := hw.cells5
    refine r_storeA 0 rfl rfl rfl rfl (by rfl) (by repeat' (first | exact rfl | assumption | refine all_cons ?_ ?_)) rfl ?_; refine r_nn <| r_retc <| r_in_ret <| r_then_ret ?_
    exact r_retA [_] rfl (res_blk 0 rfl rfl (by rfl)) (.cons _ (List.Sublist.refl _)) ⟨_, rfl, intT, i1, ⟨_, rfl, ht⟩, good_int, by rw [show_int]; exact hb3, rfl, hi1⟩
   | false =>
   have hd1' := hp rfl
   obtain ⟨d', rfl⟩ : ∃ d', d = d' + 1 := ⟨d - 1, by omega⟩
   have ih := hI d' rfl
   refine r_cond_false rfl ?_
   refine r_cutG (ι := Bool) (fun p => [(0, ptr b 0), (1, .slice da ds.length dc), (2, .slice fa lf.length fc), (3, .int .i64 (d' + 1 : Nat)), (8, ptr b8 0), (9, .int .i64 k), (39, .bool p)]) (fun _ => g1)
    (fun _ => [.blk b8 49 (tyCells noT (.slice none 0 0)), tpB b lv i1]) (fun p => p = true → 0 < ds.length) ?_ ?_
   ·intro p hp
    show Run E _ [(0, ptr b 0), (1, .slice da ds.length dc), (2, .slice fa lf.length fc), (3, .int .i64 (d' + 1 : Nat)), (8, ptr b8 0), (9, .int .i64 k), (39, .bool p)] g1 [.blk b8 49 (tyCells noT (.slice none 0 0)), tpB b lv i1] _
    cases p with
    | true =>
     have hl0 := hp rfl
     refine r_cond_true rfl <| r_sr <| r_ev rfl rfl <| r_ev rfl rfl <| r_ev rfl rfl <| r_len_sl rfl rfl ?_
     refine r_callL 1 rfl rfl rfl (Next_spec g1 codes hE0.hc lv hE0.c b i1 hi1 ds.length (by omega)) ?_
     rintro v g2 r' ⟨rfl, q, i2, rfl, hq1, hq2, rfl, hi2⟩ _
     have hq : q.toNat < ds.length := by omega
     obtain ⟨b0, off, cap, hsl, hx⟩ := hd1.held hq
     cases hsl
     obtain ⟨cs, e1, hr⟩ := all_rd (fun _ _ h => h.one.1) hd2 hx hq
     obtain ⟨n1, n2, n3⟩ := hE0.dg _ (List.getElem_mem hq)
     generalize ds[q.toNat] = dd at e1 n1 n2 n3
     obtain ⟨a1, c1, a2, c2, xc, rfl, _⟩ := e1.form
     skip
     refine r_indexAddr (j := q.toNat) rfl rfl rfl (by omega) hq ?_
     refine r_load rfl rfl (hr _) rfl ?_
     refine r_alloc rfl (fun b10 => ?_)
     refine r_storeA 0 rfl rfl rfl rfl (by rfl) (by repeat' (first | exact rfl | assumption | refine all_cons ?_ ?_)) rfl ?_; refine r_nn <| r_sr <| r_ev rfl rfl <| r_nn <| r_seq <| r_sr <| r_ev rfl rfl <| r_nn <| r_block ?_
     refine r_nilRow 49 5 ?_
     refine r_loop (ι := Nat × List Ty × Value × List Value × Nat × Ghost) (fun p => [(0, ptr b 0), (1, .slice (some ⟨b0, off, none⟩) ds.length dc), (2, .slice fa lf.length fc), (3, .int .i64 (d' + 1 : Nat)), (8, ptr b8 0), (10, ptr b10 0), (11, p.2.2.1), (12, .int .i64 p.1)]) (fun p => p.2.2.2.2.2)
      (fun p => [.row 49 5 p.2.2.1 p.2.1.length p.2.2.2.1, .blk b10 86 [.int .i64 dd.pos, str dd.name, .slice a1 dd.params.length c1, .slice a2 dd.cons.length c2], .blk b8 49 (tyCells noT (.slice none 0 0)), tpB b lv p.2.2.2.2.1])
      (fun p => Ghost.le g2 p.2.2.2.2.2 ∧ p.1 ≤ dd.params.length ∧ p.2.1.length = p.1 ∧ TysAt p.2.2.2.2.2 p.2.1 p.2.2.2.1 ∧ (∀ t ∈ p.2.1, GoodT t ∧ (showT t).length ≤ bT d') ∧ p.2.2.2.2.1 ≤ codes.length) (fun p => dd.params.length - p.1) (0, [], .slice none 0 0, [], i2, g2)
      ⟨Ghost.le_refl _, Nat.zero_le _, rfl, tysNil _, (fun t h => by cases h), hi2⟩ ⟨rfl, rfl, rfl, rfl, rfl, rfl, rfl, rfl, trivial⟩ rfl rfl ?_
     rintro ⟨m, ta, tv, xs, i3, g3⟩ ⟨k1, k2, k3, k4, k5, k6⟩
     simp only at k1 k2 k3 k4 k5 k6
     show Run E _ [(0, ptr b 0), (1, .slice (some ⟨b0, off, none⟩) ds.length dc), (2, .slice fa lf.length fc), (3, .int .i64 (d' + 1 : Nat)), (8, ptr b8 0), (10, ptr b10 0), (11, tv), (12, .int .i64 m)] g3 [.row 49 5 tv ta.length xs, .blk b10 86 [.int .i64 dd.pos, str dd.name, .slice a1 dd.params.length c1, .slice a2 dd.cons.length c2], .blk b8 49 (tyCells noT (.slice none 0 0)), tpB b lv i3] _
     refine r_seq <| r_sr <| r_ev rfl rfl <| r_fieldAddr rfl rfl <| r_loadB1 1 rfl rfl rfl rfl <| r_len_sl rfl rfl <| r_ev rfl rfl <| r_nn ?_
     refine r_cond rfl (fun hlt => ?_) (fun hlt => ?_)
     ·refine r_skip <| r_then_normal <| r_seq <| r_block <| r_region <| r_ev rfl rfl <| r_ev rfl rfl <| r_ev rfl rfl <| r_ev rfl rfl <| r_ev rfl rfl <| r_sub_ rfl rfl rfl (by omega) ?_
      rw [show ((d' + 1 : Nat) : Int) - 1 = (d' : Int) by omega]
      refine r_callL 3 rfl rfl rfl (ih g3 i3 lv ds _ lf _ (hE0.mono k1) k6) ?_
      rintro w g4 r' ⟨t, i4, ht, gt, lt, rfl, hi4⟩ hle4
      obtain ⟨ya, ym, yc, rfl, ht'⟩ := ht.cells5
      skip
      refine r_buildSlice rfl rfl (by rfl) (by rfl) (by rfl) (by rfl) (by rfl) (fun b42 => ?_)
      refine r_appendRow 1 0 rfl rfl rfl rfl rfl (by rfl) (by rfl) rfl (by unfold maxLen; omega) (by omega) (fun v' _ => ?_)
      refine r_drop (own' := [_, _, _, _]) (.cons _ (List.Sublist.refl _)) ?_
      refine r_ev rfl rfl <| r_nil <| r_in_normal <| r_then_normal <| r_region <| r_ev rfl rfl <| r_add rfl rfl rfl (by omega) ?_; refine r_ev rfl rfl <| r_nn ?_
      refine r_again (m + 1, ta ++ [t], v', xs ++ tyCells t (.slice ya ym yc), i4, g4) ⟨Ghost.le_trans k1 hle4, by simp only; omega, by simp [k3], TysAt.snoc ht' (k4.mono hle4), ?_, hi4⟩ (by simp only; omega) ⟨rfl, rfl, rfl, rfl, rfl, rfl, rfl, rfl, trivial⟩ rfl ?_
      ·intro u hu
       rcases List.mem_append.1 hu with hu | hu
       ·exact k5 u hu
       ·rw [List.mem_singleton] at hu; subst hu; exact ⟨gt, lt⟩
      ·simp [tyCells, repN]
     ·refine r_publishRow (fun g4 hg4 hs4 => ?_)
      refine r_exit <| r_then_exit <| r_then_exit <| r_in_exit <| r_then_normal <| r_sr <| r_fieldAddr rfl rfl <| r_loadB1 0 rfl rfl rfl rfl <| r_ev rfl rfl ?_
      refine r_callN rfl rfl (rCon_spec g4 dd.name tv ta xs hs4 (k4.mono hg4) (by omega)) ?_
      rintro w g5 hw hle5
      obtain ⟨ya, ym, yc, rfl, ht'⟩ := hw.cells5
      refine r_storeA 1 rfl rfl rfl rfl (by rfl) (by repeat' (first | exact rfl | assumption | refine all_cons ?_ ?_)) rfl ?_; refine r_nn <| r_retc <| r_in_ret <| r_then_ret ?_
      refine r_retA [_] rfl (res_blk 1 rfl rfl (by rfl)) (.cons _ (.cons _ (List.Sublist.refl _))) ⟨_, rfl, conT dd.name ta, i3, ⟨_, rfl, ht'⟩, .con _ _ n1 (fun t ht => (k5 t ht).1), ?_, rfl, k6⟩
      rw [showT_con ta (ne_arrow n1), List.length_append]
      have h1 := showArgs_len (ta := ta) (B := bT d') (fun t ht => (k5 t ht).2)
      have h2 : ta.length * (3 + bT d') ≤ 2 * (3 + bT d') := Nat.mul_le_mul_right _ (by omega)
      simp only [bT]
      omega
    | false =>
     refine r_cond_false rfl <| r_skip <| r_in_normal <| r_then_normal <| r_sr <| r_ev rfl rfl <| r_ev rfl rfl <| r_ev rfl rfl <| r_ev rfl rfl <| r_sub_ rfl rfl rfl (by omega) ?_
     rw [show ((d' + 1 : Nat) : Int) - 1 = (d' : Int) by omega]
     refine r_callL 1 rfl rfl rfl (ih g1 i1 lv ds _ lf _ hE0 hi1) ?_
     rintro w g2 r' ⟨t, i2, ht, gt, lt, rfl, hi2⟩ hle2
     obtain ⟨ya, ym, yc, rfl, ht'⟩ := ht.cells5
     skip
     refine r_alloc rfl (fun b13 => ?_)
     refine r_storeA 0 rfl rfl rfl rfl (by rfl) (by repeat' (first | exact rfl | assumption | refine all_cons ?_ ?_)) rfl ?_; refine r_nn <| r_seq ?_
     -- STOPX
     refine h_beginE [2, 1] mixed (fun hG => ?_)
     refine h_takeXA 0 rfl (by kernel_rfl) rfl hG ?_; refine ⟨_, (val_loadB 0 rfl rfl (by rfl)), ?_⟩; refine h_takeXA 1 rfl (by kernel_rfl) rfl hG ?_; refine ⟨_, (val_ev rfl), ?_⟩; refine h_takeXA 2 rfl (by kernel_rfl) rfl hG ?_; refine ⟨_, (val_ev rfl), ?_⟩; refine h_takeXA 3 rfl (by kernel_rfl) rfl hG ?_; refine ⟨_, (val_ev rfl), ?_⟩; refine h_takeXA 4 rfl (by kernel_rfl) rfl hG ?_; refine ⟨_, (val_ev rfl), ?_⟩
     refine h_takeXA 5 rfl (by kernel_rfl) rfl hG ⟨_, (val_sub_ rfl rfl (by omega)), ?_⟩
     refine h_one 6 (by kernel_rfl) rfl ?_
     rw [show ((d' + 1 : Nat) : Int) - 1 = (d' : Int) by omega]
     refine r_callL 2 rfl rfl rfl (ih g2 i2 lv ds _ lf _ (hE0.mono hle2) hi2) ?_
     rintro w g3 r' ⟨u, i3, hu, gu, lu, rfl, hi3⟩ hle3
     refine r_nn ?_
     refine h_keptA hG ?_
     refine h_one 7 (by kernel_rfl) rfl ?_
     refine r_callN rfl rfl (rArrow_spec g3 t u _ _ ⟨_, rfl, ht'.mono hle3⟩ hu) ?_
     rintro w4 g4 hw4 hle4
     have hle34 := Ghost.le_trans hle3 hle4
     obtain ⟨za, zm, zc, rfl, hz⟩ := hw4.cells5
     refine r_nn ?_
     refine h_keptA hG ?_
     refine h_one 8 (by kernel_rfl) rfl ?_
     refine r_storeA 1 rfl rfl rfl rfl (by rfl) (by repeat' (first | exact rfl | assumption | refine all_cons ?_ ?_)) rfl ?_; refine r_nn ?_
     refine h_keptA hG ?_
     refine h_done (by kernel_rfl) ?_
     refine r_then_normal <| r_retc ?_
     refine r_retA [_] rfl (res_blk 1 rfl rfl (by rfl)) (.cons _ (.cons _ (List.Sublist.refl _))) ⟨_, rfl, arrowT t u, i3, ⟨_, rfl, hz⟩, .arrow t u gt gu, ?_, rfl, hi3⟩
     rw [showT_arrow]
     have := showFrom_len t
     simp only [List.length_append, List.length_cons, List.length_nil, bT]
     omega
   ·intro K hK
    refine r_sr <| r_ev rfl rfl <| r_ev rfl rfl <| r_ev rfl rfl ?_
    refine r_gdec rfl rfl (fun h4 => ?_) (fun h4 => ?_)
    ·refine r_tev rfl rfl rfl <| r_take rfl <| r_len_sl rfl rfl <| r_tev rfl rfl rfl <| r_ev rfl rfl <| r_ev rfl rfl <| r_nn ?_
     refine r_dec 39 rfl (fun h => ?_) (fun h => ?_)
     ·refine r_cond_true rfl <| r_skip <| r_then_normal ?_
      exact hK true _ (fun _ => by omega) ⟨rfl, rfl, rfl, rfl, rfl, rfl, rfl, trivial⟩
     ·refine r_cond_false rfl <| r_region <| r_ev rfl rfl <| r_ev rfl rfl <| r_ev rfl rfl ?_
      refine r_gdec rfl rfl (fun h5 => ?_) (fun h5 => ?_)
      ·omega
      ·refine r_pass rfl rfl rfl <| r_pass rfl rfl rfl <| r_pass rfl rfl rfl <| r_ev rfl rfl <| r_ev rfl rfl <| r_nn ?_
       exact hK false _ (fun h => by cases h) ⟨rfl, rfl, rfl, rfl, rfl, rfl, rfl, trivial⟩
    ·refine r_pass rfl rfl rfl <| r_pass rfl rfl rfl <| r_pass rfl rfl rfl <| r_ev rfl rfl <| r_ev rfl rfl <| r_nn <| r_cond_false rfl <| r_region <| r_ev rfl rfl <| r_ev rfl rfl <| r_ev rfl rfl ?_
     refine r_gdec rfl rfl (fun h5 => ?_) (fun h5 => ?_)
     ·refine r_tev rfl rfl rfl <| r_take rfl <| r_len_sl rfl rfl <| r_tev rfl rfl rfl <| r_ev rfl rfl <| r_ev rfl rfl <| r_nn ?_
      refine r_dec 39 rfl (fun h => ?_) (fun h => ?_)
      ·exact hK true _ (fun _ => by omega) ⟨rfl, rfl, rfl, rfl, rfl, rfl, rfl, trivial⟩
      ·exact hK false _ (fun h => by cases h) ⟨rfl, rfl, rfl, rfl, rfl, rfl, rfl, trivial⟩
     ·refine r_pass rfl rfl rfl <| r_pass rfl rfl rfl <| r_pass rfl rfl rfl <| r_ev rfl rfl <| r_ev rfl rfl <| r_nn ?_
      exact hK false _ (fun h => by cases h) ⟨rfl, rfl, rfl, rfl, rfl, rfl, rfl, trivial⟩
  ·intro K hK
   refine r_region <| r_ev rfl rfl <| r_ev rfl rfl <| r_ev rfl rfl ?_
   refine r_gdec rfl rfl (fun h4 => ?_) (fun h4 => ?_)
   ·refine r_pass rfl rfl rfl <| r_pass rfl rfl rfl <| r_ev rfl rfl <| r_ev rfl rfl <| r_nn ?_
    exact hK true _ (fun h => by cases h) ⟨rfl, rfl, rfl, rfl, rfl, rfl, rfl, trivial⟩
   ·refine r_tev rfl rfl rfl <| r_tev rfl rfl rfl <| r_ev rfl rfl <| r_ev rfl rfl <| r_nn ?_
    refine r_dec 31 rfl (fun h => ?_) (fun h => ?_)
    ·exact hK true _ (fun h => by cases h) ⟨rfl, rfl, rfl, rfl, rfl, rfl, rfl, trivial⟩
    ·exact hK false _ (fun _ => by omega) ⟨rfl, rfl, rfl, rfl, rfl, rfl, rfl, trivial⟩
 ·intro K hK
  refine r_region <| r_ev rfl rfl <| r_ev rfl rfl <| r_ev rfl rfl ?_
  refine r_gdec rfl rfl (fun h3 => ?_) (fun h3 => ?_)
  ·refine r_tev rfl rfl rfl <| r_take rfl <| r_len_sl rfl rfl <| r_tev rfl rfl rfl <| r_ev rfl rfl <| r_ev rfl rfl <| r_nn ?_
   refine r_dec 16 rfl (fun h => ?_) (fun h => ?_)
   ·exact hK true _ (fun _ => by omega) ⟨rfl, rfl, rfl, rfl, rfl, rfl, rfl, trivial⟩
   ·exact hK false _ (fun h => by cases h) ⟨rfl, rfl, rfl, rfl, rfl, rfl, rfl, trivial⟩
  ·refine r_pass rfl rfl rfl <| r_pass rfl rfl rfl <| r_pass rfl rfl rfl <| r_ev rfl rfl <| r_ev rfl rfl <| r_nn ?_
   exact hK false _ (fun h => by cases h) ⟨rfl, rfl, rfl, rfl, rfl, rfl, rfl, trivial⟩
theorem TType_spec (codes : List Int) (b : Nat) : ∀ d : Nat, d ≤ 1000 → ∀ g i lv ds dv lf fv, TpE g codes lv ds dv lf fv → i ≤ codes.length → SpecL Tryz.prog 31 [ptr b 0, dv, fv, .int .i64 d] g (tpB b lv i) (tpPost codes b lv d)
 | 0, h => TType_step codes b 0 h (fun d' h => by omega)
 | d + 1, h => TType_step codes b (d + 1) h (fun d' hd => by
   obtain rfl : d' = d := by omega
   exact TType_spec codes b d' (by omega))
end Go.Proofs.YtpjehhnaojjanaaGreatDoor
-- sum 554db53a12536a91

/- Texts of types: the walks of typedholesref3.IsArrow and of typedholesref8.Type and argument; small walks of typedholesmake. -/
namespace Go.Th
theorem showArgs_app : ∀ (x y : List Ty), showArgs (x ++ y) = showArgs x ++ showArgs y
 | [], y => by simp [showArgs]
 | a :: x, y => by rw [List.cons_append, showArgs_cons, showArgs_cons, showArgs_app x y]; simp
theorem showArgs_succ {ta : List Ty} {i : Nat} (h : i < ta.length) : showArgs (ta.take (i + 1)) = showArgs (ta.take i) ++ ([32] ++ showArg ta[i]) := by
 rw [List.take_succ_eq_append_getElem h, showArgs_app, showArgs_cons]
 simp [showArgs]
theorem showArgs_take (ta : List Ty) (i : Nat) : (showArgs (ta.take i)).length ≤ (showArgs ta).length := by
 have := congrArg List.length (showArgs_app (ta.take i) (ta.drop i))
 rw [List.take_append_drop, List.length_append] at this
 omega
theorem showArg_ge (t : Ty) : (showT t).length ≤ (showArg t).length := by
 unfold showArg
 split
 ·simp only [List.length_cons, List.length_append, List.length_nil]; omega
 ·exact Nat.le_refl _
theorem showFrom_ge (t : Ty) : (showT t).length ≤ (showFrom t).length := by
 unfold showFrom
 split
 ·simp only [List.length_cons, List.length_append, List.length_nil]; omega
 ·exact Nat.le_refl _
theorem isArrow_con {n : Bytes} (ta : List Ty) (h : kindOf n = 2) : isArrowT (conT n ta) = false := by
 simp [isArrowT, conT, Ty.kind, Ty.name, ne_arrow h]
theorem isArrow_name (n : Bytes) : isArrowT (nameT n) = false := rfl
def gdDB (d : Da) : Bool := decide (kindOf d.name = 2) && decide (d.name.length ≤ 6) && decide (d.params.length ≤ 2)
theorem gdD_of {d : Da} (h : gdDB d = true) : gdD d := by
 simp only [gdDB, Bool.and_eq_true, decide_eq_true_eq] at h
 exact ⟨h.1.1, h.1.2, h.2⟩
theorem allD_gd : ∀ d ∈ allD, gdD d := fun d hd => gdD_of (List.all_eq_true.1 (show allD.all gdDB = true by kernel_rfl) d hd)
def abc : List Ty := [nameT [97], nameT [98], nameT [99]]
theorem abc_good : ∀ t ∈ abc, GoodT t ∧ (showT t).length ≤ 3 := by
 intro t ht
 have : t = nameT [97] ∨ t = nameT [98] ∨ t = nameT [99] := by simpa [abc] using ht
 rcases this with rfl | rfl | rfl <;> exact ⟨.name _ (by decide), by rw [showT_name]; decide⟩
end Go.Th
namespace Go.Proofs.YtpjehhnaojjanaaGreatDoor
open Go Go.Eng Go.Th Go.Proofs
set_option maxRecDepth 10000
set_option maxHeartbeats 4000000
attribute [local irreducible] wpList Code.wp Run bodyPost Go.Eng.Ends Exit.then Exit.inBlock Again Wq Kq
abbrev noA : Value := .agg (tyCells noT (.slice none 0 0)).toArray
theorem IsArrow_no (g : Ghost) {t : Ty} {v : Value} (h0 : isArrowT t = false) (hv : TyV g v t) : Pure Tryz.prog 69 [v] g (.tuple #[noA, noA, .bool false]) := by
 obtain ⟨sl, rfl, h1⟩ := hv
 obtain ⟨xs, hs1, ht1⟩ := h1.args
 obtain ⟨a, c, rfl⟩ := slForm2 hs1
 refine spec_of_run Tryz.func69 rfl Tryz.ntmps69 rfl fun E hE => ?_
 refine r_sr ?_
 refine r_box rfl rfl rfl (fun b1 => ?_)
 skip
 refine r_alloc rfl (fun b2 => ?_)
 skip
 refine r_alloc rfl (fun b3 => ?_)
 refine r_ev rfl rfl <| r_nn <| r_seq <| r_sr <| r_fieldAddr rfl rfl <| r_loadB1 2 rfl rfl rfl rfl <| r_ev rfl rfl <| r_ev rfl rfl ?_
 refine r_gdec rfl rfl (fun k1 => ?_) (fun k1 => ?_)
 ·refine r_take rfl <| r_fieldAddr rfl rfl <| r_take rfl <| r_loadB1 2 rfl rfl rfl rfl <| r_tev rfl rfl rfl <| r_ev rfl rfl <| r_ev rfl rfl ?_
  refine r_gdec rfl rfl (fun k2 => ?_) (fun k2 => ?_)
  ·refine r_take rfl <| r_fieldAddr rfl rfl <| r_take rfl <| r_loadB1 2 rfl rfl rfl rfl <| r_take rfl <| r_len_sl rfl rfl <| r_tev rfl rfl rfl <| r_ev rfl rfl <| r_nn ?_
   refine r_cond rfl (fun k3 => ?_) (fun k3 => ?_)
   ·have : t.args.length = 2 := by omega
    simp [isArrowT, k1, this, arrowB] at h0
    exact absurd k2 (of_decide_eq_false h0)
   ·refine r_skip <| r_then_normal <| r_sr <| r_build rfl rfl (by rfl) ?_; refine r_build rfl rfl (by rfl) ?_; refine r_storeA 1 rfl rfl rfl rfl (by rfl) (by repeat' (first | exact rfl | assumption | refine all_cons ?_ ?_)) rfl ?_; refine r_storeA 0 rfl rfl rfl rfl (by rfl) (by repeat' (first | exact rfl | assumption | refine all_cons ?_ ?_)) rfl ?_; refine r_ev rfl rfl <| r_nn <| r_retc ?_
    exact r_ret3 [] rfl (res_blk 1 rfl rfl (by rfl)) (res_blk 0 rfl rfl (by rfl)) (.tmp rfl) (by simp) ⟨rfl, rfl, rfl⟩
  ·refine r_pass rfl rfl rfl <| r_pass rfl rfl rfl <| r_pass rfl rfl rfl <| r_pass rfl rfl rfl <| r_ev rfl rfl <| r_nn <| r_cond_false rfl <| r_skip <| r_then_normal <| r_sr <| r_build rfl rfl (by rfl) ?_; refine r_build rfl rfl (by rfl) ?_; refine r_storeA 1 rfl rfl rfl rfl (by rfl) (by repeat' (first | exact rfl | assumption | refine all_cons ?_ ?_)) rfl ?_; refine r_storeA 0 rfl rfl rfl rfl (by rfl) (by repeat' (first | exact rfl | assumption | refine all_cons ?_ ?_)) rfl ?_; refine r_ev rfl rfl <| r_nn <| r_retc ?_
   exact r_ret3 [] rfl (res_blk 1 rfl rfl (by rfl)) (res_blk 0 rfl rfl (by rfl)) (.tmp rfl) (by simp) ⟨rfl, rfl, rfl⟩
 ·refine r_pass rfl rfl rfl <| r_pass rfl rfl rfl <| r_pass rfl rfl rfl <| r_ev rfl rfl <| r_ev rfl rfl <| r_pass rfl rfl rfl <| r_pass rfl rfl rfl <| r_pass rfl rfl rfl <| r_pass rfl rfl rfl <| r_ev rfl rfl <| r_nn <| r_cond_false rfl <| r_skip <| r_then_normal ?_; refine r_sr <| r_build rfl rfl (by rfl) ?_; refine r_build rfl rfl (by rfl) ?_; refine r_storeA 1 rfl rfl rfl rfl (by rfl) (by repeat' (first | exact rfl | assumption | refine all_cons ?_ ?_)) rfl ?_; refine r_storeA 0 rfl rfl rfl rfl (by rfl) (by repeat' (first | exact rfl | assumption | refine all_cons ?_ ?_)) rfl ?_; refine r_ev rfl rfl <| r_nn <| r_retc ?_
  exact r_ret3 [] rfl (res_blk 1 rfl rfl (by rfl)) (res_blk 0 rfl rfl (by rfl)) (.tmp rfl) (by simp) ⟨rfl, rfl, rfl⟩
theorem IsArrow_yes (g : Ghost) {a b : Ty} {v : Value} (hv : TyV g v (arrowT a b)) : ∃ va vb, TyV g va a ∧ TyV g vb b ∧ Pure Tryz.prog 69 [v] g (.tuple #[va, vb, .bool true]) := by
 obtain ⟨sl, rfl, h1⟩ := hv
 obtain ⟨xs, hs1, ht1⟩ := h1.args
 replace hs1 : SlAt g 5 sl 2 xs := hs1
 replace ht1 : TysAt g [a, b] xs := ht1
 obtain ⟨b0, off, cap, rfl, hx⟩ := hs1.held (show 0 < 2 by omega)
 obtain ⟨s1, a1, r1⟩ := tys_rdA ht1 hx (i := 0) (by simp)
 obtain ⟨s2, a2, r2⟩ := tys_rdA ht1 hx (i := 1) (by simp)
 replace a1 : TyAt g a (tyCells a s1) := a1
 replace a2 : TyAt g b (tyCells b s2) := a2
 replace r1 : ∀ own, Rd g own b0 (off + 0 * 5) (tyCells a s1) := r1
 replace r2 : ∀ own, Rd g own b0 (off + 1 * 5) (tyCells b s2) := r2
 obtain ⟨_, hq1, _⟩ := a1.args
 obtain ⟨u1, w1, rfl⟩ := slForm2 hq1
 obtain ⟨_, hq2, _⟩ := a2.args
 obtain ⟨u2, w2, rfl⟩ := slForm2 hq2
 refine ⟨_, _, ⟨_, rfl, a1⟩, ⟨_, rfl, a2⟩, ?_⟩
 refine spec_of_run Tryz.func69 rfl Tryz.ntmps69 rfl fun E hE => ?_
 refine r_sr ?_
 refine r_box rfl rfl rfl (fun b1 => ?_)
 skip
 refine r_alloc rfl (fun b2 => ?_)
 skip
 refine r_alloc rfl (fun b3 => ?_)
 refine r_ev rfl rfl <| r_nn <| r_seq <| r_sr <| r_fieldAddr rfl rfl <| r_loadB1 2 rfl rfl rfl rfl <| r_ev rfl rfl <| r_ev rfl rfl <| r_take rfl <| r_fieldAddr rfl rfl <| r_take rfl <| r_loadB1 2 rfl rfl rfl rfl <| r_tev rfl rfl rfl <| r_ev rfl rfl ?_; refine r_ev rfl rfl <| r_take rfl <| r_fieldAddr rfl rfl <| r_take rfl <| r_loadB1 2 rfl rfl rfl rfl <| r_take rfl <| r_len_sl rfl rfl <| r_tev rfl rfl rfl <| r_ev rfl rfl <| r_nn <| r_cond_true rfl <| r_seq ?_
 refine h_beginE [1, 0] mixed (fun hG => ?_)
 refine h_takeXA 0 rfl (by kernel_rfl) rfl hG ?_; refine ⟨_, (val_fieldAddr rfl), ?_⟩; refine h_takeXA 1 rfl (by kernel_rfl) rfl hG ?_; refine ⟨_, (val_loadB1 0 rfl rfl rfl), ?_⟩
 refine h_takeXA 2 rfl (by kernel_rfl) rfl hG ⟨_, (val_indexAddr (j := 0) rfl rfl rfl (by omega)), ?_⟩
 refine h_takeXA 3 rfl (by kernel_rfl) rfl hG ⟨_, (val_load rfl (r1 _) rfl), ?_⟩
 refine h_takeXA 4 rfl (by kernel_rfl) rfl hG ?_; refine ⟨_, (val_fieldAddr rfl), ?_⟩; refine h_takeXA 5 rfl (by kernel_rfl) rfl hG ?_; refine ⟨_, (val_loadB1 0 rfl rfl rfl), ?_⟩
 refine h_takeXA 6 rfl (by kernel_rfl) rfl hG ⟨_, (val_indexAddr (j := 1) rfl rfl rfl (by omega)), ?_⟩
 refine h_takeXA 7 rfl (by kernel_rfl) rfl hG ⟨_, (val_load rfl (r2 _) rfl), ?_⟩
 refine h_one 8 (by kernel_rfl) rfl ?_
 refine r_storeA 1 rfl rfl rfl rfl (by rfl) (by repeat' (first | exact rfl | assumption | refine all_cons ?_ ?_)) rfl ?_; refine r_nn ?_
 refine h_keptA hG ?_
 refine h_one 9 (by kernel_rfl) rfl ?_
 refine r_storeA 0 rfl rfl rfl rfl (by rfl) (by repeat' (first | exact rfl | assumption | refine all_cons ?_ ?_)) rfl ?_; refine r_nn ?_
 refine h_keptA hG ?_
 refine h_one 10 (by kernel_rfl) rfl ?_
 refine r_ev rfl rfl <| r_nn ?_
 refine h_keptA hG ?_
 refine h_done (by kernel_rfl) ?_
 refine r_then_normal <| r_retc <| r_then_ret ?_
 exact r_ret3 [] rfl (res_blk 1 rfl rfl (by rfl)) (res_blk 0 rfl rfl (by rfl)) (.tmp rfl) (by simp) ⟨rfl, rfl, rfl⟩
theorem IsArrow_any (g : Ghost) {t : Ty} {v : Value} (ht : GoodT t) (hv : TyV g v t) : ∃ va vb ta tb, TyV g va ta ∧ TyV g vb tb ∧ Pure Tryz.prog 69 [v] g (.tuple #[va, vb, .bool (isArrowT t)]) := by
 have no : isArrowT t = false → ∃ va vb ta tb, TyV g va ta ∧ TyV g vb tb ∧ Pure Tryz.prog 69 [v] g (.tuple #[va, vb, .bool (isArrowT t)]) := fun h => by
  rw [h]
  have hn : TyV g noA noT := TyV.of (t := noT) (slNil g 5) (tysNil g)
  exact ⟨noA, noA, noT, noT, hn, hn, IsArrow_no g h hv⟩
 cases ht with
 | name n h => exact no (isArrow_name n)
 | con n ta h ha => exact no (isArrow_con ta h)
 | arrow a b ha hb =>
  obtain ⟨va, vb, h1, h2, h3⟩ := IsArrow_yes g hv
  exact ⟨va, vb, a, b, h1, h2, h3⟩
theorem argument_of (g : Ghost) (t : Ty) (v : Value) (hl : (showT t).length ≤ 100000) (hv : TyV g v t) (hT : Pure Tryz.prog 25 [v] g (str (showT t))) : Pure Tryz.prog 55 [v] g (str (showArg t)) := by
 obtain ⟨sl, rfl, h1⟩ := hv
 obtain ⟨xs, hs1, ht1⟩ := h1.args
 obtain ⟨a, c, rfl⟩ := slForm2 hs1
 have no : parenT t = false → showArg t = showT t := fun h => by unfold showArg; rw [h]; rfl
 refine spec_of_run Tryz.func55 rfl Tryz.ntmps55 rfl fun E hE => ?_
 refine r_sr ?_
 refine r_box rfl rfl rfl (fun b1 => ?_)
 refine r_ev rfl rfl <| r_nn <| r_seq <| r_sr <| r_fieldAddr rfl rfl <| r_loadB1 0 rfl rfl rfl rfl <| r_ev rfl rfl <| r_ev rfl rfl ?_
 refine r_gdec rfl rfl (fun k1 => ?_) (fun k1 => ?_)
 ·refine r_take rfl <| r_fieldAddr rfl rfl <| r_take rfl <| r_loadB1 0 rfl rfl rfl rfl <| r_take rfl <| r_len_sl rfl rfl <| r_tev rfl rfl rfl <| r_ev rfl rfl <| r_nn ?_
  refine r_cond rfl (fun k2 => ?_) (fun k2 => ?_)
  ·have hp : parenT t = true := by simp [parenT, k1]; omega
   have he : showArg t = [40] ++ showT t ++ [41] := by unfold showArg; rw [if_pos hp]; rfl
   refine r_sr <| r_loadB 0 rfl rfl rfl (by rfl) ?_
   refine r_callP rfl rfl hT ?_
   refine r_add_str rfl rfl rfl (by simp; omega) ?_
   refine r_add_str rfl rfl rfl (by simp; omega) ?_
   refine r_ev rfl rfl <| r_nn <| r_retc <| r_then_ret ?_
   exact r_ret1 [] rfl rfl (by simp) ⟨by rw [he], rfl, rfl⟩
  ·have he := no (by simp [parenT]; intro _; exact List.length_eq_zero_iff.1 (by omega))
   refine r_skip <| r_then_normal <| r_sr <| r_loadB 0 rfl rfl rfl (by rfl) ?_
   refine r_callP rfl rfl hT ?_
   refine r_ev rfl rfl <| r_nn <| r_retc ?_
   exact r_ret1 [] rfl rfl (by simp) ⟨by rw [he], rfl, rfl⟩
 ·have he := no (by simp [parenT, k1])
  refine r_pass rfl rfl rfl <| r_pass rfl rfl rfl <| r_pass rfl rfl rfl <| r_pass rfl rfl rfl <| r_ev rfl rfl <| r_nn <| r_cond_false rfl <| r_skip <| r_then_normal <| r_sr <| r_loadB 0 rfl rfl rfl (by rfl) ?_
  refine r_callP rfl rfl hT ?_
  refine r_ev rfl rfl <| r_nn <| r_retc ?_
  exact r_ret1 [] rfl rfl (by simp) ⟨by rw [he], rfl, rfl⟩
theorem Type8_aux (g : Ghost) : ∀ (N : Nat) (t : Ty) (v : Value), SizeOf.sizeOf t < N → GoodT t → (showT t).length ≤ 100000 → TyV g v t → Pure Tryz.prog 25 [v] g (str (showT t))
 | 0, _, _, h, _, _, _ => by omega
 | N + 1, t, v, h, ht, hl, hv => by
  have ih := Type8_aux g N
  obtain ⟨sl, rfl, h1⟩ := hv
  obtain ⟨xs, hs1, ht1⟩ := h1.args
  cases ht with
  | name n hn =>
   rw [showT_name] at hl ⊢
   refine spec_of_run Tryz.func25 rfl Tryz.ntmps25 rfl fun E hE => ?_
   refine r_sr ?_
   refine r_box rfl rfl rfl (fun b1 => ?_)
   refine r_ev rfl rfl <| r_nn <| r_seq <| r_sr <| r_fieldAddr rfl rfl <| r_loadB1 0 rfl rfl rfl rfl <| r_nn <| r_block <| r_sr <| r_ev rfl rfl <| r_ev rfl rfl <| r_nn <| r_cond_false rfl <| r_sr ?_; refine r_ev rfl rfl <| r_ev rfl rfl <| r_nn <| r_cond_false rfl <| r_sr <| r_ev rfl rfl <| r_ev rfl rfl <| r_nn <| r_cond_false rfl <| r_sr <| r_ev rfl rfl <| r_ev rfl rfl <| r_nn <| r_cond_true rfl ?_; refine r_sr <| r_fieldAddr rfl rfl <| r_loadB1 0 rfl rfl rfl rfl <| r_ev rfl rfl <| r_nn <| r_retc <| r_in_ret <| r_then_ret ?_
   exact r_ret1 [] rfl rfl (by simp) ⟨rfl, rfl, rfl⟩
  | con n ta hn ha =>
   have hsh := showT_con ta (ne_arrow hn)
   rw [hsh, List.length_append] at hl
   rw [hsh]
   replace hs1 : SlAt g 5 sl ta.length xs := hs1
   replace ht1 : TysAt g ta xs := ht1
   obtain ⟨a, c, rfl⟩ := slForm2 hs1
   have hle := hs1.le
   refine spec_of_run Tryz.func25 rfl Tryz.ntmps25 rfl fun E hE => ?_
   refine r_sr ?_
   refine r_box rfl rfl rfl (fun b1 => ?_)
   refine r_ev rfl rfl <| r_nn <| r_seq <| r_sr <| r_fieldAddr rfl rfl <| r_loadB1 0 rfl rfl rfl rfl <| r_nn <| r_block <| r_sr <| r_ev rfl rfl <| r_ev rfl rfl <| r_nn <| r_cond_false rfl <| r_sr ?_; refine r_ev rfl rfl <| r_ev rfl rfl <| r_nn <| r_cond_false rfl <| r_sr <| r_ev rfl rfl <| r_ev rfl rfl <| r_nn <| r_cond_false rfl <| r_sr <| r_ev rfl rfl <| r_ev rfl rfl <| r_nn <| r_cond_false rfl ?_; refine r_skip <| r_in_normal <| r_then_normal <| r_seq <| r_sr <| r_loadB 0 rfl rfl rfl (by rfl) ?_
   refine r_callP rfl rfl (IsArrow_no g (isArrow_con ta hn) ⟨_, rfl, h1⟩) ?_
   refine r_ev rfl rfl <| r_ev rfl rfl <| r_ev rfl rfl <| r_ev rfl rfl ?_
   refine r_alloc rfl (fun b3 => ?_)
   skip
   refine r_alloc rfl (fun b4 => ?_)
   refine r_storeA 1 rfl rfl rfl rfl (by rfl) (by repeat' (first | exact rfl | assumption | refine all_cons ?_ ?_)) rfl ?_; refine r_storeA 0 rfl rfl rfl rfl (by rfl) (by repeat' (first | exact rfl | assumption | refine all_cons ?_ ?_)) rfl ?_; refine r_ev rfl rfl <| r_nn <| r_sr <| r_ev rfl rfl <| r_nn <| r_cond_false rfl <| r_skip <| r_then_normal <| r_sr <| r_fieldAddr rfl rfl <| r_loadB1 2 rfl rfl rfl rfl <| r_ev rfl rfl <| r_nn <| r_seq ?_; refine r_sr <| r_ev rfl rfl <| r_nn <| r_block ?_
   refine r_loop (ι := Nat) (fun i => [(1, ptr b1 0), (10, str (n ++ showArgs (ta.take i))), (11, .int .i64 i)]) (fun _ => g) (fun _ => [.blk b4 49 (tyCells noT (.slice none 0 0)), .blk b3 49 (tyCells noT (.slice none 0 0)), .blk b1 49 (tyCells (conT n ta) (.slice a ta.length c))]) (fun i => i ≤ ta.length) (fun i => ta.length - i) 0 (Nat.zero_le _) ⟨rfl, by simp [showArgs]; rfl, rfl, trivial⟩ rfl rfl ?_
   intro i hi
   refine r_seq <| r_sr <| r_ev rfl rfl <| r_fieldAddr rfl rfl <| r_loadB1 2 rfl rfl rfl rfl <| r_len_sl rfl rfl <| r_ev rfl rfl <| r_nn ?_
   refine r_cond rfl (fun hlt => ?_) (fun hlt => ?_)
   ·have hlt' : i < ta.length := by omega
    obtain ⟨b, off, cap, hsl, hx⟩ := hs1.held hlt'
    cases hsl
    obtain ⟨sl', h2, hr⟩ := tys_rdA ht1 hx hlt'
    have hm := List.getElem_mem hlt'
    have hsz : SizeOf.sizeOf ta[i] < N := by
     have := List.sizeOf_lt_of_mem hm
     simp [conT] at h
     omega
    have hsu := showArgs_succ hlt'
    have hA := showArgs_take ta (i + 1)
    rw [hsu] at hA
    simp only [List.length_append, List.length_cons, List.length_nil] at hA
    have hge := showArg_ge ta[i]
    have hv2 : TyV g (.agg (tyCells ta[i] sl').toArray) ta[i] := ⟨sl', rfl, h2⟩
    refine r_skip <| r_then_normal <| r_seq <| r_block <| r_region <| r_ev rfl rfl <| r_fieldAddr rfl rfl <| r_loadB1 2 rfl rfl rfl rfl <| r_ev rfl rfl <| r_indexAddr rfl rfl rfl rfl (by omega) ?_
    refine r_load rfl rfl (hr _) rfl ?_
    refine r_callP rfl rfl (argument_of g ta[i] _ (by omega) hv2 (ih ta[i] _ hsz (ha _ hm) (by omega) hv2)) ?_
    refine r_add_str rfl rfl rfl (by simp; omega) ?_
    refine r_add_str rfl rfl rfl (by simp; omega) ?_
    refine r_ev rfl rfl <| r_nil <| r_in_normal <| r_then_normal <| r_region <| r_ev rfl rfl <| r_add rfl rfl rfl (by omega) ?_; refine r_ev rfl rfl <| r_nn ?_
    exact r_again (i + 1) (by omega) (by omega) ⟨rfl, by rw [hsu, ← List.append_assoc n]; rfl, rfl, trivial⟩ rfl rfl
   ·have hil : i = ta.length := by omega
    subst hil
    refine r_exit <| r_then_exit <| r_then_exit <| r_in_exit <| r_then_normal <| r_sr <| r_ev rfl rfl <| r_ev rfl rfl <| r_nn <| r_retc ?_
    exact r_ret1 [] rfl rfl (by simp) ⟨by rw [List.take_length], rfl, rfl⟩
  | arrow a b ha hb =>
   have hsh := showT_arrow a b
   rw [hsh] at hl ⊢
   simp only [List.length_append, List.length_cons, List.length_nil] at hl
   have hge := showFrom_ge a
   obtain ⟨va, vb, hva, hvb, hP⟩ := IsArrow_yes g (v := .agg (tyCells (arrowT a b) sl).toArray) ⟨sl, rfl, h1⟩
   have hsa : SizeOf.sizeOf a < N := by simp [arrowT, conT] at h; omega
   have hsb : SizeOf.sizeOf b < N := by simp [arrowT, conT] at h; omega
   have iha := ih a va hsa ha (by omega) hva
   have ihb := ih b vb hsb hb (by omega) hvb
   obtain ⟨wa, wb, ua, ub, hwa, hwb, hQ⟩ := IsArrow_any g ha hva
   obtain ⟨x1, m1, c1, rfl, _⟩ := hva.cells5
   obtain ⟨x2, m2, c2, rfl, _⟩ := hvb.cells5
   obtain ⟨x3, m3, c3, rfl, _⟩ := hwa.cells5
   obtain ⟨x4, m4, c4, rfl, _⟩ := hwb.cells5
   obtain ⟨_, hs0, _⟩ := h1.args
   obtain ⟨y1, y2, rfl⟩ := slForm2 hs0
   have hno : isArrowT a = false → showFrom a = showT a := fun h => by unfold showFrom; rw [h]; rfl
   have hyes : isArrowT a = true → showFrom a = [40] ++ showT a ++ [41] := fun h => by unfold showFrom; rw [if_pos h]; rfl
   refine spec_of_run Tryz.func25 rfl Tryz.ntmps25 rfl fun E hE => ?_
   refine r_sr ?_
   refine r_box rfl rfl rfl (fun b1 => ?_)
   refine r_ev rfl rfl <| r_nn <| r_seq <| r_sr <| r_fieldAddr rfl rfl <| r_loadB1 0 rfl rfl rfl rfl <| r_nn <| r_block <| r_sr <| r_ev rfl rfl <| r_ev rfl rfl <| r_nn <| r_cond_false rfl <| r_sr ?_; refine r_ev rfl rfl <| r_ev rfl rfl <| r_nn <| r_cond_false rfl <| r_sr <| r_ev rfl rfl <| r_ev rfl rfl <| r_nn <| r_cond_false rfl <| r_sr <| r_ev rfl rfl <| r_ev rfl rfl <| r_nn <| r_cond_false rfl ?_; refine r_skip <| r_in_normal <| r_then_normal <| r_seq <| r_sr <| r_loadB 0 rfl rfl rfl (by rfl) ?_
   refine r_callP rfl rfl hP ?_
   refine r_ev rfl rfl <| r_ev rfl rfl <| r_ev rfl rfl <| r_ev rfl rfl ?_
   refine r_alloc rfl (fun b3 => ?_)
   skip
   refine r_alloc rfl (fun b4 => ?_)
   refine r_storeA 1 rfl rfl rfl rfl (by rfl) (by repeat' (first | exact rfl | assumption | refine all_cons ?_ ?_)) rfl ?_; refine r_storeA 0 rfl rfl rfl rfl (by rfl) (by repeat' (first | exact rfl | assumption | refine all_cons ?_ ?_)) rfl ?_; refine r_ev rfl rfl <| r_nn <| r_sr <| r_ev rfl rfl <| r_nn <| r_cond_true rfl <| r_sr <| r_loadB 1 rfl rfl rfl (by rfl) ?_
   refine r_callP rfl rfl iha ?_
   refine r_ev rfl rfl <| r_nn <| r_seq <| r_sr <| r_loadB 1 rfl rfl rfl (by rfl) ?_
   refine r_callP rfl rfl hQ ?_
   refine r_ev rfl rfl <| r_ev rfl rfl <| r_ev rfl rfl <| r_ev rfl rfl ?_
   refine r_alloc rfl (fun b7 => ?_)
   skip
   refine r_alloc rfl (fun b8 => ?_)
   refine r_storeA 1 rfl rfl rfl rfl (by rfl) (by repeat' (first | exact rfl | assumption | refine all_cons ?_ ?_)) rfl ?_; refine r_storeA 0 rfl rfl rfl rfl (by rfl) (by repeat' (first | exact rfl | assumption | refine all_cons ?_ ?_)) rfl ?_; refine r_ev rfl rfl <| r_nn <| r_sr <| r_ev rfl rfl <| r_nn ?_
   cases hia : isArrowT a with
   | true =>
    have he := hyes hia
    have hel := congrArg List.length he
    simp only [List.length_append, List.length_cons, List.length_nil] at hel
    refine r_cond_true rfl <| r_region <| r_ev rfl rfl ?_
    refine r_add_str rfl rfl rfl (by simp; omega) ?_
    refine r_add_str rfl rfl rfl (by simp; omega) ?_
    refine r_ev rfl rfl <| r_nn <| r_sr <| r_ev rfl rfl ?_
    refine r_add_str rfl rfl rfl (by simp; omega) ?_
    refine r_loadB 2 rfl rfl rfl (by rfl) ?_
    refine r_callP rfl rfl ihb ?_
    refine r_add_str rfl rfl rfl (by simp; omega) ?_
    refine r_ev rfl rfl <| r_nn <| r_retc <| r_then_ret ?_
    exact r_ret1 [] rfl rfl (by simp) ⟨by rw [he, ← List.append_assoc], rfl, rfl⟩
   | false =>
    have he := hno hia
    rw [he] at hl
    refine r_cond_false rfl <| r_skip <| r_then_normal <| r_sr <| r_ev rfl rfl ?_
    refine r_add_str rfl rfl rfl (by simp; omega) ?_
    refine r_loadB 2 rfl rfl rfl (by rfl) ?_
    refine r_callP rfl rfl ihb ?_
    refine r_add_str rfl rfl rfl (by simp; omega) ?_
    refine r_ev rfl rfl <| r_nn <| r_retc <| r_then_ret ?_
    exact r_ret1 [] rfl rfl (by simp) ⟨by rw [he, ← List.append_assoc], rfl, rfl⟩
theorem Type8_spec (g : Ghost) (t : Ty) (v : Value) (ht : GoodT t) (hl : (showT t).length ≤ 100000) (hv : TyV g v t) : Pure Tryz.prog 25 [v] g (str (showT t)) := Type8_aux g _ t v (Nat.lt_succ_self _) ht hl hv
theorem Few_spec (g : Ghost) (v : Value) (l : List Int) (hs : SlAt g 1 v l.length (l.map (Value.int .i64))) : Pure Tryz.prog 14 [v] g (.bool (decide ((l.length : Int) ≤ 60))) := by
 obtain ⟨a, c, rfl⟩ := slForm2 hs
 refine spec_of_run Tryz.func14 rfl Tryz.ntmps14 rfl fun E hE => ?_
 refine r_sr <| r_ev rfl rfl <| r_nn <| r_sr <| r_ev rfl rfl <| r_len_sl rfl rfl <| r_ev rfl rfl <| r_ev rfl rfl <| r_nn <| r_retc ?_
 exact r_ret1 [] rfl rfl (by simp) ⟨rfl, rfl, rfl⟩
end Go.Proofs.YtpjehhnaojjanaaGreatDoor
-- sum 033f8d2f3b7c42b5

/- Small walks for expressions: Tape.Variable, the reference's Number; facts about the declarations that programs are made of. -/
namespace Go.Th
def bE : Nat → Nat
 | 0 => 5
 | d + 1 => 3 * bE d + 43
theorem bE_ge : ∀ d, 5 ≤ bE d
 | 0 => Nat.le_refl _
 | d + 1 => by have := bE_ge d; simp only [bE]; omega
def gcC (c : Cn) : Prop := kindOf c.name = 2 ∧ c.name.length ≤ 5 ∧ c.fields.length ≤ 2
def gcD (d : Da) : Prop := 1 ≤ d.cons.length ∧ d.cons.length ≤ 2 ∧ ∀ c ∈ d.cons, gcC c
def gcDB (d : Da) : Bool := decide (1 ≤ d.cons.length) && decide (d.cons.length ≤ 2) && d.cons.all fun c => decide (kindOf c.name = 2) && decide (c.name.length ≤ 5) && decide (c.fields.length ≤ 2)
theorem gcD_of {d : Da} (h : gcDB d = true) : gcD d := by
 simp only [gcDB, Bool.and_eq_true, decide_eq_true_eq, List.all_eq_true] at h
 exact ⟨h.1.1, h.1.2, fun c hc => ⟨(h.2 c hc).1.1, (h.2 c hc).1.2, (h.2 c hc).2⟩⟩
theorem allD_gc : ∀ d ∈ allD, gcD d := fun d hd => gcD_of (List.all_eq_true.1 (show allD.all gcDB = true by kernel_rfl) d hd)
def varNames : List Bytes := [[120], [121], [122], [102], [103], [118, 49], [118, 50], [105, 100]]
theorem var_good {k : Nat} (h : k < varNames.length) : kindOf varNames[k] = 1 ∧ varNames[k].length ≤ 2 := by
 have : ∀ v ∈ varNames, kindOf v = 1 ∧ v.length ≤ 2 := by decide
 exact this _ (List.getElem_mem h)
end Go.Th
namespace Go.Proofs.YtpjehhnaojjanaaGreatDoor
open Go Go.Eng Go.Th Go.Proofs
set_option maxRecDepth 10000
set_option maxHeartbeats 4000000
attribute [local irreducible] wpList Code.wp Run bodyPost Go.Eng.Ends Exit.then Exit.inBlock Again Wq Kq
theorem Variable_spec (g : Ghost) (codes : List Int) (hc : codes.length ≤ 1000000) (lv : Value) (hs : SlAt g 1 lv codes.length (codes.map (Value.int .i64))) (b i : Nat) (hi : i ≤ codes.length) :
  SpecL Tryz.prog 76 [ptr b 0] g (tpB b lv i) fun v g' r' => g' = g ∧ ∃ (n : Bytes) (i' : Nat), v = str n ∧ kindOf n = 1 ∧ n.length ≤ 2 ∧ r' = tpB b lv i' ∧ i' ≤ codes.length := by
 refine spec_of_run Tryz.func76 rfl Tryz.ntmps76 rfl fun E hE => ?_
 refine r_sr <| r_ev rfl rfl <| r_nn <| r_sr ?_
 refine r_buildSlice rfl rfl (by rfl) (by rfl) (by rfl) (by rfl) (by rfl) (fun b3 => ?_)
 refine r_ev rfl rfl ?_
 refine r_callL 1 rfl rfl rfl (Next_spec g codes hc lv hs b i hi 8 (by omega)) ?_
 rintro v g1 r' ⟨rfl, k, i1, rfl, hk1, hk2, rfl, hi1⟩ _
 have hk : k.toNat < varNames.length := by show _ < 8; omega
 obtain ⟨v1, v2⟩ := var_good hk
 skip
 refine r_indexAddr (j := k.toNat) rfl rfl rfl (by omega) (by omega) ?_
 refine r_load1 rfl rfl (v := str varNames[k.toNat]) (rd_row1 0 rfl ?_) ?_
 ·rw [show 0 + k.toNat * 1 = k.toNat by omega]
  show (varNames.map str)[k.toNat]? = _
  rw [List.getElem?_map, List.getElem?_eq_getElem hk]
  rfl
 refine r_ev rfl rfl <| r_nn <| r_retc ?_
 exact r_ret1 [_] rfl rfl (.cons _ (List.Sublist.refl _)) ⟨_, rfl, rfl, _, i1, rfl, v1, v2, rfl, hi1⟩
def digitList : Bytes := [48, 49, 50, 51, 52, 53, 54, 55, 56, 57]
theorem digitList_at {d : Nat} (h : d < 10) : (digitList.take (d + 1)).drop d = [UInt8.ofNat (48 + d)] := by
 have : ∀ d : Fin 10, (digitList.take (d.val + 1)).drop d.val = [UInt8.ofNat (48 + d.val)] := by decide
 exact this ⟨d, h⟩
theorem dec_small {u : Nat} (h : u < 10) : Lib.decDigits u = [UInt8.ofNat (48 + u)] := by rw [Lib.decDigits, dif_pos h]
theorem dec_big {u : Nat} (h : ¬ u < 10) : Lib.decDigits u = Lib.decDigits (u / 10) ++ [UInt8.ofNat (48 + u % 10)] := by rw [Lib.decDigits, dif_neg h]
theorem rNumber_spec (g : Ghost) (n : Int) (hn : -9223372036854775808 ≤ n ∧ n ≤ 9223372036854775807) (hD : (Lib.decDigits n.natAbs).length ≤ 100) : Pure Tryz.prog 59 [.int .i64 n] g (str (Lib.itoa n)) := by
 refine spec_of_run Tryz.func59 rfl Tryz.ntmps59 rfl fun E hE => ?_
 refine r_sr <| r_ev rfl rfl <| r_nn <| r_seq <| r_sr <| r_ev rfl rfl <| r_ev rfl rfl <| r_nn ?_
 refine r_cond rfl (fun h0 => ?_) (fun h0 => ?_)
 ·subst h0
  refine r_sr <| r_ev rfl rfl <| r_nn <| r_retc <| r_then_ret ?_
  exact r_ret1 [] rfl rfl (by simp) ⟨by
   have : Lib.itoa 0 = [48] := by unfold Lib.itoa; rw [if_neg (by omega)]; exact dec_small (by decide)
   rw [this], rfl, rfl⟩
 ·refine r_skip <| r_then_normal <| r_sr <| r_ev rfl rfl <| r_nn <| r_seq <| r_sr <| r_ev rfl rfl <| r_ev rfl rfl <| r_nn <| r_block ?_
  refine r_loop (ι := Int × Bytes) (fun p => [(0, .int .i64 n), (3, str p.2), (4, .int .i64 p.1)]) (fun _ => g) (fun _ => []) (fun p => p.1.natAbs ≤ n.natAbs ∧ (p.1 ≠ 0 → Lib.decDigits n.natAbs = Lib.decDigits p.1.natAbs ++ p.2) ∧ (p.1 = 0 → Lib.decDigits n.natAbs = p.2)) (fun p => p.1.natAbs) (n, []) ⟨Nat.le_refl _, fun _ => by simp, fun h => absurd h h0⟩ ⟨rfl, rfl, rfl, trivial⟩ rfl rfl ?_
  rintro ⟨k, s⟩ ⟨hk, h1, h2⟩
  simp only at hk h1 h2
  show Run E _ [(0, .int .i64 n), (3, str s), (4, .int .i64 k)] g [] _
  refine r_seq <| r_sr <| r_ev rfl rfl <| r_ev rfl rfl <| r_nn ?_
  refine r_cond rfl (fun hk0 => ?_) (fun hk0 => ?_)
  ·have hd := h1 hk0
   have hsl : s.length ≤ 100 := by have := congrArg List.length hd; rw [List.length_append] at this; omega
   have hm := Int.natAbs_tmod k 10
   have hq := Int.natAbs_tdiv k 10
   have hm' : (k.tmod 10).natAbs = k.natAbs % 10 := hm
   have hq' : (k.tdiv 10).natAbs = k.natAbs / 10 := hq
   obtain ⟨d, hdd⟩ : ∃ d : Nat, d = k.natAbs % 10 := ⟨_, rfl⟩
   have hd10 : d < 10 := by omega
   have hnext : (k.tdiv 10 ≠ 0 → Lib.decDigits n.natAbs = Lib.decDigits (k.tdiv 10).natAbs ++ ([UInt8.ofNat (48 + d)] ++ s)) ∧ (k.tdiv 10 = 0 → Lib.decDigits n.natAbs = [UInt8.ofNat (48 + d)] ++ s) := by
    constructor
    ·intro h
     rw [hd, dec_big (by omega), hq', ← hdd, List.append_assoc]
    ·intro h
     rw [hd, dec_small (by omega), show k.natAbs = d by omega]
   refine r_skip <| r_then_normal <| r_seq <| r_block <| r_sr <| r_ev rfl rfl ?_
   refine r_rem rfl rfl rfl (by omega) ?_
   refine r_ev rfl rfl <| r_nn <| r_seq <| r_sr <| r_ev rfl rfl <| r_ev rfl rfl <| r_nn ?_
   refine r_cond rfl (fun hdn => ?_) (fun hdn => ?_)
   ·refine r_region <| r_ev rfl rfl ?_
    refine r_neg rfl rfl (by omega) ?_
    refine r_ev rfl rfl <| r_nn <| r_region <| r_ev rfl rfl <| r_ev rfl rfl ?_
    refine r_add rfl rfl rfl (by omega) ?_
    refine r_slice_str (l := digitList) (p := d) (q := d + 1) rfl rfl ⟨_, _, rfl, by omega⟩ ⟨_, _, rfl, by omega⟩ (by omega) (show d + 1 ≤ 10 by omega) ?_
    rw [digitList_at hd10]
    refine r_ev rfl rfl ?_
    refine r_add_str rfl rfl rfl (by simp; omega) ?_
    refine r_ev rfl rfl <| r_nil <| r_in_normal <| r_then_normal <| r_region <| r_ev rfl rfl ?_
    refine r_quo rfl rfl rfl (by omega) (by omega) ?_
    refine r_ev rfl rfl <| r_nn ?_
    exact r_again (k.tdiv 10, [UInt8.ofNat (48 + d)] ++ s) ⟨by simp only; omega, hnext.1, hnext.2⟩ (by simp only; omega) ⟨rfl, rfl, rfl, trivial⟩ rfl rfl
   ·refine r_skip <| r_then_normal <| r_region <| r_ev rfl rfl <| r_ev rfl rfl ?_
    refine r_add rfl rfl rfl (by omega) ?_
    refine r_slice_str (l := digitList) (p := d) (q := d + 1) rfl rfl ⟨_, _, rfl, by omega⟩ ⟨_, _, rfl, by omega⟩ (by omega) (show d + 1 ≤ 10 by omega) ?_
    rw [digitList_at hd10]
    refine r_ev rfl rfl ?_
    refine r_add_str rfl rfl rfl (by simp; omega) ?_
    refine r_ev rfl rfl <| r_nil <| r_in_normal <| r_then_normal <| r_region <| r_ev rfl rfl ?_
    refine r_quo rfl rfl rfl (by omega) (by omega) ?_
    refine r_ev rfl rfl <| r_nn ?_
    exact r_again (k.tdiv 10, [UInt8.ofNat (48 + d)] ++ s) ⟨by simp only; omega, hnext.1, hnext.2⟩ (by simp only; omega) ⟨rfl, rfl, rfl, trivial⟩ rfl rfl
  ·have hk1 : k = 0 := by omega
   have hd := h2 hk1
   have hsl : s.length ≤ 100 := by rw [← hd]; exact hD
   refine r_exit <| r_then_exit <| r_then_exit <| r_in_exit <| r_then_normal <| r_seq <| r_sr <| r_ev rfl rfl <| r_ev rfl rfl <| r_nn ?_
   refine r_cond rfl (fun hneg => ?_) (fun hneg => ?_)
   ·refine r_region <| r_ev rfl rfl ?_
    refine r_add_str rfl rfl rfl (by simp; omega) ?_
    refine r_ev rfl rfl <| r_nn <| r_sr <| r_ev rfl rfl <| r_ev rfl rfl <| r_nn <| r_retc ?_
    exact r_ret1 [] rfl rfl (by simp) ⟨by rw [Lib.itoa, if_pos hneg, hd]; rfl, rfl, rfl⟩
   ·refine r_skip <| r_then_normal <| r_sr <| r_ev rfl rfl <| r_ev rfl rfl <| r_nn <| r_retc ?_
    exact r_ret1 [] rfl rfl (by simp) ⟨by rw [Lib.itoa, if_neg hneg, ← hd, show n.natAbs = n.toNat by omega], rfl, rfl⟩
theorem Number1_spec (g : Ghost) (m : Nat) (hm : m < 10) : Pure Tryz.prog 59 [.int .i64 m] g (str [UInt8.ofNat (48 + m)]) := by
 have h := rNumber_spec g m (by omega) (by rw [dec_small (by omega)]; simp)
 have e : Lib.itoa (m : Int) = [UInt8.ofNat (48 + m)] := by
  unfold Lib.itoa
  rw [if_neg (by omega)]
  exact dec_small hm
 rw [e] at h
 exact h
end Go.Proofs.YtpjehhnaojjanaaGreatDoor
-- sum 46d5015d70a94a29


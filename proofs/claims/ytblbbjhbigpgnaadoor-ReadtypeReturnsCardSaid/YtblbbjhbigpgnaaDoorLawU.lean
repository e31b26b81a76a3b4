/- The walk of ReadtypeReturns. -/
import Derived.Test.YtblbbjhbigpgnaaDoorLawT
namespace Go.Proofs.YtblbbjhbigpgnaaDoor
open Go Go.Eng Go.Th Go.Proofs
set_option maxRecDepth 10000
set_option maxHeartbeats 4000000
attribute [local irreducible] wpList Code.wp Run bodyPost Go.Eng.Ends Exit.then Exit.inBlock Again Wq Kq
theorem ReadtypeReturns_spec (g : Ghost) (hg : ErrT g) (bits : Int) (_hb : -9223372036854775808 ≤ bits ∧ bits ≤ 9223372036854775807) (vc : Value) (lc : List Int) (hsc : SlAt g 1 vc lc.length (ints lc)) (_hw : ∀ n ∈ lc, -9223372036854775808 ≤ n ∧ n ≤ 9223372036854775807)
    (vb : Value) (lb : List Int) (hsb : SlAt g 1 vb lb.length (ints lb)) (_hwb : ∀ n ∈ lb, -9223372036854775808 ≤ n ∧ n ≤ 9223372036854775807) : Pure Tryd.prog 3 [.int .i64 bits, vc, vb] g (.bool true) := by
  refine spec_of_run Tryd.func3 rfl Tryd.ntmps3 rfl fun E hE => ?_
  refine r_sr ?_
  refine r_ev rfl rfl ?_; refine r_nn ?_; refine r_seq ?_; refine r_sr ?_
  refine r_callN rfl rfl (first5_spec g hg) ?_
  rintro _ g1 rfl hle1
  have hg1 := hg.mono hle1
  have hsc1 := hsc.mono hle1
  have hsb1 := hsb.mono hle1
  obtain ⟨ca, cc, rfl⟩ := slForm2 hsc
  obtain ⟨ba, bc, rfl⟩ := slForm2 hsb
  refine r_ev rfl rfl ?_; refine r_nn ?_; refine r_cond_false rfl ?_; refine r_skip ?_; refine r_then_normal ?_; refine r_seq ?_; refine r_sr ?_; refine r_ev rfl rfl ?_
  refine r_callP rfl rfl (Few_spec g1 _ lc hsc1) ?_
  refine r_ev rfl rfl ?_; refine r_ev rfl rfl ?_
  refine r_gbool rfl rfl (fun h60 => ?_) (fun h60 => ?_)
  · refine r_shrink hE hle1 ?_
    refine r_pass rfl rfl rfl ?_; refine r_pass rfl rfl rfl ?_; refine r_pass rfl rfl rfl ?_; refine r_ev rfl rfl ?_; refine r_nn ?_; refine r_cond_true rfl ?_; refine r_sr ?_; refine r_ev rfl rfl ?_; refine r_nn ?_; refine r_retc ?_; refine r_then_ret ?_
    exact r_ret1 [] rfl rfl (by simp) ⟨rfl, rfl, rfl⟩
  · refine r_tev rfl rfl rfl ?_; refine r_take rfl ?_; refine r_len_sl rfl rfl ?_; refine r_tev rfl rfl rfl ?_; refine r_ev rfl rfl ?_; refine r_nn ?_
    refine r_cond rfl (fun h10 => ?_) (fun h10 => ?_)
    · refine r_shrink hE hle1 ?_
      refine r_sr ?_; refine r_ev rfl rfl ?_; refine r_nn ?_; refine r_retc ?_; refine r_then_ret ?_
      exact r_ret1 [] rfl rfl (by simp) ⟨rfl, rfl, rfl⟩
    have hlc : lc.length ≤ 60 := by simp at h60; omega
    refine r_skip ?_; refine r_then_normal ?_; refine r_sr ?_; refine r_ev rfl rfl ?_; refine r_build rfl rfl (by rfl) ?_
    refine r_box rfl rfl rfl (fun b29 => ?_)
    refine r_ev rfl rfl ?_; refine r_nn ?_; refine r_sr ?_; refine r_ev rfl rfl ?_; refine r_ev rfl rfl ?_
    refine r_callN rfl rfl (Datas_spec g1 bits) ?_
    rintro dv g2 ⟨ds, xd, hd1, hd2, hdn, hdm⟩ hle2
    obtain ⟨da, dc, rfl⟩ := slForm2 hd1
    refine r_callN rfl rfl (Named_spec g2) ?_
    rintro fv g3 ⟨xl, hf1, hf2⟩ hle3
    obtain ⟨fa, fc, rfl⟩ := slForm2 hf1
    have hE3 : TpE g3 lc (.slice ca lc.length cc) ds (.slice da ds.length dc) abc (.slice fa 3 fc) := tpE_first ((hsc1.mono hle2).mono hle3) hlc ⟨xd, hd1.mono hle3, das_mono hle3 hd2⟩ hdn hdm ⟨xl, hf1, hf2⟩
    refine r_callL 0 rfl rfl rfl (TType_spec lc b29 4 (by omega) g3 0 _ ds _ abc _ hE3 (Nat.zero_le _)) ?_
    rintro w g4 r' ⟨t, i', ht, gt, lt, rfl, _⟩ hle4
    have hlt : (showT t).length ≤ 300 := Nat.le_trans lt (by decide)
    have hg4 := ((hg1.mono hle2).mono hle3).mono hle4
    have hle14 := Ghost.le_trans hle1 (Ghost.le_trans hle2 (Ghost.le_trans hle3 hle4))
    have hsb4 := ((hsb1.mono hle2).mono hle3).mono hle4
    obtain ⟨ya, ym, yc, rfl, hta⟩ := ht.cells5
    skip
    refine r_alloc rfl (fun b8 => ?_)
    refine r_storeA 0 rfl rfl rfl rfl (by rfl) (by repeat' (first | exact rfl | assumption | refine all_cons ?_ ?_)) rfl ?_; refine r_nn ?_; refine r_sr ?_; refine r_loadB 0 rfl rfl rfl (by rfl) ?_
    refine r_callP rfl rfl (Type8_spec g4 t _ gt (by omega) ⟨_, rfl, hta⟩) ?_
    skip
    refine r_callN rfl rfl (scan5_spec g4 _ (by omega)) ?_
    rintro wl g5 hwl hle5
    have hg5 := hg4.mono hle5
    obtain ⟨la, lc', rfl⟩ := slForm2 hwl
    refine r_ev rfl rfl ?_; refine r_nn ?_; refine r_sr ?_; refine r_ev rfl rfl ?_
    refine r_callN rfl rfl (rType_spec (toksOf_TB _) g5 hg5 _ 0 hwl) ?_
    rw [show_reads gt (by omega) (List.append_nil _).symm stopT_nil]
    rintro _ g6 hans hle6
    have hg6 := hg5.mono hle6
    have hwl6 := hwl.mono hle6
    obtain ⟨tv, rfl, hty⟩ := ansPost_ok hans
    obtain ⟨za, zm, zc, rfl, htz⟩ := hty.cells5
    refine r_ev rfl rfl ?_; refine r_ev rfl rfl ?_; refine r_ev rfl rfl ?_; refine r_ev rfl rfl ?_
    refine r_alloc rfl (fun b10 => ?_)
    skip
    refine r_alloc rfl (fun b12 => ?_)
    refine r_storeA 1 rfl rfl rfl rfl (by rfl) (by repeat' (first | exact rfl | assumption | refine all_cons ?_ ?_)) rfl ?_; refine r_ev rfl rfl ?_; refine r_storeA 0 rfl rfl rfl rfl (by rfl) (by repeat' (first | exact rfl | assumption | refine all_cons ?_ ?_)) rfl ?_; refine r_nn ?_; refine r_sr ?_; refine r_ev rfl rfl ?_
    -- the tokens and what stands behind them
    have hfl := (toksOf_facts (showT t)).1
    have hone : ∀ u ∈ (toksOf (showT t)).flatMap tokCells, oneC u = true := toks_one _
    refine r_nilRow 44 3 ?_
    refine r_appendAt 0 rfl rfl rfl rfl hwl6 (by rfl) (by rfl) hone (by unfold maxLen; omega) (by omega) (fun v1 _ => ?_)
    refine r_rowForm 0 rfl ?_
    rintro ⟨a1, m1, c1, rfl⟩
    refine r_build rfl rfl (by rfl) ?_
    refine r_buildSlice rfl rfl (by rfl) (by rfl) (by rfl) (by rfl) (by rfl) (fun b47 => ?_)
    refine r_appendRow 1 0 rfl rfl rfl rfl rfl (by rfl) (by rfl) rfl (by unfold maxLen; omega) (by omega) (fun v2 _ => ?_)
    refine r_drop (own' := [_, _, _, _, _]) (.cons _ (List.Sublist.refl _)) ?_
    refine r_rowForm 0 rfl ?_
    rintro ⟨a2, m2, c2, rfl⟩
    refine r_ev rfl rfl ?_; refine r_nn ?_; refine r_sr ?_; refine r_ev rfl rfl ?_; refine r_ev rfl rfl ?_
    refine r_callN rfl rfl (words5_spec g6 _ lb (by omega) (((hsb4.mono hle5)).mono hle6)) ?_
    rintro wb g7 hwb hle7
    have hg7 := hg6.mono hle7
    have hfb := (toksOf_facts (words5 lb)).1
    have hone2 : ∀ u ∈ (toksOf (words5 lb)).flatMap tokCells, oneC u = true := toks_one _
    obtain ⟨a3, c3, rfl⟩ := slForm2 hwb
    refine r_appendAt 0 rfl rfl rfl rfl hwb (by rfl) (by rfl) hone2 (by unfold maxLen; omega) (by omega) (fun v3 _ => ?_)
    refine r_publishRow (fun g8 hle8 hs8 => ?_)
    have hg8 := hg7.mono hle8
    obtain ⟨L, hL⟩ : ∃ L, L = toksOf (showT t) ++ ((⟨5, [59], 999⟩ : Tok) :: toksOf (words5 lb)) := ⟨_, rfl⟩
    have hs8' : ToksAt g8 v3 L := by
      subst hL
      have e1 : (toksOf (showT t) ++ ((⟨5, [59], 999⟩ : Tok) :: toksOf (words5 lb))).length = 0 + (toksOf (showT t)).length + 1 + (toksOf (words5 lb)).length := by simp; omega
      have e2 : (toksOf (showT t) ++ ((⟨5, [59], 999⟩ : Tok) :: toksOf (words5 lb))).flatMap tokCells = [] ++ (toksOf (showT t)).flatMap tokCells ++ [.int .i64 5, str [59], .int .i64 999] ++ (toksOf (words5 lb)).flatMap tokCells := by simp [tokCells]
      show SlAt g8 3 v3 _ _
      rw [e1, e2]
      exact hs8
    have hTL : TB L := by
      subst hL
      have h1 := toksOf_TB (showT t)
      have h2 := toksOf_TB (words5 lb)
      refine ⟨by simp; omega, fun x hx => ?_⟩
      rcases List.mem_append.1 hx with hx | hx
      · exact h1.2 x hx
      · rcases List.mem_cons.1 hx with rfl | hx
        · simp
        · exact h2.2 x hx
    obtain ⟨a4, c4, rfl⟩ := slForm2 hs8'
    skip
    refine r_callN rfl rfl (rType_spec hTL g8 hg8 _ 0 hs8') ?_
    rw [show_reads gt (by omega) hL (stopT_semi _)]
    rintro _ g9 hans2 hle9
    obtain ⟨tv2, rfl, hty2⟩ := ansPost_ok hans2
    obtain ⟨xa, xm, xc, rfl, htx⟩ := hty2.cells5
    refine r_ev rfl rfl ?_; refine r_ev rfl rfl ?_; refine r_ev rfl rfl ?_; refine r_ev rfl rfl ?_
    refine r_alloc rfl (fun b14 => ?_)
    skip
    refine r_alloc rfl (fun b16 => ?_)
    refine r_storeA 1 rfl rfl rfl rfl (by rfl) (by repeat' (first | exact rfl | assumption | refine all_cons ?_ ?_)) rfl ?_; refine r_ev rfl rfl ?_; refine r_storeA 0 rfl rfl rfl rfl (by rfl) (by repeat' (first | exact rfl | assumption | refine all_cons ?_ ?_)) rfl ?_; refine r_nn ?_; refine r_sr ?_; refine r_fieldAddr rfl rfl ?_; refine r_loadB1 2 rfl rfl rfl rfl ?_; refine r_ev rfl rfl ?_; refine r_ev rfl rfl ?_; refine r_tev rfl rfl rfl ?_; refine r_tev rfl rfl rfl ?_; refine r_take rfl ?_; refine r_len_sl rfl rfl ?_; refine r_tev rfl rfl rfl ?_; refine r_ev rfl rfl ?_; refine r_ev rfl rfl ?_
    have hle69 := Ghost.le_trans hle7 (Ghost.le_trans hle8 hle9)
    have hta9 := ((hta.mono hle5).mono hle6).mono hle69
    refine r_gdec rfl rfl (fun _ => ?_) (fun h => absurd rfl h)
    refine r_take rfl ?_; refine r_loadB 4 rfl rfl rfl (by rfl) ?_; refine r_take rfl ?_; refine r_loadB 3 rfl rfl rfl (by rfl) ?_; refine r_take rfl ?_
    refine r_callP rfl rfl (Equal_spec g9 t _ _ ⟨_, rfl, hta9⟩ ⟨_, rfl, htz.mono hle69⟩) ?_
    refine r_ev rfl rfl ?_; refine r_ev rfl rfl ?_; refine r_take rfl ?_; refine r_fieldAddr rfl rfl ?_; refine r_take rfl ?_; refine r_loadB1 0 rfl rfl rfl rfl ?_; refine r_tev rfl rfl rfl ?_; refine r_ev rfl rfl ?_; refine r_ev rfl rfl ?_; refine r_tev rfl rfl rfl ?_; refine r_tev rfl rfl rfl ?_; refine r_take rfl ?_; refine r_len_sl rfl rfl ?_; refine r_tev rfl rfl rfl ?_; refine r_ev rfl rfl ?_; refine r_ev rfl rfl ?_
    refine r_gdec rfl rfl (fun _ => ?_) (fun h => absurd rfl h)
    refine r_take rfl ?_; refine r_loadB 4 rfl rfl rfl (by rfl) ?_; refine r_take rfl ?_; refine r_loadB 1 rfl rfl rfl (by rfl) ?_; refine r_take rfl ?_
    refine r_callP rfl rfl (Equal_spec g9 t _ _ ⟨_, rfl, hta9⟩ ⟨_, rfl, htx⟩) ?_
    refine r_ev rfl rfl ?_; refine r_ev rfl rfl ?_; refine r_nn ?_; refine r_retc ?_
    refine r_shrink hE (Ghost.le_trans hle14 (Ghost.le_trans hle5 (Ghost.le_trans hle6 hle69))) ?_
    exact r_ret1 [] rfl rfl (by simp) ⟨rfl, rfl, rfl⟩
end Go.Proofs.YtblbbjhbigpgnaaDoor
-- sum 066a1c63217c3ab4

/- The walk of ReadtypeParentheses. -/
import Derived.Test.YtblbbjhbigpgnaaDoorLawH
import Derived.Test.YtblbbjhbigpgnaaDoorK6
namespace Go.Proofs.YtblbbjhbigpgnaaDoor
open Go Go.Eng Go.Th Go.Proofs
set_option maxRecDepth 10000
set_option maxHeartbeats 4000000
attribute [local irreducible] wpList Code.wp Run bodyPost Go.Eng.Ends Exit.then Exit.inBlock Again Wq Kq
theorem toks_one (l : List Tok) : ∀ u ∈ l.flatMap tokCells, oneC u = true := by
  intro u hu
  obtain ⟨t, _, h⟩ := List.mem_flatMap.1 hu
  simp only [tokCells, List.mem_cons, List.not_mem_nil, or_false] at h
  rcases h with rfl | rfl | rfl <;> rfl
theorem tpE_first {g2 : Ghost} {lc : List Int} {vc : Value} {ds : List Da} {dv fv : Value} (hs : SlAt g2 1 vc lc.length (ints lc)) (hc : lc.length ≤ 60) (hd : ∃ xd, SlAt g2 4 dv ds.length xd ∧ AllAt (DaAt g2) ds xd) (hn : ds.length ≤ 8) (hm : ∀ d ∈ ds, d ∈ allD)
    (hf : ∃ xl, SlAt g2 5 fv 3 xl ∧ TysAt g2 abc xl) : TpE g2 lc vc ds dv abc fv :=
  ⟨hs, by omega, hd, hn, fun d h => allD_gd d (hm d h), hf, by simp [abc], abc_good⟩
theorem ReadtypeParentheses_spec (g : Ghost) (hg : ErrT g) (bits : Int) (_hb : -9223372036854775808 ≤ bits ∧ bits ≤ 9223372036854775807) (vc : Value) (lc : List Int) (hsc : SlAt g 1 vc lc.length (ints lc)) (_hw : ∀ n ∈ lc, -9223372036854775808 ≤ n ∧ n ≤ 9223372036854775807)
    (n : Int) (_hn : -9223372036854775808 ≤ n ∧ n ≤ 9223372036854775807) : Pure Tryd.prog 6 [.int .i64 bits, vc, .int .i64 n] g (.bool true) := by
  refine spec_of_run Tryd.func6 rfl Tryd.ntmps6 rfl fun E hE => ?_
  refine r_sr ?_
  refine r_ev rfl rfl ?_; refine r_nn ?_; refine r_seq ?_; refine r_sr ?_
  refine r_callN rfl rfl (first5_spec g hg) ?_
  rintro _ g1 rfl hle1
  have hg1 := hg.mono hle1
  have hsc1 := hsc.mono hle1
  obtain ⟨ca, cc, rfl⟩ := slForm2 hsc
  refine r_ev rfl rfl ?_; refine r_nn ?_; refine r_cond_false rfl ?_; refine r_skip ?_; refine r_then_normal ?_; refine r_seq ?_; refine r_sr ?_; refine r_ev rfl rfl ?_
  refine r_callP rfl rfl (Few_spec g1 _ lc hsc1) ?_
  refine r_ev rfl rfl ?_; refine r_nn ?_
  refine r_condb rfl (fun h60 => ?_) (fun h60 => ?_)
  · refine r_shrink hE hle1 ?_
    refine r_sr ?_; refine r_ev rfl rfl ?_; refine r_nn ?_; refine r_retc ?_; refine r_then_ret ?_
    exact r_ret1 [] rfl rfl (by simp) ⟨rfl, rfl, rfl⟩
  have hlc : lc.length ≤ 60 := by simp at h60; omega
  refine r_skip ?_; refine r_then_normal ?_; refine r_sr ?_; refine r_ev rfl rfl ?_; refine r_build rfl rfl (by rfl) ?_
  refine r_box rfl rfl rfl (fun b22 => ?_)
  refine r_ev rfl rfl ?_; refine r_nn ?_; refine r_sr ?_; refine r_ev rfl rfl ?_; refine r_ev rfl rfl ?_
  refine r_callN rfl rfl (Datas_spec g1 bits) ?_
  rintro dv g2 ⟨ds, xd, hd1, hd2, hdn, hdm⟩ hle2
  obtain ⟨da, dc, rfl⟩ := slForm2 hd1
  refine r_callN rfl rfl (Named_spec g2) ?_
  rintro fv g3 ⟨xl, hf1, hf2⟩ hle3
  obtain ⟨fa, fc, rfl⟩ := slForm2 hf1
  have hE3 : TpE g3 lc (.slice ca lc.length cc) ds (.slice da ds.length dc) abc (.slice fa 3 fc) := tpE_first ((hsc1.mono hle2).mono hle3) hlc ⟨xd, hd1.mono hle3, das_mono hle3 hd2⟩ hdn hdm ⟨xl, hf1, hf2⟩
  refine r_callL 0 rfl rfl rfl (TType_spec lc b22 3 (by omega) g3 0 _ ds _ abc _ hE3 (Nat.zero_le _)) ?_
  rintro w g4 r' ⟨t, i', ht, gt, lt, rfl, _⟩ hle4
  have hlt : (showT t).length ≤ 200 := Nat.le_trans lt (by decide)
  have hg4 := ((hg1.mono hle2).mono hle3).mono hle4
  have hle14 := Ghost.le_trans hle1 (Ghost.le_trans hle2 (Ghost.le_trans hle3 hle4))
  obtain ⟨ya, ym, yc, rfl, hta⟩ := ht.cells5
  skip
  refine r_alloc rfl (fun b8 => ?_)
  refine r_storeA 0 rfl rfl rfl rfl (by rfl) (by repeat' (first | exact rfl | assumption | refine all_cons ?_ ?_)) rfl ?_; refine r_nn ?_; refine r_sr ?_; refine r_loadB 0 rfl rfl rfl (by rfl) ?_
  refine r_callP rfl rfl (Type8_spec g4 t _ gt (by omega) ⟨_, rfl, hta⟩) ?_
  refine r_ev rfl rfl ?_; refine r_nn ?_; refine r_seq ?_; refine r_sr ?_; refine r_ev rfl rfl ?_
  have hm : 0 ≤ modI n 5 ∧ modI n 5 < 5 := by unfold modI; rw [if_neg (by omega)]; omega
  refine r_callP rfl rfl (Mod_spec g4 n 5 (by omega)) ?_
  obtain ⟨m, hmm⟩ : ∃ m : Nat, modI n 5 = m := ⟨(modI n 5).toNat, by omega⟩
  rw [hmm] at hm ⊢
  refine r_ev rfl rfl ?_; refine r_nn ?_; refine r_block ?_
  refine r_loop (ι := Nat) (fun k => [(8, ptr b8 0), (9, str (parS k (showT t))), (10, .int .i64 ((m : Int) - k))]) (fun _ => g4) (fun _ => [.blk b8 30 (tyCells t (.slice ya ym yc)), tpB b22 (.slice ca lc.length cc) i']) (fun k => k ≤ m + 1) (fun k => m + 1 - k) 0 (by omega) ⟨rfl, rfl, by simp; rfl, trivial⟩ rfl rfl ?_
  intro k hk
  have hkl := parS_len k (showT t)
  refine r_seq ?_; refine r_sr ?_; refine r_ev rfl rfl ?_; refine r_ev rfl rfl ?_; refine r_nn ?_
  refine r_cond rfl (fun hlt2 => ?_) (fun hlt2 => ?_)
  · refine r_skip ?_; refine r_then_normal ?_; refine r_seq ?_; refine r_block ?_; refine r_region ?_; refine r_ev rfl rfl ?_
    refine r_add_str rfl rfl rfl (by simp; omega) ?_
    refine r_add_str rfl rfl rfl (by simp; omega) ?_
    refine r_ev rfl rfl ?_; refine r_nil ?_; refine r_in_normal ?_; refine r_then_normal ?_; refine r_region ?_; refine r_ev rfl rfl ?_; refine r_sub_ rfl rfl rfl (by omega) ?_; refine r_ev rfl rfl ?_; refine r_nn ?_
    exact r_again (k + 1) (by omega) (by omega) ⟨rfl, rfl, by rw [show ((k + 1 : Nat) : Int) = (k : Int) + 1 by omega]; exact lkInt rfl (by omega), trivial⟩ rfl rfl
  · have hkm : k = m + 1 := by omega
    subst hkm
    have hpa := par_atom gt m (by omega)
    refine r_exit ?_; refine r_then_exit ?_; refine r_then_exit ?_; refine r_in_exit ?_; refine r_then_normal ?_; refine r_sr ?_; refine r_ev rfl rfl ?_
    refine r_callN rfl rfl (scan5_spec g4 _ (by omega)) ?_
    rintro wl g5 hwl hle5
    have hg5 := hg4.mono hle5
    obtain ⟨la, lc', rfl⟩ := slForm2 hwl
    refine r_ev rfl rfl ?_; refine r_nn ?_; refine r_sr ?_; refine r_ev rfl rfl ?_
    refine r_callN rfl rfl (rAtom_spec (toksOf_TB _) g5 hg5 _ 0 hwl) ?_
    rw [hpa]
    rintro _ g6 hans hle6
    obtain ⟨tv, rfl, hty⟩ := ansPost_ok hans
    obtain ⟨za, zm, zc, rfl, htz⟩ := hty.cells5
    refine r_ev rfl rfl ?_; refine r_ev rfl rfl ?_; refine r_ev rfl rfl ?_; refine r_ev rfl rfl ?_
    refine r_alloc rfl (fun b12 => ?_)
    skip
    refine r_alloc rfl (fun b14 => ?_)
    refine r_storeA 1 rfl rfl rfl rfl (by rfl) (by repeat' (first | exact rfl | assumption | refine all_cons ?_ ?_)) rfl ?_; refine r_ev rfl rfl ?_; refine r_storeA 0 rfl rfl rfl rfl (by rfl) (by repeat' (first | exact rfl | assumption | refine all_cons ?_ ?_)) rfl ?_; refine r_nn ?_; refine r_sr ?_; refine r_fieldAddr rfl rfl ?_; refine r_loadB1 0 rfl rfl rfl rfl ?_; refine r_ev rfl rfl ?_; refine r_ev rfl rfl ?_; refine r_tev rfl rfl rfl ?_; refine r_tev rfl rfl rfl ?_; refine r_take rfl ?_; refine r_len_sl rfl rfl ?_; refine r_tev rfl rfl rfl ?_; refine r_ev rfl rfl ?_; refine r_ev rfl rfl ?_
    refine r_gdec rfl rfl (fun _ => ?_) (fun h => absurd rfl h)
    refine r_take rfl ?_; refine r_loadB 2 rfl rfl rfl (by rfl) ?_; refine r_take rfl ?_; refine r_loadB 1 rfl rfl rfl (by rfl) ?_; refine r_take rfl ?_
    refine r_callP rfl rfl (Equal_spec g6 t _ _ ⟨_, rfl, (hta.mono hle5).mono hle6⟩ ⟨_, rfl, htz⟩) ?_
    refine r_ev rfl rfl ?_; refine r_ev rfl rfl ?_; refine r_nn ?_; refine r_retc ?_
    refine r_shrink hE (Ghost.le_trans hle14 (Ghost.le_trans hle5 hle6)) ?_
    exact r_ret1 [] rfl rfl (by simp) ⟨rfl, rfl, rfl⟩
end Go.Proofs.YtblbbjhbigpgnaaDoor
-- sum 01ec0ef6d89bbb09

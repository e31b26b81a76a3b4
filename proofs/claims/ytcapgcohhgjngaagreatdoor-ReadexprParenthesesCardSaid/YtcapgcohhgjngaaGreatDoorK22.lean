/- The walk of ReadexprParentheses. -/
import Derived.Test.YtcapgcohhgjngaaGreatDoorK21
import Derived.Test.YtcapgcohhgjngaaGreatDoorK17
import Derived.Test.YtcapgcohhgjngaaGreatDoorK16
import Derived.Test.YtcapgcohhgjngaaGreatDoorRows
import Derived.LaidSub
import Derived.LaidLaws
import Derived.LaidHandle
import Derived.Stop.Joined
import Derived.Lay
namespace Go.Proofs.YtcapgcohhgjngaaGreatDoor
open Go Go.Eng Go.Th Go.Proofs
set_option maxRecDepth 10000
set_option maxHeartbeats 4000000
attribute [local irreducible] wpList Code.wp Run bodyPost Go.Eng.Ends Exit.then Exit.inBlock Again Wq Kq
theorem ReadexprParentheses_spec (g : Ghost) (hg : ErrT g) (bits : Int) (_hb : -9223372036854775808 ≤ bits ∧ bits ≤ 9223372036854775807) (vc : Value) (lc : List Int) (hsc : SlAt g 1 vc lc.length (ints lc)) (_hw : ∀ n ∈ lc, -9223372036854775808 ≤ n ∧ n ≤ 9223372036854775807)
    (n : Int) (_hn : -9223372036854775808 ≤ n ∧ n ≤ 9223372036854775807) : Pure Tryz.prog 4 [.int .i64 bits, vc, .int .i64 n] g (.bool true) := by
  refine spec_of_run Tryz.func4 rfl Tryz.ntmps4 rfl fun E hE => ?_
  refine r_sr ?_
  refine r_ev rfl rfl ?_; refine r_nn ?_; refine r_seq ?_; refine r_sr ?_
  refine r_callN rfl rfl (first6_spec g hg) ?_
  rintro _ g1 rfl hle1
  have hg1 := hg.mono hle1
  have hsc1 := hsc.mono hle1
  obtain ⟨ca, cc, rfl⟩ := slForm2 hsc
  refine r_ev rfl rfl ?_; refine r_nn ?_; refine r_cond_false rfl ?_; refine r_skip ?_; refine r_then_normal ?_; refine r_seq ?_; refine r_sr ?_; refine r_ev rfl rfl ?_
  refine r_callP rfl rfl (Few_spec g1 _ lc hsc1) ?_
  refine r_ev rfl rfl ?_; refine r_nn ?_
  refine r_condb rfl (fun h60 => ?_) (fun h60 => ?_)
  · refine r_shrink hE hle1 ?_
    refine r_sr ?_; refine r_ev rfl rfl ?_; refine r_nn ?_; refine r_retc ?_; refine r_then_ret ?_
    exact r_ret1 [] rfl rfl (by simp) ⟨rfl, rfl, rfl⟩
  have hlc : lc.length ≤ 60 := by simp at h60; omega
  refine r_skip ?_; refine r_then_normal ?_; refine r_sr ?_; refine r_ev rfl rfl ?_; refine r_build rfl rfl (by rfl) ?_
  refine r_box rfl rfl rfl (fun b22 => ?_)
  refine r_ev rfl rfl ?_; refine r_nn ?_; refine r_sr ?_; refine r_ev rfl rfl ?_; refine r_ev rfl rfl ?_
  refine r_callN rfl rfl (Datas_spec g1 bits) ?_
  rintro dv g2 ⟨ds, xd, hd1, hd2, hdn, hdm⟩ hle2
  obtain ⟨da, dc, rfl⟩ := slForm2 hd1
  have hE2 : RwE g2 lc (.slice ca lc.length cc) ds (.slice da ds.length dc) := rwE_first (hsc1.mono hle2) hlc ⟨xd, hd1, hd2⟩ hdn hdm
  refine r_callL 0 rfl rfl rfl (TRaw_spec lc b22 3 (by omega) g2 0 _ ds _ hE2 (Nat.zero_le _)) ?_
  rintro w g4 r' ⟨x, i', hx, gx, lx, rfl, _⟩ hle3
  have hlt : (showE x).length ≤ 694 := Nat.le_trans lx (by decide)
  have hg4 := (hg1.mono hle2).mono hle3
  have hle14 := Ghost.le_trans hle1 (Ghost.le_trans hle2 hle3)
  obtain ⟨a1, a2, a3, a4, a5, a6, a7, a8, a9, rfl, hxt⟩ := hx.form
  skip
  refine r_alloc rfl (fun b8 => ?_)
  refine r_storeA 0 rfl rfl rfl rfl (by rfl) (by repeat' (first | exact rfl | assumption | refine all_cons ?_ ?_)) rfl ?_; refine r_nn ?_; refine r_sr ?_; refine r_loadB 0 rfl rfl rfl (by rfl) ?_
  refine r_callP rfl rfl (Expr8_spec g4 x _ gx (by omega) ⟨_, rfl, hxt⟩) ?_
  refine r_ev rfl rfl ?_; refine r_nn ?_; refine r_seq ?_; refine r_sr ?_; refine r_ev rfl rfl ?_
  have hm : 0 ≤ modI n 5 ∧ modI n 5 < 5 := by unfold modI; rw [if_neg (by omega)]; omega
  refine r_callP rfl rfl (Mod_spec g4 n 5 (by omega)) ?_
  obtain ⟨m, hmm⟩ : ∃ m : Nat, modI n 5 = m := ⟨(modI n 5).toNat, by omega⟩
  rw [hmm] at hm ⊢
  refine r_ev rfl rfl ?_; refine r_nn ?_; refine r_block ?_
  refine r_loop (ι := Nat) (fun k => [(8, ptr b8 0), (9, str (parS k (showE x))), (10, .int .i64 ((m : Int) - k))]) (fun _ => g4) (fun _ => [.blk b8 34 [.int .i64 x.kind, .int .i64 x.pos, str x.name, .int .i64 x.num, .slice a1 a2 a3, .slice a4 a5 a6, .int .i64 x.ty.kind, str x.ty.name, .int .i64 x.ty.id, .int .i64 x.ty.home, .slice a7 a8 a9], tpB b22 (.slice ca lc.length cc) i']) (fun k => k ≤ m + 1) (fun k => m + 1 - k) 0 (by omega) ⟨rfl, rfl, by simp; rfl, trivial⟩ rfl rfl ?_
  intro k hk
  have hkl := parS_len k (showE x)
  refine r_seq ?_; refine r_sr ?_; refine r_ev rfl rfl ?_; refine r_ev rfl rfl ?_; refine r_nn ?_
  refine r_cond rfl (fun hlt2 => ?_) (fun hlt2 => ?_)
  · refine r_skip ?_; refine r_then_normal ?_; refine r_seq ?_; refine r_block ?_; refine r_region ?_; refine r_ev rfl rfl ?_
    refine r_add_str rfl rfl rfl (by simp; omega) ?_
    refine r_add_str rfl rfl rfl (by simp; omega) ?_
    refine r_ev rfl rfl ?_; refine r_nil ?_; refine r_in_normal ?_; refine r_then_normal ?_; refine r_region ?_; refine r_ev rfl rfl ?_; refine r_sub_ rfl rfl rfl (by omega) ?_; refine r_ev rfl rfl ?_; refine r_nn ?_
    exact r_again (k + 1) (by omega) (by omega) ⟨rfl, rfl, by rw [show ((k + 1 : Nat) : Int) = (k : Int) + 1 by omega]; exact lkInt rfl (by omega), trivial⟩ rfl rfl
  · have hkm : k = m + 1 := by omega
    subst hkm
    obtain ⟨y, hy1, hy2⟩ := par_atomE gx m (by omega)
    have hTl := toksOf_TB (parS (m + 1) (showE x))
    have hKl := toksOf_KW (parS (m + 1) (showE x))
    have hln := (toksOf_facts (parS (m + 1) (showE x))).1
    have hsz := (eans_size (idxOf_le (toksOf (parS (m + 1) (showE x))).length 0) (by omega)).2
    refine r_exit ?_; refine r_then_exit ?_; refine r_then_exit ?_; refine r_in_exit ?_; refine r_then_normal ?_; refine r_sr ?_; refine r_ev rfl rfl ?_
    refine r_callN rfl rfl (scan6_spec g4 _ (by omega)) ?_
    rintro wl g5 hwl hle5
    have hg5 := hg4.mono hle5
    generalize toksOf (parS (m + 1) (showE x)) = l at hwl hTl hKl hy1 hln hsz
    obtain ⟨la, lc', rfl⟩ := slForm2 hwl
    refine r_ev rfl rfl ?_; refine r_nn ?_; refine r_sr ?_; refine r_ev rfl rfl ?_
    refine r_callN rfl rfl (eAtom_spec hTl hKl g5 hg5 _ 0 hwl) ?_
    rw [hy1]
    rw [hy1] at hsz
    rintro _ g6 hans hle6
    obtain ⟨tv, rfl, hty⟩ := eans_ok hans
    replace hsz : sizeE y ≤ 1000000 := hsz
    have hsx : sizeE x ≤ 1000000 := by rw [← size_same hy2]; exact hsz
    obtain ⟨c1, c2, c3, c4, c5, c6, c7, c8, c9, rfl, htyt⟩ := hty.form
    refine r_ev rfl rfl ?_; refine r_ev rfl rfl ?_; refine r_ev rfl rfl ?_; refine r_ev rfl rfl ?_
    refine r_alloc rfl (fun b12 => ?_)
    skip
    refine r_alloc rfl (fun b14 => ?_)
    refine r_storeA 1 rfl rfl rfl rfl (by rfl) (by repeat' (first | exact rfl | assumption | refine all_cons ?_ ?_)) rfl ?_; refine r_ev rfl rfl ?_; refine r_storeA 0 rfl rfl rfl rfl (by rfl) (by repeat' (first | exact rfl | assumption | refine all_cons ?_ ?_)) rfl ?_; refine r_nn ?_; refine r_sr ?_; refine r_fieldAddr rfl rfl ?_; refine r_loadB1 0 rfl rfl rfl rfl ?_; refine r_ev rfl rfl ?_; refine r_ev rfl rfl ?_; refine r_tev rfl rfl rfl ?_; refine r_tev rfl rfl rfl ?_; refine r_take rfl ?_; refine r_len_sl rfl rfl ?_; refine r_tev rfl rfl rfl ?_; refine r_ev rfl rfl ?_; refine r_ev rfl rfl ?_
    try refine r_gdec rfl rfl (fun _ => ?_) (fun h => absurd rfl h)
    refine r_take rfl ?_; refine r_loadB 2 rfl rfl rfl (by rfl) ?_; refine r_take rfl ?_; refine r_loadB 1 rfl rfl rfl (by rfl) ?_; refine r_take rfl ?_
    try refine r_gdec rfl rfl (fun _ => ?_) (fun h => absurd rfl h)
    skip
    refine r_callP rfl rfl (Equal4_spec g6 x y _ _ hsx hsz hy2.symm ⟨_, rfl, ExAt.mono (Ghost.le_trans hle5 hle6) _ _ hxt⟩ ⟨_, rfl, htyt⟩) ?_
    refine r_ev rfl rfl ?_; refine r_ev rfl rfl ?_; refine r_nn ?_; refine r_retc ?_
    refine r_shrink hE (Ghost.le_trans hle14 (Ghost.le_trans hle5 hle6)) ?_
    exact r_ret1 [] rfl rfl (by simp) ⟨rfl, rfl, rfl⟩
end Go.Proofs.YtcapgcohhgjngaaGreatDoor
-- sum 325334d4544bba9f
/- The library's variable errors.errorType: from the rows' condition to what the walks need, and a world that meets it. -/
namespace Go.Proofs.YtcapgcohhgjngaaGreatDoor
open Go Go.Eng Go.Proofs Go.RowKit
theorem eT_g : Tryz.prog.globalNamed "errors.errorType" = some 0 := by kernel_rfl
theorem eT_rt : (Tryz.prog.cutTypes.find? (·.1 == "internal/reflectlite.rtype")).map (·.2) = some 181 := by kernel_rfl
theorem eT_row : ((List.range Tryz.prog.types.size).filter fun t => Tryz.prog.rowNamed t [101, 114, 114, 111, 114]) = [96] := by kernel_rfl
theorem errT_of {W : World} {L : List (String × DataW Unit)} (h : laidMetH Tryz.prog L W) (hm : ("errors.errorType", Rows.laid_errors_errorType) ∈ L) : ErrT (worldGhost W) := by
  obtain ⟨name, u, ty, e1, e2, e3, e4, e5⟩ := (laidMetH_iff.1 h).2 _ (List.mem_filter.2 ⟨hm, rfl⟩)
  have en : name = [101, 114, 114, 111, 114] := (Option.some.inj e1).symm
  subst en
  obtain rfl := Option.some.inj (eT_rt.symm.trans e2)
  have hm : ty ∈ (List.range Tryz.prog.types.size).filter fun t => Tryz.prog.rowNamed t [101, 114, 114, 111, 114] := List.mem_filter.2 ⟨List.mem_range.2 e3, e4⟩
  rw [eT_row] at hm
  obtain rfl := List.mem_singleton.1 hm
  show W.cell? _ = _
  simpa using World.var?_cell eT_g e5 0
/-- A world in which the variable is laid. -/
noncomputable def laidWorldH (os : Os) : World :=
  let w0 := World.holding Tryz.prog os ⟨#[], #[], []⟩
  { w0 with heap := w0.heap.modify 0 fun
      | .cells _ t frozen => .cells #[rty 96] t frozen
      | o => o }
/-- .. and the plain variables of a list with it. -/
noncomputable def laidWorldA (os : Os) (L : List (String × DataW Unit)) : World := (laidWorldH os).layVars Tryz.prog L
theorem laidWorldA_os (os : Os) (L : List (String × DataW Unit)) : (laidWorldA os L).os = os := World.layVars_os _ _ _
theorem laidMetA {os : Os} {L : List (String × DataW Unit)} (args : Array Value) (hf : (laidWorldH os).layFits Tryz.prog L [] = true) (hi : (laidWorldH os).layIfaces Tryz.prog L (laidWorldA os L) = true) :
    laidMet Tryz.prog L ((laidWorldA os L).forCall (fun _ _ => 0) ⟨#[], args, []⟩).memory := by
  have e1 : (L.filter fun x => (L.map (·.1)).contains x.1) = L := List.filter_eq_self.2 fun x hx => List.contains_iff_mem.2 (List.mem_map.2 ⟨x, hx, rfl⟩)
  have e2 : (L.filter fun x => !(L.map (·.1)).contains x.1) = [] := List.filter_eq_nil_iff.2 fun x hx => by rw [List.contains_iff_mem.2 (List.mem_map.2 ⟨x, hx, rfl⟩)]; simp
  have h : laidMet Tryz.prog L (laidWorldA os L) := laidMet_layVars (w0 := laidWorldH os) (L.map (·.1)) [] (by rw [e1]; rfl) (by rw [e1]; exact hf) (by rw [e1]; exact hi) (by rw [e2]; exact LaidIn.none)
  exact h.of_heap (by simp [World.memory, World.forCall, Input.heap])
end Go.Proofs.YtcapgcohhgjngaaGreatDoor
-- sum 15bbee09bf3712fc

/- The walk of ReadprogramLimits. -/
import Derived.Test.YtpjehhnaojjanaaGreatDoorLvE
import Derived.Test.YtpjehhnaojjanaaGreatDoorK9
import Derived.Test.YtpjehhnaojjanaaGreatDoorK8
import Derived.Test.YtpjehhnaojjanaaGreatDoorRows
import Derived.LaidSub
import Derived.LaidLaws
import Derived.LaidHandle
import Derived.Stop.Joined
import Derived.Lay
namespace Go.Proofs.YtpjehhnaojjanaaGreatDoor
open Go Go.Eng Go.Th Go.Proofs
set_option maxRecDepth 10000
set_option maxHeartbeats 4000000
attribute [local irreducible] wpList Code.wp Run bodyPost Go.Eng.Ends Exit.then Exit.inBlock Again Wq Kq
theorem AllAt.app {α : Type} {R : α → List Value → Prop} : ∀ {l m : List α} {xs ys : List Value}, AllAt R l xs → AllAt R m ys → AllAt R (l ++ m) (xs ++ ys)
 | [], _, _, _, h, h' => by rw [show _ = [] from h]; exact h'
 | a :: l, m, _, ys, ⟨c, r, h1, h2, h3⟩, h' => ⟨c, r ++ ys, by rw [h1, List.append_assoc], h2, AllAt.app h3 h'⟩
theorem WfP.app {p q : Pg} (hp : WfP p) (hq : WfP q) : WfP ⟨p.datas ++ q.datas, p.binds ++ q.binds⟩ :=
 ⟨fun d hd => (List.mem_append.1 hd).elim (hp.d d) (hq.d d), fun b hb => (List.mem_append.1 hb).elim (hp.b b) (hq.b b)⟩
theorem ReadprogramLimits_spec (g : Ghost) (hg : ErrT g) (way : Int) (_h1 : -9223372036854775808 ≤ way ∧ way ≤ 9223372036854775807) (n : Int) (_h2 : -9223372036854775808 ≤ n ∧ n ≤ 9223372036854775807)
  (other : Int) (_h3 : -9223372036854775808 ≤ other ∧ other ≤ 9223372036854775807) (m : Int) (_h4 : -9223372036854775808 ≤ m ∧ m ≤ 9223372036854775807) : Pure Tryz.prog 5 [.int .i64 way, .int .i64 n, .int .i64 other, .int .i64 m] g (.bool true) := by
 refine spec_of_run Tryz.func5 rfl Tryz.ntmps5 rfl fun E hE => ?_
 refine r_sr ?_
 refine r_ev rfl rfl <| r_nn <| r_seq <| r_sr ?_
 refine r_callN rfl rfl (first7_spec g hg) ?_
 rintro _ g1 rfl hle1
 refine r_ev rfl rfl <| r_nn <| r_cond_false rfl <| r_skip <| r_then_normal ?_
 refine r_cutG (ι := Unit) (fun _ => [(0, .int .i64 way), (1, .int .i64 n), (2, .int .i64 other), (3, .int .i64 m)]) (fun _ => g1) (fun _ => []) (fun _ => (modI way 7 = 5 → modI n 20 ≤ 9) ∧ (modI other 7 = 5 → modI m 20 ≤ 9)) ?_ ?_
 ·rintro _ ⟨hA, hB⟩
  show Run E _ [(0, .int .i64 way), (1, .int .i64 n), (2, .int .i64 other), (3, .int .i64 m)] g1 [] _
  refine r_sr <| r_ev rfl rfl <| r_ev rfl rfl ?_
  refine r_call' (lent := []) (kept := _) rfl rfl (List.Perm.refl _) (lmany_spec g1 way n hA) ?_
  rintro v g2 own' ⟨p, sd, xd, sb, xb, rfl, rfl, hd1, hb1, hw1, hl1, hm1⟩ hle2
  refine r_ev rfl rfl <| r_ev rfl rfl ?_
  refine r_call' (lent := []) (kept := _) rfl rfl (List.Perm.refl _) (lmany_spec g2 other m hB) ?_
  rintro v g3 own' ⟨q, sd2, xd2, sb2, xb2, rfl, rfl, hd2, hb2, hw2, hl2, hm2⟩ hle3
  refine r_publishRow (fun g4 hle4 hs4 => ?_)
  refine r_publishRow (fun g5 hle5 hs5 => ?_)
  obtain ⟨za, zc, rfl⟩ := slForm2 hs4
  obtain ⟨ya, yc, rfl⟩ := slForm2 hs5
  refine r_rowLen 0 rfl ?_
  rintro ⟨wa, wc, rfl⟩
  refine r_rowLen 1 rfl ?_
  rintro ⟨va, vc, rfl⟩
  have hs4' := hs4.mono hle5
  have hle35 := Ghost.le_trans hle4 hle5
  have hle25 := Ghost.le_trans hle3 hle35
  skip
  refine r_alloc rfl (fun b9 => ?_)
  skip
  refine r_alloc rfl (fun b10 => ?_)
  refine r_storeA 1 rfl rfl rfl rfl (by rfl) (by repeat' (first | exact rfl | assumption | refine all_cons ?_ ?_)) rfl ?_; refine r_storeA 0 rfl rfl rfl rfl (by rfl) (by repeat' (first | exact rfl | assumption | refine all_cons ?_ ?_)) rfl ?_; refine r_nn <| r_seq ?_
  refine m_begin 11 [3, 2] mixed (by kernel_rfl) (fun hG => ?_)
  refine m_takeX 0 rfl (by kernel_rfl) rfl hG (by first | exact Ghost.le_refl _ | assumption) (by repeat' (first | exact List.nil_sublist _ | refine List.Sublist.cons_cons _ ?_ | refine List.Sublist.cons _ ?_)) ?_; refine ⟨_, (val_fieldAddr rfl), ?_⟩; refine m_takeX 1 rfl (by kernel_rfl) rfl hG (by first | exact Ghost.le_refl _ | assumption) (by repeat' (first | exact List.nil_sublist _ | refine List.Sublist.cons_cons _ ?_ | refine List.Sublist.cons _ ?_)) ?_; refine ⟨_, (val_loadB1 1 rfl rfl rfl), ?_⟩; refine m_takeX 2 rfl (by kernel_rfl) rfl hG (by first | exact Ghost.le_refl _ | assumption) (by repeat' (first | exact List.nil_sublist _ | refine List.Sublist.cons_cons _ ?_ | refine List.Sublist.cons _ ?_)) ?_; refine ⟨_, (val_fieldAddr rfl), ?_⟩; refine m_takeX 3 rfl (by kernel_rfl) rfl hG (by first | exact Ghost.le_refl _ | assumption) (by repeat' (first | exact List.nil_sublist _ | refine List.Sublist.cons_cons _ ?_ | refine List.Sublist.cons _ ?_)) ?_; refine ⟨_, (val_loadB1 0 rfl rfl rfl), ?_⟩
  refine m_takeX 5 rfl (by kernel_rfl) rfl hG (by first | exact Ghost.le_refl _ | assumption) (by repeat' (first | exact List.nil_sublist _ | refine List.Sublist.cons_cons _ ?_ | refine List.Sublist.cons _ ?_)) ?_; refine ⟨_, (val_fieldAddr rfl), ?_⟩; refine m_takeX 6 rfl (by kernel_rfl) rfl hG (by first | exact Ghost.le_refl _ | assumption) (by repeat' (first | exact List.nil_sublist _ | refine List.Sublist.cons_cons _ ?_ | refine List.Sublist.cons _ ?_)) ?_; refine ⟨_, (val_loadB1 1 rfl rfl rfl), ?_⟩; refine m_takeX 7 rfl (by kernel_rfl) rfl hG (by first | exact Ghost.le_refl _ | assumption) (by repeat' (first | exact List.nil_sublist _ | refine List.Sublist.cons_cons _ ?_ | refine List.Sublist.cons _ ?_)) ?_; refine ⟨_, (val_fieldAddr rfl), ?_⟩; refine m_takeX 8 rfl (by kernel_rfl) rfl hG (by first | exact Ghost.le_refl _ | assumption) (by repeat' (first | exact List.nil_sublist _ | refine List.Sublist.cons_cons _ ?_ | refine List.Sublist.cons _ ?_)) ?_; refine ⟨_, (val_loadB1 0 rfl rfl rfl), ?_⟩
  refine m_one 4 (by kernel_rfl) rfl rfl ?_
  skip
  refine r_appendAt 2 rfl rfl rfl rfl hs4' (by rfl) (by rfl) (AllAt.one (fun _ _ h => h.one) hd2).2 (by unfold maxLen; omega) (by omega) (fun v1 _ => ?_)
  refine r_rowForm 2 rfl ?_
  rintro ⟨z1, z2, z3, rfl⟩
  refine r_nn ?_
  refine h_kept hG (by first | exact Ghost.le_refl _ | assumption) (by repeat' (first | exact List.nil_sublist _ | refine List.Sublist.cons_cons _ ?_ | refine List.Sublist.cons _ ?_)) ?_
  refine m_takeX 10 rfl (by kernel_rfl) rfl hG (by first | exact Ghost.le_refl _ | assumption) (by repeat' (first | exact List.nil_sublist _ | refine List.Sublist.cons_cons _ ?_ | refine List.Sublist.cons _ ?_)) ?_; refine ⟨_, (val_fieldAddr rfl), ?_⟩
  refine m_one 9 (by kernel_rfl) rfl rfl ?_
  skip
  refine r_appendAt 3 rfl rfl rfl rfl hs5 (by rfl) (by rfl) (AllAt.one (fun _ _ h => h.one) hb2).2 (by unfold maxLen; omega) (by omega) (fun v2 _ => ?_)
  refine r_rowForm 3 rfl ?_
  rintro ⟨z4, z5, z6, rfl⟩
  refine r_nn ?_
  refine h_kept hG (by first | exact Ghost.le_refl _ | assumption) (by repeat' (first | exact List.nil_sublist _ | refine List.Sublist.cons_cons _ ?_ | refine List.Sublist.cons _ ?_)) ?_
  refine m_done (by kernel_rfl) ?_
  refine r_store1 1 rfl rfl rfl rfl rfl rfl <| r_fieldAddr rfl rfl <| r_store1 1 rfl rfl rfl rfl rfl rfl <| r_nn <| r_seq ?_
  refine r_perm (own' := [_, _, _, _]) ((List.perm_append_comm (l₁ := [_, _]) (l₂ := [_, _]))) ?_
  refine r_publishRow (fun g6 hle6 hs6 => ?_)
  refine r_publishRow (fun g7 hle7 hs7 => ?_)
  have hle57 := Ghost.le_trans hle6 hle7
  have hle37 := Ghost.le_trans hle35 hle57
  have hle27 := Ghost.le_trans hle3 hle37
  have hle17 := Ghost.le_trans hle1 (Ghost.le_trans hle2 hle27)
  have hP : ∀ (e1 : Option Addr) (e2 e3 : Nat) (f1 : Option Addr) (f2 f3 : Nat), SlAt g7 4 (.slice e1 e2 e3) (p.datas ++ q.datas).length (xd ++ xd2) → SlAt g7 20 (.slice f1 f2 f3) (p.binds ++ q.binds).length (xb ++ xb2) → PgV g7 (.agg #[.slice e1 e2 e3, .slice f1 f2 f3]) ⟨p.datas ++ q.datas, p.binds ++ q.binds⟩ := fun _ _ _ _ _ _ k1 k2 =>
   ⟨_, rfl, _, _, _, _, rfl, k1, AllAt.app (das_mono hle27 hd1) (das_mono hle37 hd2), k2, AllAt.app (bis_mono hle27 hb1) (bis_mono hle37 hb2)⟩
  have hP1 := hP _ _ _ _ _ _ (by rw [List.length_append]; exact hs6.mono hle7) (by rw [List.length_append]; exact hs7)
  have hP2 : PgV g7 (.agg #[.slice za q.datas.length zc, .slice ya q.binds.length yc]) q := ⟨_, rfl, _, _, _, _, rfl, hs4'.mono hle57, das_mono hle37 hd2, hs5.mono hle57, bis_mono hle37 hb2⟩
  skip
  refine h_beginE [] mixed (fun hG => ?_)
  refine h_takeX 0 rfl (by kernel_rfl) rfl hG (by first | exact Ghost.le_refl _ | assumption) (by repeat' (first | exact List.nil_sublist _ | refine List.Sublist.cons_cons _ ?_ | refine List.Sublist.cons _ ?_)) ?_; refine ⟨_, (val_loadB 1 rfl rfl (by rfl)), ?_⟩
  refine h_takeX 2 rfl (by kernel_rfl) rfl hG (by first | exact Ghost.le_refl _ | assumption) (by repeat' (first | exact List.nil_sublist _ | refine List.Sublist.cons_cons _ ?_ | refine List.Sublist.cons _ ?_)) ?_; refine ⟨_, (val_loadB 1 rfl rfl (by rfl)), ?_⟩
  refine h_one 1 (by kernel_rfl) rfl ?_
  refine r_callP rfl rfl (Deep_spec g7 _ _ (hw1.app hw2) hP1) ?_
  refine r_nn ?_
  refine h_kept hG (by first | exact Ghost.le_refl _ | assumption) (by repeat' (first | exact List.nil_sublist _ | refine List.Sublist.cons_cons _ ?_ | refine List.Sublist.cons _ ?_)) ?_
  refine h_one 3 (by kernel_rfl) rfl ?_
  refine r_callP rfl rfl (Deep7_spec g7 _ _ (hw1.app hw2) hP1) ?_
  refine r_nn ?_
  refine h_kept hG (by first | exact Ghost.le_refl _ | assumption) (by repeat' (first | exact List.nil_sublist _ | refine List.Sublist.cons_cons _ ?_ | refine List.Sublist.cons _ ?_)) ?_
  refine h_takeX 4 rfl (by kernel_rfl) rfl hG (by first | exact Ghost.le_refl _ | assumption) (by repeat' (first | exact List.nil_sublist _ | refine List.Sublist.cons_cons _ ?_ | refine List.Sublist.cons _ ?_)) ⟨_, (val_eql_pair rfl rfl), ?_⟩
  refine r_rw 53 rfl (v' := .bool true) (by simp) ?_
  refine h_takeX 5 rfl (by kernel_rfl) rfl hG (by first | exact Ghost.le_refl _ | assumption) (by repeat' (first | exact List.nil_sublist _ | refine List.Sublist.cons_cons _ ?_ | refine List.Sublist.cons _ ?_)) ?_; refine ⟨_, (val_ev rfl), ?_⟩; refine h_takeGX 6 rfl rfl (by kernel_rfl) rfl hG (by first | exact Ghost.le_refl _ | assumption) (by repeat' (first | exact List.nil_sublist _ | refine List.Sublist.cons_cons _ ?_ | refine List.Sublist.cons _ ?_)) ?_; refine ⟨_, (val_loadB 0 rfl rfl (by rfl)), ?_⟩
  refine h_takeGX 8 rfl rfl (by kernel_rfl) rfl hG (by first | exact Ghost.le_refl _ | assumption) (by repeat' (first | exact List.nil_sublist _ | refine List.Sublist.cons_cons _ ?_ | refine List.Sublist.cons _ ?_)) ?_; refine ⟨_, (val_loadB 0 rfl rfl (by rfl)), ?_⟩
  refine h_one 7 (by kernel_rfl) rfl ?_
  refine r_take rfl ?_
  refine r_callP rfl rfl (Deep_spec g7 _ _ hw2 hP2) ?_
  refine r_nn ?_
  refine h_kept hG (by first | exact Ghost.le_refl _ | assumption) (by repeat' (first | exact List.nil_sublist _ | refine List.Sublist.cons_cons _ ?_ | refine List.Sublist.cons _ ?_)) ?_
  refine h_one 9 (by kernel_rfl) rfl ?_
  refine r_take rfl ?_
  refine r_callP rfl rfl (Deep7_spec g7 _ _ hw2 hP2) ?_
  refine r_nn ?_
  refine h_kept hG (by first | exact Ghost.le_refl _ | assumption) (by repeat' (first | exact List.nil_sublist _ | refine List.Sublist.cons_cons _ ?_ | refine List.Sublist.cons _ ?_)) ?_
  refine h_takeGX 10 rfl rfl (by kernel_rfl) rfl hG (by first | exact Ghost.le_refl _ | assumption) (by repeat' (first | exact List.nil_sublist _ | refine List.Sublist.cons_cons _ ?_ | refine List.Sublist.cons _ ?_)) ⟨_, (val_eql_pair rfl rfl), ?_⟩
  refine r_rw 59 rfl (v' := .bool true) (by simp) ?_
  refine h_takeX 11 rfl (by kernel_rfl) rfl hG (by first | exact Ghost.le_refl _ | assumption) (by repeat' (first | exact List.nil_sublist _ | refine List.Sublist.cons_cons _ ?_ | refine List.Sublist.cons _ ?_)) ?_; refine ⟨_, (val_ev rfl), ?_⟩; refine h_takeX 12 rfl (by kernel_rfl) rfl hG (by first | exact Ghost.le_refl _ | assumption) (by repeat' (first | exact List.nil_sublist _ | refine List.Sublist.cons_cons _ ?_ | refine List.Sublist.cons _ ?_)) ?_; refine ⟨_, (val_ev rfl), ?_⟩
  refine h_done (by kernel_rfl) ?_
  refine r_then_normal <| r_retc ?_
  refine r_shrink hE hle17 ?_
  exact r_ret1 [] rfl rfl (List.nil_sublist _) ⟨rfl, rfl, rfl⟩
 ·intro K hK
  refine r_sr <| r_ev rfl rfl ?_
  refine r_callP rfl rfl (Mod_spec g1 way 7 (by omega)) ?_
  refine r_ev rfl rfl <| r_ev rfl rfl ?_
  refine r_gdec rfl rfl (fun ha => ?_) (fun ha => ?_)
  ·refine r_tev rfl rfl rfl <| r_take rfl ?_
   refine r_callP rfl rfl (Mod_spec g1 n 20 (by omega)) ?_
   refine r_tev rfl rfl rfl <| r_ev rfl rfl <| r_ev rfl rfl ?_
   refine r_gdec rfl rfl (fun hb => ?_) (fun hb => ?_)
   ·refine r_pass rfl rfl rfl <| r_pass rfl rfl rfl <| r_pass rfl rfl rfl <| r_pass rfl rfl rfl <| r_passU rfl rfl <| r_passU rfl rfl <| r_passU rfl rfl <| r_pass rfl rfl rfl <| r_ev rfl rfl <| r_nn <| r_cond_true rfl <| r_sr <| r_ev rfl rfl <| r_nn ?_; refine r_retc <| r_then_ret ?_
    refine r_shrink hE hle1 ?_
    exact r_ret1 [] rfl rfl (List.nil_sublist _) ⟨rfl, rfl, rfl⟩
   ·refine r_tev rfl rfl rfl <| r_take rfl ?_
    refine r_callP rfl rfl (Mod_spec g1 other 7 (by omega)) ?_
    refine r_tev rfl rfl rfl <| r_tev rfl rfl rfl ?_
    refine r_gdec rfl rfl (fun hc => ?_) (fun hc => ?_)
    ·refine r_tev rfl rfl rfl <| r_take rfl ?_
     refine r_callP rfl rfl (Mod_spec g1 m 20 (by omega)) ?_
     refine r_tev rfl rfl rfl <| r_tev rfl rfl rfl <| r_ev rfl rfl <| r_nn ?_
     refine r_cond rfl (fun hd => ?_) (fun hd => ?_)
     ·refine r_sr <| r_ev rfl rfl <| r_nn <| r_retc <| r_then_ret ?_
      refine r_shrink hE hle1 ?_
      exact r_ret1 [] rfl rfl (List.nil_sublist _) ⟨rfl, rfl, rfl⟩
     ·refine r_skip <| r_then_normal ?_
      exact hK () _ ⟨fun _ => by omega, fun _ => by omega⟩ ⟨rfl, rfl, rfl, rfl, trivial⟩
    ·refine r_pass rfl rfl rfl <| r_pass rfl rfl rfl <| r_pass rfl rfl rfl <| r_tev rfl rfl rfl <| r_ev rfl rfl <| r_nn <| r_cond_false rfl <| r_skip <| r_then_normal ?_
     exact hK () _ ⟨fun _ => by omega, fun h => absurd h hc⟩ ⟨rfl, rfl, rfl, rfl, trivial⟩
  ·refine r_pass rfl rfl rfl <| r_pass rfl rfl rfl <| r_pass rfl rfl rfl <| r_ev rfl rfl <| r_ev rfl rfl <| r_tev rfl rfl rfl <| r_take rfl ?_
   refine r_callP rfl rfl (Mod_spec g1 other 7 (by omega)) ?_
   refine r_tev rfl rfl rfl <| r_tev rfl rfl rfl ?_
   refine r_gdec rfl rfl (fun hc => ?_) (fun hc => ?_)
   ·refine r_tev rfl rfl rfl <| r_take rfl ?_
    refine r_callP rfl rfl (Mod_spec g1 m 20 (by omega)) ?_
    refine r_tev rfl rfl rfl <| r_tev rfl rfl rfl <| r_ev rfl rfl <| r_nn ?_
    refine r_cond rfl (fun hd => ?_) (fun hd => ?_)
    ·refine r_sr <| r_ev rfl rfl <| r_nn <| r_retc <| r_then_ret ?_
     refine r_shrink hE hle1 ?_
     exact r_ret1 [] rfl rfl (List.nil_sublist _) ⟨rfl, rfl, rfl⟩
    ·refine r_skip <| r_then_normal ?_
     exact hK () _ ⟨fun h => absurd h ha, fun _ => by omega⟩ ⟨rfl, rfl, rfl, rfl, trivial⟩
   ·refine r_pass rfl rfl rfl <| r_pass rfl rfl rfl <| r_pass rfl rfl rfl <| r_tev rfl rfl rfl <| r_ev rfl rfl <| r_nn <| r_cond_false rfl <| r_skip <| r_then_normal ?_
    exact hK () _ ⟨fun h => absurd h ha, fun h => absurd h hc⟩ ⟨rfl, rfl, rfl, rfl, trivial⟩
end Go.Proofs.YtpjehhnaojjanaaGreatDoor
-- sum 4261d83b9bd5e513

/- The library's variable errors.errorType: from the rows' condition to what the walks need, and a world that meets it. -/
namespace Go.Proofs.YtpjehhnaojjanaaGreatDoor
open Go Go.Eng Go.Proofs Go.RowKit
theorem eT_g : Tryz.prog.globalNamed "errors.errorType" = some 0 := by kernel_rfl
theorem eT_rt : (Tryz.prog.cutTypes.find? (·.1 == "internal/reflectlite.rtype")).map (·.2) = some 253 := by kernel_rfl
theorem eT_row : ((List.range Tryz.prog.types.size).filter fun t => Tryz.prog.rowNamed t [101, 114, 114, 111, 114]) = [153] := by kernel_rfl
theorem errT_of {W : World} {L : List (String × DataW Unit)} (h : laidMetH Tryz.prog L W) (hm : ("errors.errorType", Rows.laid_errors_errorType) ∈ L) : ErrT (worldGhost W) := by
 obtain ⟨name, u, ty, e1, e2, e3, e4, e5⟩ := (laidMetH_iff.1 h).2 _ (List.mem_filter.2 ⟨hm, rfl⟩)
 have en : name = [101, 114, 114, 111, 114] := (Option.some.inj e1).symm
 subst en
 obtain rfl := Option.some.inj (eT_rt.symm.trans e2)
 have hm : ty ∈ (List.range Tryz.prog.types.size).filter fun t => Tryz.prog.rowNamed t [101, 114, 114, 111, 114] := List.mem_filter.2 ⟨List.mem_range.2 e3, e4⟩
 rw [eT_row] at hm
 obtain rfl := List.mem_singleton.1 hm
 show W.cell? _ = _
 simpa using World.var?_cell eT_g e5 0
noncomputable def laidWorldH (os : Os) : World :=
 let w0 := World.holding Tryz.prog os ⟨#[], #[], []⟩
 { w0 with heap := w0.heap.modify 0 fun
   | .cells _ t frozen => .cells #[rty 153] t frozen
   | o => o }
noncomputable def laidWorldA (os : Os) (L : List (String × DataW Unit)) : World := (laidWorldH os).layVars Tryz.prog L
theorem laidWorldA_os (os : Os) (L : List (String × DataW Unit)) : (laidWorldA os L).os = os := World.layVars_os _ _ _
theorem laidMetA {os : Os} {L : List (String × DataW Unit)} (args : Array Value) (hf : (laidWorldH os).layFits Tryz.prog L [] = true) (hi : (laidWorldH os).layIfaces Tryz.prog L (laidWorldA os L) = true) :
  laidMet Tryz.prog L ((laidWorldA os L).forCall (fun _ _ => 0) ⟨#[], args, []⟩).memory := by
 have e1 : (L.filter fun x => (L.map (·.1)).contains x.1) = L := List.filter_eq_self.2 fun x hx => List.contains_iff_mem.2 (List.mem_map.2 ⟨x, hx, rfl⟩)
 have e2 : (L.filter fun x => !(L.map (·.1)).contains x.1) = [] := List.filter_eq_nil_iff.2 fun x hx => by rw [List.contains_iff_mem.2 (List.mem_map.2 ⟨x, hx, rfl⟩)]; simp
 have h : laidMet Tryz.prog L (laidWorldA os L) := laidMet_layVars (w0 := laidWorldH os) (L.map (·.1)) [] (by rw [e1]; rfl) (by rw [e1]; exact hf) (by rw [e1]; exact hi) (by rw [e2]; exact LaidIn.none)
 exact h.of_heap (by simp [World.memory, World.forCall, Input.heap])
end Go.Proofs.YtpjehhnaojjanaaGreatDoor
-- sum 15bbee09bf3712fc


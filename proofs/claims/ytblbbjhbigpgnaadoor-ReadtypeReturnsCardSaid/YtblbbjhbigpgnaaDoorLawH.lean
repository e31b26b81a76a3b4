/- The walks of chapter 5's laws: the sanity check. -/
import Derived.Test.YtblbbjhbigpgnaaDoorLawG
namespace Go.Proofs.YtblbbjhbigpgnaaDoor
open Go Go.Eng Go.Th Go.Proofs
set_option maxRecDepth 10000
set_option maxHeartbeats 4000000
attribute [local irreducible] wpList Code.wp Run bodyPost Go.Eng.Ends Exit.then Exit.inBlock Again Wq Kq
def ex1 : Bytes := [76, 105, 115, 116, 32, 97, 32, 45, 62, 32, 73, 110, 116]
def ex2 : Bytes := [40, 32, 97, 32, 45, 62]
def exT : Ty := arrowT (conT [76, 105, 115, 116] [nameT [97]]) intT
theorem ex1_read : tread (toksOf ex1) .whole (idxOf (toksOf ex1).length 0) = .ok (exT, 4) := by kernel_rfl
theorem ex2_read : tread (toksOf ex2) .whole (idxOf (toksOf ex2).length 0) = .error 6 := by kernel_rfl
theorem ansPost_ok {t : Ty} {j : Nat} {v : Value} {g' : Ghost} (h : ansPost (.ok (t, j)) v g') : ∃ tv, v = .tuple #[tv, .int .i64 j, .agg #[.int .i64 0, .int .i64 0]] ∧ TyV g' tv t := h
theorem ansPost_err {p : Int} {v : Value} {g' : Ghost} (h : ansPost (.error p) v g') : ∃ tv, v = .tuple #[tv, .int .i64 0, .agg #[.int .i64 3, .int .i64 p]] ∧ TyV g' tv noT := h
theorem first5_spec (g : Ghost) (hg : ErrT g) : SpecN Tryd.prog 7 [] g fun v _ => v = .bool true := by
  refine spec_of_run Tryd.func7 rfl Tryd.ntmps7 rfl fun E hE => ?_
  refine r_sr ?_
  refine r_ev rfl rfl ?_; refine r_nn ?_; refine r_sr ?_
  refine r_callN rfl rfl (scan5_spec g ex1 (by decide)) ?_
  rintro w g1 hw hle1
  have hg1 := hg.mono hle1
  skip
  refine r_callN rfl rfl (rType_spec (toksOf_TB ex1) g1 hg1 w 0 hw) ?_
  rw [ex1_read]
  rintro _ g2 hans hle2
  obtain ⟨tv, rfl, hty⟩ := ansPost_ok hans
  have hg2 := hg1.mono hle2
  obtain ⟨a, m, c, rfl, ht⟩ := hty.cells5
  refine r_ev rfl rfl ?_; refine r_ev rfl rfl ?_; refine r_ev rfl rfl ?_; refine r_ev rfl rfl ?_
  refine r_alloc rfl (fun b1 => ?_)
  skip
  refine r_alloc rfl (fun b3 => ?_)
  refine r_storeA 1 rfl rfl rfl rfl (by rfl) (by repeat' (first | exact rfl | assumption | refine all_cons ?_ ?_)) rfl ?_; refine r_ev rfl rfl ?_; refine r_storeA 0 rfl rfl rfl rfl (by rfl) (by repeat' (first | exact rfl | assumption | refine all_cons ?_ ?_)) rfl ?_; refine r_nn ?_; refine r_sr ?_
  refine r_callN rfl rfl (scan5_spec g2 ex2 (by decide)) ?_
  rintro w2 g3 hw2 hle3
  have hg3 := hg2.mono hle3
  skip
  refine r_callN rfl rfl (rType_spec (toksOf_TB ex2) g3 hg3 w2 0 hw2) ?_
  rw [ex2_read]
  rintro _ g4 hans2 hle4
  obtain ⟨tv2, rfl, hty2⟩ := ansPost_err hans2
  obtain ⟨a2, m2, c2, rfl, ht2⟩ := hty2.cells5
  refine r_ev rfl rfl ?_; refine r_ev rfl rfl ?_; refine r_ev rfl rfl ?_; refine r_ev rfl rfl ?_
  refine r_alloc rfl (fun b4 => ?_)
  skip
  refine r_alloc rfl (fun b6 => ?_)
  refine r_storeA 1 rfl rfl rfl rfl (by rfl) (by repeat' (first | exact rfl | assumption | refine all_cons ?_ ?_)) rfl ?_; refine r_ev rfl rfl ?_; refine r_storeA 0 rfl rfl rfl rfl (by rfl) (by repeat' (first | exact rfl | assumption | refine all_cons ?_ ?_)) rfl ?_; refine r_nn ?_; refine r_seq ?_
  have htE := (ht.mono hle3).mono hle4
  -- STOP1
  refine h_beginE [] mixed (fun hG => ?_)
  refine h_takeX 0 rfl (by kernel_rfl) rfl hG (by first | exact Ghost.le_refl _ | assumption) (by repeat' (first | exact List.nil_sublist _ | refine List.Sublist.cons_cons _ ?_ | refine List.Sublist.cons _ ?_)) ?_; refine ⟨_, (val_fieldAddr rfl), ?_⟩; refine h_takeX 1 rfl (by kernel_rfl) rfl hG (by first | exact Ghost.le_refl _ | assumption) (by repeat' (first | exact List.nil_sublist _ | refine List.Sublist.cons_cons _ ?_ | refine List.Sublist.cons _ ?_)) ?_; refine ⟨_, (val_loadB1 2 rfl rfl rfl), ?_⟩; refine h_takeX 2 rfl (by kernel_rfl) rfl hG (by first | exact Ghost.le_refl _ | assumption) (by repeat' (first | exact List.nil_sublist _ | refine List.Sublist.cons_cons _ ?_ | refine List.Sublist.cons _ ?_)) ?_; refine ⟨_, (val_ev rfl), ?_⟩; refine h_takeX 3 rfl (by kernel_rfl) rfl hG (by first | exact Ghost.le_refl _ | assumption) (by repeat' (first | exact List.nil_sublist _ | refine List.Sublist.cons_cons _ ?_ | refine List.Sublist.cons _ ?_)) ?_; refine ⟨_, (val_ev rfl), ?_⟩; refine h_takeGX 4 rfl rfl (by kernel_rfl) rfl hG (by first | exact Ghost.le_refl _ | assumption) (by repeat' (first | exact List.nil_sublist _ | refine List.Sublist.cons_cons _ ?_ | refine List.Sublist.cons _ ?_)) ?_; refine ⟨_, (val_ev rfl), ?_⟩; refine h_takeGX 5 rfl rfl (by kernel_rfl) rfl hG (by first | exact Ghost.le_refl _ | assumption) (by repeat' (first | exact List.nil_sublist _ | refine List.Sublist.cons_cons _ ?_ | refine List.Sublist.cons _ ?_)) ?_; refine ⟨_, (val_ev rfl), ?_⟩; refine h_takeX 6 rfl (by kernel_rfl) rfl hG (by first | exact Ghost.le_refl _ | assumption) (by repeat' (first | exact List.nil_sublist _ | refine List.Sublist.cons_cons _ ?_ | refine List.Sublist.cons _ ?_)) ?_; refine ⟨_, (val_ev rfl), ?_⟩; refine h_takeX 7 rfl (by kernel_rfl) rfl hG (by first | exact Ghost.le_refl _ | assumption) (by repeat' (first | exact List.nil_sublist _ | refine List.Sublist.cons_cons _ ?_ | refine List.Sublist.cons _ ?_)) ?_; refine ⟨_, (val_ev rfl), ?_⟩; refine h_takeGX 8 rfl rfl (by kernel_rfl) rfl hG (by first | exact Ghost.le_refl _ | assumption) (by repeat' (first | exact List.nil_sublist _ | refine List.Sublist.cons_cons _ ?_ | refine List.Sublist.cons _ ?_)) ?_; refine ⟨_, (val_loadB 3 rfl rfl (by rfl)), ?_⟩
  refine h_one 9 (by kernel_rfl) rfl ?_
  refine r_take rfl ?_
  refine r_callP rfl rfl (rNamed_spec g4 [97]) ?_
  refine r_nn ?_
  refine h_kept hG (by first | exact Ghost.le_refl _ | assumption) (by repeat' (first | exact List.nil_sublist _ | refine List.Sublist.cons_cons _ ?_ | refine List.Sublist.cons _ ?_)) ?_
  refine h_one 10 (by kernel_rfl) rfl ?_
  refine r_take rfl ?_
  refine r_buildSlice rfl rfl (by rfl) (by rfl) (by rfl) (by rfl) (by rfl) (fun b29 => ?_)
  refine r_nn ?_
  refine h_kept hG (by first | exact Ghost.le_refl _ | assumption) (by repeat' (first | exact List.nil_sublist _ | refine List.Sublist.cons_cons _ ?_ | refine List.Sublist.cons _ ?_)) ?_
  refine h_one 11 (by kernel_rfl) rfl ?_
  refine r_take rfl ?_
  refine r_publishRow (fun g5 hle5 hs5 => ?_)
  refine r_callN rfl rfl (rCon_spec g5 [76, 105, 115, 116] _ [nameT [97]] _ hs5 (TysAt.snoc (c := tyCells (nameT [97]) (.slice none 0 0)) (TyAt.mk (t := nameT [97]) (slNil g5 5) (tysNil g5)) (tysNil g5)) (by simp)) ?_
  rintro w6 g6 hw6 hle6
  have hle46 := Ghost.le_trans hle5 hle6
  have hw6' := hw6
  obtain ⟨a6, m6, c6, rfl, ht6⟩ := hw6'.cells5
  refine r_nn ?_
  refine h_kept hG (by first | exact Ghost.le_refl _ | assumption) (by repeat' (first | exact List.nil_sublist _ | refine List.Sublist.cons_cons _ ?_ | refine List.Sublist.cons _ ?_)) ?_
  refine h_one 12 (by kernel_rfl) rfl ?_
  refine r_take rfl ?_
  refine r_callN rfl rfl (rInt_spec g6) ?_
  rintro w7 g7 hw7 hle7
  have hle47 := Ghost.le_trans hle46 hle7
  refine r_nn ?_
  refine h_kept hG (by first | exact Ghost.le_refl _ | assumption) (by repeat' (first | exact List.nil_sublist _ | refine List.Sublist.cons_cons _ ?_ | refine List.Sublist.cons _ ?_)) ?_
  refine h_one 13 (by kernel_rfl) rfl ?_
  refine r_take rfl ?_
  refine r_callN rfl rfl (rArrow_spec g7 (conT [76, 105, 115, 116] [nameT [97]]) intT _ _ (hw6.mono hle7) hw7) ?_
  rintro w8 g8 hw8 hle8
  have hle48 := Ghost.le_trans hle47 hle8
  refine r_nn ?_
  refine h_kept hG (by first | exact Ghost.le_refl _ | assumption) (by repeat' (first | exact List.nil_sublist _ | refine List.Sublist.cons_cons _ ?_ | refine List.Sublist.cons _ ?_)) ?_
  refine h_one 14 (by kernel_rfl) rfl ?_
  refine r_take rfl ?_
  refine r_callP rfl rfl (Equal_spec g8 exT _ _ ⟨_, rfl, htE.mono hle48⟩ hw8) ?_
  refine r_nn ?_
  refine h_kept hG (by first | exact Ghost.le_refl _ | assumption) (by repeat' (first | exact List.nil_sublist _ | refine List.Sublist.cons_cons _ ?_ | refine List.Sublist.cons _ ?_)) ?_
  -- STOP2
  refine h_takeX 15 rfl (by kernel_rfl) rfl hG (by first | exact Ghost.le_refl _ | assumption) (by repeat' (first | exact List.nil_sublist _ | refine List.Sublist.cons_cons _ ?_ | refine List.Sublist.cons _ ?_)) ?_; refine ⟨_, (val_ev rfl), ?_⟩; refine h_takeX 16 rfl (by kernel_rfl) rfl hG (by first | exact Ghost.le_refl _ | assumption) (by repeat' (first | exact List.nil_sublist _ | refine List.Sublist.cons_cons _ ?_ | refine List.Sublist.cons _ ?_)) ?_; refine ⟨_, (val_ev rfl), ?_⟩; refine h_takeGX 17 rfl rfl (by kernel_rfl) rfl hG (by first | exact Ghost.le_refl _ | assumption) (by repeat' (first | exact List.nil_sublist _ | refine List.Sublist.cons_cons _ ?_ | refine List.Sublist.cons _ ?_)) ?_; refine ⟨_, (val_fieldAddr rfl), ?_⟩; refine h_takeGX 18 rfl rfl (by kernel_rfl) rfl hG (by first | exact Ghost.le_refl _ | assumption) (by repeat' (first | exact List.nil_sublist _ | refine List.Sublist.cons_cons _ ?_ | refine List.Sublist.cons _ ?_)) ?_; refine ⟨_, (val_loadB1 0 rfl rfl rfl), ?_⟩; refine h_takeGX 19 rfl rfl (by kernel_rfl) rfl hG (by first | exact Ghost.le_refl _ | assumption) (by repeat' (first | exact List.nil_sublist _ | refine List.Sublist.cons_cons _ ?_ | refine List.Sublist.cons _ ?_)) ?_; refine ⟨_, (val_ev rfl), ?_⟩; refine h_takeX 20 rfl (by kernel_rfl) rfl hG (by first | exact Ghost.le_refl _ | assumption) (by repeat' (first | exact List.nil_sublist _ | refine List.Sublist.cons_cons _ ?_ | refine List.Sublist.cons _ ?_)) ?_; refine ⟨_, (val_ev rfl), ?_⟩; refine h_takeX 21 rfl (by kernel_rfl) rfl hG (by first | exact Ghost.le_refl _ | assumption) (by repeat' (first | exact List.nil_sublist _ | refine List.Sublist.cons_cons _ ?_ | refine List.Sublist.cons _ ?_)) ?_; refine ⟨_, (val_ev rfl), ?_⟩; refine h_takeGX 22 rfl rfl (by kernel_rfl) rfl hG (by first | exact Ghost.le_refl _ | assumption) (by repeat' (first | exact List.nil_sublist _ | refine List.Sublist.cons_cons _ ?_ | refine List.Sublist.cons _ ?_)) ?_; refine ⟨_, (val_fieldAddr rfl), ?_⟩; refine h_takeGX 23 rfl rfl (by kernel_rfl) rfl hG (by first | exact Ghost.le_refl _ | assumption) (by repeat' (first | exact List.nil_sublist _ | refine List.Sublist.cons_cons _ ?_ | refine List.Sublist.cons _ ?_)) ?_; refine ⟨_, (val_loadB1 0 rfl rfl rfl), ?_⟩; refine h_takeGX 24 rfl rfl (by kernel_rfl) rfl hG (by first | exact Ghost.le_refl _ | assumption) (by repeat' (first | exact List.nil_sublist _ | refine List.Sublist.cons_cons _ ?_ | refine List.Sublist.cons _ ?_)) ?_; refine ⟨_, (val_ev rfl), ?_⟩; refine h_takeX 25 rfl (by kernel_rfl) rfl hG (by first | exact Ghost.le_refl _ | assumption) (by repeat' (first | exact List.nil_sublist _ | refine List.Sublist.cons_cons _ ?_ | refine List.Sublist.cons _ ?_)) ?_; refine ⟨_, (val_ev rfl), ?_⟩; refine h_takeX 26 rfl (by kernel_rfl) rfl hG (by first | exact Ghost.le_refl _ | assumption) (by repeat' (first | exact List.nil_sublist _ | refine List.Sublist.cons_cons _ ?_ | refine List.Sublist.cons _ ?_)) ?_; refine ⟨_, (val_ev rfl), ?_⟩
  refine h_done (by kernel_rfl) ?_
  refine r_then_normal ?_; refine r_retc ?_
  exact r_ret1 [] rfl rfl (by simp) ⟨rfl, rfl⟩
end Go.Proofs.YtblbbjhbigpgnaaDoor
-- sum 0515b0a5da23550a

/- readtype.Atom and what the reference's Type and Atom end with. -/
import Derived.Test.YtblbbjhbigpgnaaDoorTypJ
namespace Go.Proofs.YtblbbjhbigpgnaaDoor
open Go Go.Eng Go.Th Go.Proofs
set_option maxRecDepth 10000
set_option maxHeartbeats 4000000
attribute [local irreducible] wpList Code.wp Run bodyPost Go.Eng.Ends Exit.then Exit.inBlock Again Wq Kq
theorem rAtom_spec {l : List Tok} (hb : TB l) (g : Ghost) (hg : ErrT g) (v : Value) (i : Int) (hs : ToksAt g v l) : SpecN Tryd.prog 23 [v, .int .i64 i] g (ansPost (tread l .atom (idxOf l.length i))) := by
  have hi : idxOf l.length i ≤ l.length := by unfold idxOf; split <;> omega
  refine spec_of_run Tryd.func23 rfl Tryd.ntmps23 rfl fun E hE => ?_
  refine r_sr ?_
  refine r_alloc rfl (fun b4 => ?_)
  refine r_ev rfl rfl ?_
  refine r_alloc rfl (fun b6 => ?_)
  refine r_nn ?_; refine r_sr ?_; refine r_ev rfl rfl ?_; refine r_ev rfl rfl ?_; refine r_ev rfl rfl ?_
  refine r_callP rfl rfl (index_spec g v l hs i) ?_
  skip
  refine r_callN rfl rfl (atom_spec hb g v _ hs hi) ?_
  rintro w g1 hw hle
  have hg1 := hg.mono hle
  cases hq : tread l .atom (idxOf l.length i) with
  | error p =>
    rw [hq] at hw
    obtain ⟨tv, j, t, rfl, hty, hj⟩ := hw
    unfold failV
    refine r_ev rfl rfl ?_; refine r_ev rfl rfl ?_; refine r_ev rfl rfl ?_
    refine r_callN rfl rfl (result_err g1 hg1 tv t j p hty) ?_
    rintro w g2 ⟨rfl, rfl⟩ _
    refine r_ev rfl rfl ?_; refine r_ev rfl rfl ?_; refine r_ev rfl rfl ?_; refine r_storeA 1 rfl rfl rfl rfl (by rfl) (by repeat' (first | exact rfl | assumption | refine all_cons ?_ ?_)) rfl ?_; refine r_ev rfl rfl ?_; refine r_storeA 0 rfl rfl rfl rfl (by rfl) (by repeat' (first | exact rfl | assumption | refine all_cons ?_ ?_)) rfl ?_; refine r_nn ?_; refine r_retc ?_
    exact r_ret3 [] rfl (res_blk 1 rfl rfl (by rfl)) (.tmp rfl) (res_blk 0 rfl rfl (by rfl)) (by simp) ⟨⟨_, rfl, noT_V _⟩, rfl⟩
  | ok q =>
    obtain ⟨t, j⟩ := q
    rw [hq] at hw
    obtain ⟨tv, rfl, hty, hj1, hj2⟩ := hw
    refine r_ev rfl rfl ?_; refine r_ev rfl rfl ?_; refine r_ev rfl rfl ?_
    refine r_callN rfl rfl (result_ok g1 tv t j hty) ?_
    rintro w g2 ⟨rfl, rfl⟩ _
    obtain ⟨a, m', c, rfl, ht⟩ := hty.cells5
    refine r_ev rfl rfl ?_; refine r_ev rfl rfl ?_; refine r_ev rfl rfl ?_; refine r_storeA 1 rfl rfl rfl rfl (by rfl) (by repeat' (first | exact rfl | assumption | refine all_cons ?_ ?_)) rfl ?_; refine r_ev rfl rfl ?_; refine r_storeA 0 rfl rfl rfl rfl (by rfl) (by repeat' (first | exact rfl | assumption | refine all_cons ?_ ?_)) rfl ?_; refine r_nn ?_; refine r_retc ?_
    exact r_ret3 [] rfl (res_blk 1 rfl rfl (by rfl)) (.tmp rfl) (res_blk 0 rfl rfl (by rfl)) (by simp) ⟨⟨_, rfl, ⟨_, rfl, ht⟩⟩, rfl⟩
theorem done_good (g : Ghost) (lv : Value) (b i : Nat) (tv : Value) (t : Ty) (ht : TyV g tv t) : PureO Tryd.prog 41 [ptr b 0, tv] g (rdB b lv (.good i)) (.tuple #[tv, .int .i64 i, .agg #[.int .i64 0, .int .i64 0]]) := by
  obtain ⟨a, m', c, rfl, ht⟩ := ht.cells5
  refine spec_of_run Tryd.func41 rfl Tryd.ntmps41 rfl fun E hE => ?_
  refine r_sr ?_
  refine r_box rfl rfl rfl (fun b3 => ?_)
  refine r_alloc rfl (fun b4 => ?_)
  refine r_ev rfl rfl ?_
  refine r_alloc rfl (fun b6 => ?_)
  refine r_nn ?_; refine r_seq ?_; refine r_sr ?_; refine r_ev rfl rfl ?_; refine r_ev rfl rfl ?_; refine r_fieldAddr rfl rfl ?_; refine r_loadB1 3 rfl rfl rfl rfl ?_; refine r_nn ?_; refine r_cond_false rfl ?_; refine r_skip ?_; refine r_then_normal ?_; refine r_seq ?_
  refine h_beginE [1, 0] mixed (fun hG => ?_)
  refine h_takeX 0 rfl (by kernel_rfl) rfl hG (by first | exact Ghost.le_refl _ | assumption) (by repeat' (first | exact List.nil_sublist _ | refine List.Sublist.cons_cons _ ?_ | refine List.Sublist.cons _ ?_)) ?_; refine ⟨_, (val_loadB 0 rfl rfl (by rfl)), ?_⟩; refine h_takeX 1 rfl (by kernel_rfl) rfl hG (by first | exact Ghost.le_refl _ | assumption) (by repeat' (first | exact List.nil_sublist _ | refine List.Sublist.cons_cons _ ?_ | refine List.Sublist.cons _ ?_)) ?_; refine ⟨_, (val_ev rfl), ?_⟩; refine h_takeX 2 rfl (by kernel_rfl) rfl hG (by first | exact Ghost.le_refl _ | assumption) (by repeat' (first | exact List.nil_sublist _ | refine List.Sublist.cons_cons _ ?_ | refine List.Sublist.cons _ ?_)) ?_; refine ⟨_, (val_ev rfl), ?_⟩; refine h_takeX 3 rfl (by kernel_rfl) rfl hG (by first | exact Ghost.le_refl _ | assumption) (by repeat' (first | exact List.nil_sublist _ | refine List.Sublist.cons_cons _ ?_ | refine List.Sublist.cons _ ?_)) ?_; refine ⟨_, (val_fieldAddr rfl), ?_⟩; refine h_takeX 4 rfl (by kernel_rfl) rfl hG (by first | exact Ghost.le_refl _ | assumption) (by repeat' (first | exact List.nil_sublist _ | refine List.Sublist.cons_cons _ ?_ | refine List.Sublist.cons _ ?_)) ?_; refine ⟨_, (val_loadB1 1 rfl rfl rfl), ?_⟩; refine h_takeX 5 rfl (by kernel_rfl) rfl hG (by first | exact Ghost.le_refl _ | assumption) (by repeat' (first | exact List.nil_sublist _ | refine List.Sublist.cons_cons _ ?_ | refine List.Sublist.cons _ ?_)) ?_; refine ⟨_, (val_build rfl (by rfl)), ?_⟩
  refine h_one 6 (by kernel_rfl) rfl ?_
  refine r_storeA 1 rfl rfl rfl rfl (by rfl) (by repeat' (first | exact rfl | assumption | refine all_cons ?_ ?_)) rfl ?_; refine r_nn ?_
  refine h_kept hG (by first | exact Ghost.le_refl _ | assumption) (by repeat' (first | exact List.nil_sublist _ | refine List.Sublist.cons_cons _ ?_ | refine List.Sublist.cons _ ?_)) ?_
  refine h_one 7 (by kernel_rfl) rfl ?_
  refine r_ev rfl rfl ?_; refine r_nn ?_
  refine h_kept hG (by first | exact Ghost.le_refl _ | assumption) (by repeat' (first | exact List.nil_sublist _ | refine List.Sublist.cons_cons _ ?_ | refine List.Sublist.cons _ ?_)) ?_
  refine h_one 8 (by kernel_rfl) rfl ?_
  refine r_storeA 0 rfl rfl rfl rfl (by rfl) (by repeat' (first | exact rfl | assumption | refine all_cons ?_ ?_)) rfl ?_; refine r_nn ?_
  refine h_kept hG (by first | exact Ghost.le_refl _ | assumption) (by repeat' (first | exact List.nil_sublist _ | refine List.Sublist.cons_cons _ ?_ | refine List.Sublist.cons _ ?_)) ?_
  refine h_done (by kernel_rfl) ?_
  refine r_then_normal ?_; refine r_retc ?_
  exact r_ret3 [_] rfl (res_blk 1 rfl rfl (by rfl)) (.tmp rfl) (res_blk 0 rfl rfl (by rfl)) (.cons _ (.cons _ (.cons _ (List.Sublist.refl _)))) ⟨rfl, rfl, rfl⟩
theorem done_bad (g : Ghost) (lv : Value) (b i : Nat) (p : Int) (tv : Value) (t : Ty) (ht : TyV g tv t) : PureO Tryd.prog 41 [ptr b 0, tv] g (rdB b lv (.bad i p)) (.tuple #[.agg #[.int .i64 0, str [], .int .i64 0, .int .i64 0, .slice none 0 0], .int .i64 0, .agg #[.int .i64 3, .int .i64 p]]) := by
  obtain ⟨a, m', c, rfl, ht⟩ := ht.cells5
  refine spec_of_run Tryd.func41 rfl Tryd.ntmps41 rfl fun E hE => ?_
  refine r_sr ?_
  refine r_box rfl rfl rfl (fun b3 => ?_)
  refine r_alloc rfl (fun b4 => ?_)
  refine r_ev rfl rfl ?_
  refine r_alloc rfl (fun b6 => ?_)
  refine r_nn ?_; refine r_seq ?_; refine r_sr ?_; refine r_ev rfl rfl ?_; refine r_ev rfl rfl ?_; refine r_fieldAddr rfl rfl ?_; refine r_loadB1 3 rfl rfl rfl rfl ?_; refine r_nn ?_; refine r_cond_true rfl ?_; refine r_seq ?_
  refine h_beginE [1, 0] mixed (fun hG => ?_)
  refine h_takeX 0 rfl (by kernel_rfl) rfl hG (by first | exact Ghost.le_refl _ | assumption) (by repeat' (first | exact List.nil_sublist _ | refine List.Sublist.cons_cons _ ?_ | refine List.Sublist.cons _ ?_)) ?_; refine ⟨_, (val_build rfl (by rfl)), ?_⟩; refine h_takeX 1 rfl (by kernel_rfl) rfl hG (by first | exact Ghost.le_refl _ | assumption) (by repeat' (first | exact List.nil_sublist _ | refine List.Sublist.cons_cons _ ?_ | refine List.Sublist.cons _ ?_)) ?_; refine ⟨_, (val_ev rfl), ?_⟩; refine h_takeX 2 rfl (by kernel_rfl) rfl hG (by first | exact Ghost.le_refl _ | assumption) (by repeat' (first | exact List.nil_sublist _ | refine List.Sublist.cons_cons _ ?_ | refine List.Sublist.cons _ ?_)) ?_; refine ⟨_, (val_ev rfl), ?_⟩; refine h_takeX 3 rfl (by kernel_rfl) rfl hG (by first | exact Ghost.le_refl _ | assumption) (by repeat' (first | exact List.nil_sublist _ | refine List.Sublist.cons_cons _ ?_ | refine List.Sublist.cons _ ?_)) ?_; refine ⟨_, (val_fieldAddr rfl), ?_⟩; refine h_takeX 4 rfl (by kernel_rfl) rfl hG (by first | exact Ghost.le_refl _ | assumption) (by repeat' (first | exact List.nil_sublist _ | refine List.Sublist.cons_cons _ ?_ | refine List.Sublist.cons _ ?_)) ?_; refine ⟨_, (val_loadB1 1 rfl rfl rfl), ?_⟩; refine h_takeX 5 rfl (by kernel_rfl) rfl hG (by first | exact Ghost.le_refl _ | assumption) (by repeat' (first | exact List.nil_sublist _ | refine List.Sublist.cons_cons _ ?_ | refine List.Sublist.cons _ ?_)) ?_; refine ⟨_, (val_build rfl (by rfl)), ?_⟩
  refine h_one 6 (by kernel_rfl) rfl ?_
  refine r_storeA 1 rfl rfl rfl rfl (by rfl) (by repeat' (first | exact rfl | assumption | refine all_cons ?_ ?_)) rfl ?_; refine r_nn ?_
  refine h_kept hG (by first | exact Ghost.le_refl _ | assumption) (by repeat' (first | exact List.nil_sublist _ | refine List.Sublist.cons_cons _ ?_ | refine List.Sublist.cons _ ?_)) ?_
  refine h_one 7 (by kernel_rfl) rfl ?_
  refine r_ev rfl rfl ?_; refine r_nn ?_
  refine h_kept hG (by first | exact Ghost.le_refl _ | assumption) (by repeat' (first | exact List.nil_sublist _ | refine List.Sublist.cons_cons _ ?_ | refine List.Sublist.cons _ ?_)) ?_
  refine h_one 8 (by kernel_rfl) rfl ?_
  refine r_storeA 0 rfl rfl rfl rfl (by rfl) (by repeat' (first | exact rfl | assumption | refine all_cons ?_ ?_)) rfl ?_; refine r_nn ?_
  refine h_kept hG (by first | exact Ghost.le_refl _ | assumption) (by repeat' (first | exact List.nil_sublist _ | refine List.Sublist.cons_cons _ ?_ | refine List.Sublist.cons _ ?_)) ?_
  refine h_done (by kernel_rfl) ?_
  refine r_then_normal ?_; refine r_retc ?_; refine r_then_ret ?_
  exact r_ret3 [_] rfl (res_blk 1 rfl rfl (by rfl)) (.tmp rfl) (res_blk 0 rfl rfl (by rfl)) (.cons _ (.cons _ (.cons _ (List.Sublist.refl _)))) ⟨rfl, rfl, rfl⟩
end Go.Proofs.YtblbbjhbigpgnaaDoor
-- sum 6e56d7bfcf26bccd

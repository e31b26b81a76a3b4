/- readtype.Type, Atom and the reference's: both answer what the plain grammar reads. -/
import Derived.Test.YtblbbjhbigpgnaaDoorAsB
import Derived.Test.YtblbbjhbigpgnaaDoorTypI
namespace Go.Proofs.YtblbbjhbigpgnaaDoor
open Go Go.Eng Go.Th Go.Proofs
set_option maxRecDepth 10000
set_option maxHeartbeats 4000000
attribute [local irreducible] wpList Code.wp Run bodyPost Go.Eng.Ends Exit.then Exit.inBlock Again Wq Kq
def ansT : TR → Ty
  | .ok (t, _) => t
  | .error _ => noT
def ansI : TR → Int
  | .ok (_, j) => j
  | .error _ => 0
def ansE : TR → Int
  | .ok _ => 0
  | .error _ => 3
def ansP : TR → Int
  | .ok _ => 0
  | .error p => p
/-- What the exported functions hand back. -/
def ansPost (r : TR) (v : Value) (g' : Ghost) : Prop := ∃ tv, v = .tuple #[tv, .int .i64 (ansI r), .agg #[.int .i64 (ansE r), .int .i64 (ansP r)]] ∧ TyV g' tv (ansT r)
theorem result_ok (g : Ghost) (tv : Value) (t : Ty) (j : Int) (ht : TyV g tv t) : SpecN Tryd.prog 35 [tv, .int .i64 j, .nilIface] g fun v g' => v = .tuple #[tv, .int .i64 j, .agg #[.int .i64 0, .int .i64 0]] ∧ g' = g := by
  obtain ⟨a, m', c, rfl, ht⟩ := ht.cells5
  refine spec_of_run Tryd.func35 rfl Tryd.ntmps35 rfl fun E hE => ?_
  refine r_sr ?_
  refine r_box rfl rfl rfl (fun b3 => ?_)
  refine r_alloc rfl (fun b6 => ?_)
  refine r_ev rfl rfl ?_
  refine r_alloc rfl (fun b8 => ?_)
  refine r_nn ?_; refine r_sr ?_
  refine r_alloc rfl (fun b9 => ?_)
  refine r_nn ?_; refine r_seq ?_; refine r_sr ?_; refine r_ev rfl rfl ?_; refine r_mkIface rfl rfl ?_
  refine r_callP rfl rfl (eAs_nil g _) ?_
  refine r_nn ?_; refine r_cond_false rfl ?_; refine r_skip ?_; refine r_then_normal ?_; refine r_sr ?_; refine r_loadB 3 rfl rfl rfl (by rfl) ?_; refine r_ev rfl rfl ?_; refine r_build rfl rfl (by rfl) ?_; refine r_storeA 2 rfl rfl rfl rfl (by rfl) (by repeat' (first | exact rfl | assumption | refine all_cons ?_ ?_)) rfl ?_; refine r_ev rfl rfl ?_; refine r_storeA 1 rfl rfl rfl rfl (by rfl) (by repeat' (first | exact rfl | assumption | refine all_cons ?_ ?_)) rfl ?_; refine r_nn ?_; refine r_retc ?_
  exact r_ret3 [] rfl (res_blk 2 rfl rfl (by rfl)) (.tmp rfl) (res_blk 1 rfl rfl (by rfl)) (by simp) ⟨⟨rfl, rfl⟩, rfl⟩
theorem result_err (g : Ghost) (hg : ErrT g) (tv : Value) (t : Ty) (j p : Int) (ht : TyV g tv t) : SpecN Tryd.prog 35 [tv, .int .i64 j, failV p] g fun v g' => v = .tuple #[.agg #[.int .i64 0, str [], .int .i64 0, .int .i64 0, .slice none 0 0], .int .i64 0, .agg #[.int .i64 3, .int .i64 p]] ∧ g' = g := by
  obtain ⟨a, m', c, rfl, ht⟩ := ht.cells5
  refine spec_of_run Tryd.func35 rfl Tryd.ntmps35 rfl fun E hE => ?_
  refine r_sr ?_
  refine r_box rfl rfl rfl (fun b3 => ?_)
  refine r_alloc rfl (fun b6 => ?_)
  refine r_ev rfl rfl ?_
  refine r_alloc rfl (fun b8 => ?_)
  refine r_nn ?_; refine r_sr ?_
  refine r_alloc rfl (fun b9 => ?_)
  refine r_nn ?_; refine r_seq ?_; refine r_sr ?_; refine r_ev rfl rfl ?_; refine r_mkIface rfl rfl ?_
  refine r_callL 0 rfl rfl rfl (eAs_spec g hg p 0 b9) ?_
  rintro v g' r' ⟨rfl, rfl, rfl⟩ _
  refine r_nn ?_; refine r_cond_true rfl ?_; refine r_seq ?_
  -- STOP1
  refine h_beginE [2, 1] mixed (fun hG => ?_)
  refine h_takeX 0 rfl (by kernel_rfl) rfl hG (by first | exact Ghost.le_refl _ | assumption) (by repeat' (first | exact List.nil_sublist _ | refine List.Sublist.cons_cons _ ?_ | refine List.Sublist.cons _ ?_)) ?_; refine ⟨_, (val_build rfl (by rfl)), ?_⟩; refine h_takeX 1 rfl (by kernel_rfl) rfl hG (by first | exact Ghost.le_refl _ | assumption) (by repeat' (first | exact List.nil_sublist _ | refine List.Sublist.cons_cons _ ?_ | refine List.Sublist.cons _ ?_)) ?_; refine ⟨_, (val_loadB1 0 rfl rfl rfl), ?_⟩; refine h_takeX 2 rfl (by kernel_rfl) rfl hG (by first | exact Ghost.le_refl _ | assumption) (by repeat' (first | exact List.nil_sublist _ | refine List.Sublist.cons_cons _ ?_ | refine List.Sublist.cons _ ?_)) ?_; refine ⟨_, (val_build rfl (by rfl)), ?_⟩
  refine h_one 3 (by kernel_rfl) rfl ?_
  refine r_storeA 2 rfl rfl rfl rfl (by rfl) (by repeat' (first | exact rfl | assumption | refine all_cons ?_ ?_)) rfl ?_; refine r_nn ?_
  refine h_kept hG (by first | exact Ghost.le_refl _ | assumption) (by repeat' (first | exact List.nil_sublist _ | refine List.Sublist.cons_cons _ ?_ | refine List.Sublist.cons _ ?_)) ?_
  refine h_one 4 (by kernel_rfl) rfl ?_
  refine r_ev rfl rfl ?_; refine r_nn ?_
  refine h_kept hG (by first | exact Ghost.le_refl _ | assumption) (by repeat' (first | exact List.nil_sublist _ | refine List.Sublist.cons_cons _ ?_ | refine List.Sublist.cons _ ?_)) ?_
  refine h_one 5 (by kernel_rfl) rfl ?_
  refine r_storeA 1 rfl rfl rfl rfl (by rfl) (by repeat' (first | exact rfl | assumption | refine all_cons ?_ ?_)) rfl ?_; refine r_nn ?_
  refine h_kept hG (by first | exact Ghost.le_refl _ | assumption) (by repeat' (first | exact List.nil_sublist _ | refine List.Sublist.cons_cons _ ?_ | refine List.Sublist.cons _ ?_)) ?_
  refine h_done (by kernel_rfl) ?_
  refine r_then_normal ?_; refine r_retc ?_; refine r_then_ret ?_
  exact r_ret3 [] rfl (res_blk 2 rfl rfl (by rfl)) (.tmp rfl) (res_blk 1 rfl rfl (by rfl)) (by simp) ⟨⟨rfl, rfl⟩, rfl⟩
theorem rType_spec {l : List Tok} (hb : TB l) (g : Ghost) (hg : ErrT g) (v : Value) (i : Int) (hs : ToksAt g v l) : SpecN Tryd.prog 14 [v, .int .i64 i] g (ansPost (tread l .whole (idxOf l.length i))) := by
  have hi : idxOf l.length i ≤ l.length := by unfold idxOf; split <;> omega
  refine spec_of_run Tryd.func14 rfl Tryd.ntmps14 rfl fun E hE => ?_
  refine r_sr ?_
  refine r_alloc rfl (fun b4 => ?_)
  refine r_ev rfl rfl ?_
  refine r_alloc rfl (fun b6 => ?_)
  refine r_nn ?_; refine r_sr ?_; refine r_ev rfl rfl ?_; refine r_ev rfl rfl ?_; refine r_ev rfl rfl ?_
  refine r_callP rfl rfl (index_spec g v l hs i) ?_
  skip
  refine r_callN rfl rfl (whole_spec hb g v _ hs hi) ?_
  rintro w g1 hw hle
  have hg1 := hg.mono hle
  cases hq : tread l .whole (idxOf l.length i) with
  | error p =>
    rw [hq] at hw
    obtain ⟨tv, j, t, rfl, hty, hj⟩ := hw
    unfold failV
    refine r_ev rfl rfl ?_; refine r_ev rfl rfl ?_; refine r_ev rfl rfl ?_
    refine r_callN rfl rfl (result_err g1 hg1 tv t j p hty) ?_
    rintro w g2 ⟨rfl, rfl⟩ _
    refine r_ev rfl rfl ?_; refine r_ev rfl rfl ?_; refine r_ev rfl rfl ?_; refine r_storeA 1 rfl rfl rfl rfl (by rfl) (by repeat' (first | exact rfl | assumption | refine all_cons ?_ ?_)) rfl ?_; refine r_ev rfl rfl ?_; refine r_storeA 0 rfl rfl rfl rfl (by rfl) (by repeat' (first | exact rfl | assumption | refine all_cons ?_ ?_)) rfl ?_; refine r_nn ?_; refine r_retc ?_
    exact r_ret3 [] rfl (res_blk 1 rfl rfl (by rfl)) (.tmp rfl) (res_blk 0 rfl rfl (by rfl)) (by simp) ⟨⟨_, rfl, noT_V _⟩, rfl⟩
  | ok q =>
    obtain ⟨t, j⟩ := q
    rw [hq] at hw
    obtain ⟨tv, rfl, hty, hj1, hj2⟩ := hw
    refine r_ev rfl rfl ?_; refine r_ev rfl rfl ?_; refine r_ev rfl rfl ?_
    refine r_callN rfl rfl (result_ok g1 tv t j hty) ?_
    rintro w g2 ⟨rfl, rfl⟩ _
    obtain ⟨a, m', c, rfl, ht⟩ := hty.cells5
    refine r_ev rfl rfl ?_; refine r_ev rfl rfl ?_; refine r_ev rfl rfl ?_; refine r_storeA 1 rfl rfl rfl rfl (by rfl) (by repeat' (first | exact rfl | assumption | refine all_cons ?_ ?_)) rfl ?_; refine r_ev rfl rfl ?_; refine r_storeA 0 rfl rfl rfl rfl (by rfl) (by repeat' (first | exact rfl | assumption | refine all_cons ?_ ?_)) rfl ?_; refine r_nn ?_; refine r_retc ?_
    exact r_ret3 [] rfl (res_blk 1 rfl rfl (by rfl)) (.tmp rfl) (res_blk 0 rfl rfl (by rfl)) (by simp) ⟨⟨_, rfl, ⟨_, rfl, ht⟩⟩, rfl⟩
end Go.Proofs.YtblbbjhbigpgnaaDoor
-- sum 1fb859c8bca01423

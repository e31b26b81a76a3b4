/- The walk of TokenLong. -/
import Derived.Test.YtjiommnmkokldaaDoorLawC
import Derived.Test.YtjiommnmkokldaaDoorOpsD
namespace Go.Proofs.YtjiommnmkokldaaDoor
open Go Go.Eng Go.Th Go.Proofs
set_option maxRecDepth 10000
attribute [local irreducible] wpList Code.wp Run bodyPost Go.Eng.Ends Exit.then Exit.inBlock Again Wq Kq
def longList (n k : Nat) : List UInt8 := List.replicate k 32 ++ List.replicate (n - k) 0
theorem longList_len {n k : Nat} (h : k ≤ n) : (longList n k).length = n := by simp [longList]; omega
theorem longList_set {n k : Nat} (h : k < n) : (longList n k).set k 32 = longList n (k + 1) := by
  unfold longList
  rw [List.set_append_right _ _ (by simp)]
  obtain ⟨m, hm⟩ : ∃ m, n - k = m + 1 := ⟨n - k - 1, by omega⟩
  rw [hm, show n - (k + 1) = m by omega]
  simp [List.replicate_succ]
  rw [show List.replicate k (32 : UInt8) ++ 32 :: List.replicate m 0 = (List.replicate k 32 ++ [32]) ++ List.replicate m 0 by simp, ← List.replicate_succ']
  rfl
theorem bytesV_set (l : List UInt8) (j : Nat) (c : UInt8) : (bytesV l).set j (.int .u8 c.toNat) = bytesV (l.set j c) := by
  simp [bytesV, List.map_set, byteV]
theorem bytesV_len (l : List UInt8) : (bytesV l).length = l.length := by simp [bytesV]
theorem errOf_long (s : Bytes) : (errOf s = 1) ↔ 4000 < s.length := by
  unfold errOf scan
  by_cases h : 4000 < s.length
  · simp [h]
  · simp [h]
    cases scanGo s.length 0 s <;> simp
theorem TokenLong_spec (g : Ghost) (a : Int) (_ha : -9223372036854775808 ≤ a ∧ a ≤ 9223372036854775807) (c : UInt8) : Pure Tryd.prog 8 [.int .i64 a, .int .u8 c.toNat] g (.bool true) := by
  refine spec_of_run Tryd.func8 rfl Tryd.ntmps8 rfl fun E hE => ?_
  refine r_sr ?_; refine r_ev rfl rfl ?_; refine r_nn ?_; refine r_seq ?_; refine r_sr ?_
  refine r_callP rfl rfl (tfirst_spec g) ?_
  refine r_ev rfl rfl ?_; refine r_nn ?_; refine r_cond_false rfl ?_; refine r_skip ?_; refine r_then_normal ?_; refine r_sr ?_; refine r_ev rfl rfl ?_
  refine r_callP rfl rfl (Mod_spec g a 3 (by omega)) ?_
  obtain ⟨q, hq, hq3⟩ : ∃ q : Nat, modI a 3 = q ∧ q < 3 := by
    refine ⟨(modI a 3).toNat, ?_, ?_⟩ <;> (unfold modI; rw [if_neg (by omega)]; omega)
  rw [hq]
  refine r_ev rfl rfl ?_; refine r_nn ?_; refine r_sr ?_; refine r_ev rfl rfl ?_
  refine r_add rfl rfl rfl (by omega) ?_
  refine r_makeSlice (len := 3999 + q) rfl (by rw [show ((3999 + q : Nat) : Int) = 3999 + (q : Int) by omega]; rfl) (by rw [show ((3999 + q : Nat) : Int) = 3999 + (q : Int) by omega]; rfl) (by rfl) rfl (by omega) (by omega) (fun bt => ?_)
  rw [repN_byte]
  refine r_ev rfl rfl ?_; refine r_nn ?_; refine r_seq ?_; refine r_sr ?_; refine r_ev rfl rfl ?_; refine r_nn ?_; refine r_block ?_
  refine r_loop (ι := Nat) (fun k => [(1, .int .u8 c.toNat), (5, .int .i64 q), (6, .slice (some ⟨bt, 0, none⟩) (3999 + q) (3999 + q)), (7, .int .i64 k)]) (fun _ => g) (fun k => [.blk bt 5 (bytesV (longList (3999 + q) k))]) (fun k => k ≤ 3999 + q) (fun k => 3999 + q - k) 0 (by omega) ⟨rfl, rfl, rfl, rfl, trivial⟩ rfl rfl ?_
  intro k hk
  refine r_seq ?_; refine r_sr ?_; refine r_ev rfl rfl ?_; refine r_ev rfl rfl ?_; refine r_len_sl rfl rfl ?_; refine r_ev rfl rfl ?_; refine r_nn ?_
  refine r_cond rfl (fun hlt => ?_) (fun hlt => ?_)
  · have hlt' : k < 3999 + q := by omega
    refine r_skip ?_; refine r_then_normal ?_; refine r_seq ?_; refine r_block ?_; refine r_region ?_; refine r_ev rfl rfl ?_; refine r_ev rfl rfl ?_
    refine r_indexAddr (j := k) rfl rfl rfl rfl hlt' ?_
    refine r_store1 0 rfl rfl rfl rfl rfl (splice_set _ _ _ (by rw [bytesV_len, longList_len hk]; omega)) ?_
    refine r_nil ?_; refine r_in_normal ?_; refine r_then_normal ?_; refine r_region ?_; refine r_ev rfl rfl ?_
    refine r_add rfl rfl rfl (by omega) ?_
    refine r_ev rfl rfl ?_; refine r_nn ?_
    refine r_again (k + 1) (by omega) (by omega) ⟨rfl, rfl, rfl, rfl, trivial⟩ rfl ?_
    rw [← longList_set hlt', ← bytesV_set]
    simp
  · have hkn : k = 3999 + q := by omega
    subst hkn
    obtain ⟨l, hl, hll⟩ : ∃ l : Bytes, l = (longList (3999 + q) (3999 + q)).set (3998 + q) c ∧ l.length = 3999 + q := ⟨_, rfl, by rw [List.length_set, longList_len (Nat.le_refl _)]⟩
    refine r_exit ?_; refine r_then_exit ?_; refine r_then_exit ?_; refine r_in_exit ?_; refine r_then_normal ?_; refine r_seq ?_; refine r_sr ?_; refine r_ev rfl rfl ?_; refine r_len_sl rfl rfl ?_; refine r_ev rfl rfl ?_; refine r_nn ?_
    refine r_cond rfl (fun h => ?_) (fun h => absurd (by omega) h)
    refine r_region ?_; refine r_ev rfl rfl ?_; refine r_ev rfl rfl ?_; refine r_len_sl rfl rfl ?_
    refine r_sub_ rfl rfl rfl (by omega) ?_
    refine r_ev rfl rfl ?_
    refine r_indexAddr (j := 3998 + q) rfl rfl rfl (by omega) (by omega) ?_
    refine r_store1 0 rfl rfl rfl rfl rfl (splice_set _ _ _ (by rw [bytesV_len, longList_len (Nat.le_refl _)]; omega)) ?_
    rw [show 0 + (3998 + q) * 1 = 3998 + q by omega, bytesV_set, ← hl]
    refine r_nn ?_; refine r_sr ?_; refine r_ev rfl rfl ?_
    refine r_convBS 0 rfl rfl rfl hll ?_
    refine r_scan rfl rfl (tScan_spec g l (by omega)) (fun g1 sv1 hg1 h1 => ?_)
    refine r_ev rfl rfl ?_; refine r_ev rfl rfl ?_; refine r_ev rfl rfl ?_; refine r_alloc rfl (fun b => ?_); refine r_ev rfl rfl ?_; refine r_storeA 0 rfl rfl rfl rfl (by rfl) rfl rfl ?_; refine r_nn ?_; refine r_sr ?_; refine r_ev rfl rfl ?_
    refine r_convBS 1 rfl rfl rfl hll ?_
    refine r_scan rfl rfl (refScan_spec g1 l (by omega)) (fun g2 sv2 hg2 h2 => ?_)
    refine r_ev rfl rfl ?_; refine r_ev rfl rfl ?_; refine r_ev rfl rfl ?_; refine r_alloc rfl (fun b => ?_); refine r_ev rfl rfl ?_; refine r_storeA 0 rfl rfl rfl rfl (by rfl) rfl rfl ?_; refine r_nn ?_; refine r_sr ?_; refine r_loadB 1 rfl rfl rfl (by rfl) ?_; refine r_loadB 0 rfl rfl rfl (by rfl) ?_
    refine r_v rfl (val_eql_pair rfl rfl) ?_
    refine r_ev rfl rfl ?_
    refine r_gdec rfl rfl (fun h => ?_) (fun h => absurd (by simp) h)
    refine r_tev rfl rfl rfl ?_; refine r_tev rfl rfl rfl ?_; refine r_take rfl ?_
    refine r_callP rfl rfl (same_tt (same_refl _ true) (h1.mono hg2) h2) ?_
    refine r_ev rfl rfl ?_; refine r_ev rfl rfl ?_; refine r_take rfl ?_; refine r_fieldAddr rfl rfl ?_; refine r_take rfl ?_; refine r_loadB1 1 rfl rfl rfl rfl ?_; refine r_tev rfl rfl rfl ?_; refine r_tev rfl rfl rfl ?_; refine r_tev rfl rfl rfl ?_; refine r_take rfl ?_
    refine r_v rfl (val_eql_bool rfl rfl (by kernel_rfl)) ?_
    refine r_ev rfl rfl ?_; refine r_ev rfl rfl ?_; refine r_nn ?_; refine r_retc ?_
    refine r_shrink hE (Ghost.le_trans hg1 hg2) ?_
    have he := errOf_long l
    exact r_ret1 [] rfl rfl (by simp) ⟨by
      by_cases hq2 : q = 2
      · have := he.2 (by omega)
        simp [this, hq2]
      · have : ¬ errOf l = 1 := fun h => by have := he.1 h; omega
        have hq' : ¬ ((q : Int) = 2) := by omega
        simp [this, hq'], rfl, rfl⟩
end Go.Proofs.YtjiommnmkokldaaDoor

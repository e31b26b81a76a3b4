/- Small words, and the walk of Mod. -/
import Derived.Test.YtblbbjhbigpgnaaDoorTy
namespace Go.Proofs.YtblbbjhbigpgnaaDoor
open Go Go.Eng Go.Proofs
set_option maxRecDepth 10000
set_option maxHeartbeats 4000000
attribute [local irreducible] wpList Code.wp Run bodyPost Go.Eng.Ends Exit.then Exit.inBlock Again Wq Kq
theorem vb {a b : Bool} (h : a = true ↔ b = true) : Value.bool a = .bool b := by rw [Bool.eq_iff_iff.2 h]
theorem vi {k : IntKind} {a b : Int} (h : a = b) : Value.int k a = .int k b := by rw [h]
/-- n modulo m, as the program reckons it. -/
def modI (n m : Int) : Int := if m < 1 then 0 else n % m
theorem tmod_mod (a m : Int) (h : 1 ≤ m) : (if a.tmod m < 0 then a.tmod m + m else a.tmod m) = a % m := by
  rw [Int.tmod_eq_emod]
  have h1 := Int.emod_nonneg a (by omega : m ≠ 0)
  have h2 := Int.emod_lt_of_pos a (by omega : 0 < m)
  by_cases hd : 0 ≤ a ∨ m ∣ a
  · rw [if_pos hd]; simp; omega
  · rw [if_neg hd]
    have : (m.natAbs : Int) = m := by omega
    rw [this]
    have h3 : a % m ≠ 0 := fun h0 => hd (.inr (Int.dvd_of_emod_eq_zero h0))
    rw [if_pos (by omega)]; omega
theorem Mod_spec (g : Ghost) (a m : Int) (hm : m ≤ 9223372036854775807) : Pure Tryd.prog 17 [.int .i64 a, .int .i64 m] g (.int .i64 (modI a m)) := by
  refine spec_of_run Tryd.func17 rfl Tryd.ntmps17 rfl fun E hE => ?_
  refine r_sr ?_; refine r_ev rfl rfl ?_; refine r_nn ?_; refine r_seq ?_; refine r_sr ?_; refine r_ev rfl rfl ?_; refine r_ev rfl rfl ?_; refine r_nn ?_
  refine r_cond rfl (fun h => ?_) (fun h => ?_)
  · refine r_sr ?_; refine r_ev rfl rfl ?_; refine r_nn ?_; refine r_retc ?_; refine r_then_ret ?_
    exact r_ret1 [] rfl rfl (by simp) ⟨vi (by simp [modI, h]), rfl, rfl⟩
  · have hk := tmod_mod a m (by omega)
    have hb := Int.emod_lt_of_pos a (by omega : 0 < m)
    have hb' := Int.emod_nonneg a (by omega : m ≠ 0)
    refine r_skip ?_; refine r_then_normal ?_; refine r_sr ?_; refine r_ev rfl rfl ?_; refine r_ev rfl rfl ?_
    refine r_rem rfl rfl rfl (by omega) ?_
    refine r_ev rfl rfl ?_; refine r_nn ?_; refine r_seq ?_; refine r_sr ?_; refine r_ev rfl rfl ?_; refine r_ev rfl rfl ?_; refine r_nn ?_
    refine r_cond rfl (fun h2 => ?_) (fun h2 => ?_)
    · rw [if_pos h2] at hk
      refine r_region ?_; refine r_ev rfl rfl ?_; refine r_ev rfl rfl ?_
      refine r_add rfl rfl rfl (by omega) ?_
      refine r_ev rfl rfl ?_; refine r_nn ?_; refine r_sr ?_; refine r_ev rfl rfl ?_; refine r_ev rfl rfl ?_; refine r_nn ?_; refine r_retc ?_
      exact r_ret1 [] rfl rfl (by simp) ⟨vi (by simp only [modI]; rw [if_neg h]; exact hk), rfl, rfl⟩
    · rw [if_neg h2] at hk
      refine r_skip ?_; refine r_then_normal ?_; refine r_sr ?_; refine r_ev rfl rfl ?_; refine r_ev rfl rfl ?_; refine r_nn ?_; refine r_retc ?_
      exact r_ret1 [] rfl rfl (by simp) ⟨vi (by simp only [modI]; rw [if_neg h]; exact hk), rfl, rfl⟩

end Go.Proofs.YtblbbjhbigpgnaaDoor
-- sum 5c4407555e93b668

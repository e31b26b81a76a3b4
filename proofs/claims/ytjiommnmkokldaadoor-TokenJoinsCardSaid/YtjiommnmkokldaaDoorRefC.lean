/- The walks of the reference of chapter 2, second part: Mod, Valid, Scan, Join. -/
import Derived.Test.YtjiommnmkokldaaDoorRefB
namespace Go.Proofs.YtjiommnmkokldaaDoor
open Go Go.Eng Go.Th Go.Proofs
set_option maxRecDepth 10000
attribute [local irreducible] wpList Code.wp Run bodyPost Go.Eng.Ends Exit.then Exit.inBlock Again Wq Kq
def tokCells (t : Tok) : List Value := [.int .i64 t.kind, str t.text, .int .i64 t.pos]
@[reducible] def tokV (t : Tok) : Value := .agg #[.int .i64 t.kind, str t.text, .int .i64 t.pos]
theorem tokCells_len (t : Tok) : (tokCells t).length = 3 := rfl

/-- n modulo m, as the program reckons it. -/
def modI (n m : Int) : Int := if m < 1 then 0 else n % m
theorem tmod_mod (a m : Int) (h : 1 ≤ m) : (if a.tmod m < 0 then a.tmod m + m else a.tmod m) = a % m := by
  rw [Int.tmod_eq_emod]
  have h1 := Int.emod_nonneg a (by omega : m ≠ 0)
  have h2 := Int.emod_lt_of_pos a (by omega : 0 < m)
  by_cases hd : 0 ≤ a ∨ m ∣ a
  · rw [if_pos hd]; simp; omega
  · rw [if_neg hd]
    have : (m.natAbs : Int) = m := by omega
    rw [this]
    have h3 : a % m ≠ 0 := fun h0 => hd (.inr (Int.dvd_of_emod_eq_zero h0))
    rw [if_pos (by omega)]; omega
theorem Mod_spec (g : Ghost) (a m : Int) (hm : m ≤ 9223372036854775807) : Pure Tryd.prog 21 [.int .i64 a, .int .i64 m] g (.int .i64 (modI a m)) := by
  refine spec_of_run Tryd.func21 rfl Tryd.ntmps21 rfl fun E hE => ?_
  refine r_sr ?_; refine r_ev rfl rfl ?_; refine r_nn ?_; refine r_seq ?_; refine r_sr ?_; refine r_ev rfl rfl ?_; refine r_ev rfl rfl ?_; refine r_nn ?_
  refine r_cond rfl (fun h => ?_) (fun h => ?_)
  · refine r_sr ?_; refine r_ev rfl rfl ?_; refine r_nn ?_; refine r_retc ?_; refine r_then_ret ?_
    exact r_ret1 [] rfl rfl (by simp) ⟨vi (by simp [modI, h]), rfl, rfl⟩
  · have hk := tmod_mod a m (by omega)
    have hb := Int.emod_lt_of_pos a (by omega : 0 < m)
    have hb' := Int.emod_nonneg a (by omega : m ≠ 0)
    refine r_skip ?_; refine r_then_normal ?_; refine r_sr ?_; refine r_ev rfl rfl ?_; refine r_ev rfl rfl ?_
    refine r_rem rfl rfl rfl (by omega) ?_
    refine r_ev rfl rfl ?_; refine r_nn ?_; refine r_seq ?_; refine r_sr ?_; refine r_ev rfl rfl ?_; refine r_ev rfl rfl ?_; refine r_nn ?_
    refine r_cond rfl (fun h2 => ?_) (fun h2 => ?_)
    · rw [if_pos h2] at hk
      refine r_region ?_; refine r_ev rfl rfl ?_; refine r_ev rfl rfl ?_
      refine r_add rfl rfl rfl (by omega) ?_
      refine r_ev rfl rfl ?_; refine r_nn ?_; refine r_sr ?_; refine r_ev rfl rfl ?_; refine r_ev rfl rfl ?_; refine r_nn ?_; refine r_retc ?_
      exact r_ret1 [] rfl rfl (by simp) ⟨vi (by simp only [modI]; rw [if_neg h]; exact hk), rfl, rfl⟩
    · rw [if_neg h2] at hk
      refine r_skip ?_; refine r_then_normal ?_; refine r_sr ?_; refine r_ev rfl rfl ?_; refine r_ev rfl rfl ?_; refine r_nn ?_; refine r_retc ?_
      exact r_ret1 [] rfl rfl (by simp) ⟨vi (by simp only [modI]; rw [if_neg h]; exact hk), rfl, rfl⟩

theorem Valid_spec (g : Ghost) (t : Tok) (hs : t.text.length ≤ 9223372036854775807) : Pure Tryd.prog 22 [tokV t] g (.bool (validTok t)) := by
  refine spec_of_run Tryd.func22 rfl Tryd.ntmps22 rfl fun E hE => ?_
  refine r_sr ?_; refine r_box rfl rfl rfl (fun b => ?_); refine r_ev rfl rfl ?_; refine r_nn ?_; refine r_seq ?_
  refine r_qregion mixed (by kernel_rfl) ?_
  refine q_v rfl (val_fieldAddr rfl) ?_; refine q_v rfl (val_loadB1 0 rfl rfl rfl) ?_; refine q_ev rfl rfl ?_; refine q_ev rfl rfl ?_
  refine q_gdec rfl rfl (fun h1 => ?_) (fun h1 => ?_)
  · refine q_take rfl ?_; refine q_v rfl (val_fieldAddr rfl) ?_; refine q_take rfl ?_; refine q_v rfl (val_loadB1 0 rfl rfl rfl) ?_; refine q_tev rfl rfl rfl ?_; refine q_ev rfl rfl ?_; refine q_ev rfl rfl ?_
    refine q_gdec rfl rfl (fun h5 => ?_) (fun h5 => ?_)
    · refine q_take rfl ?_; refine q_v rfl (val_fieldAddr rfl) ?_; refine q_take rfl ?_; refine q_v rfl (val_loadB1 0 rfl rfl rfl) ?_; refine q_take rfl ?_
      refine q_callP rfl rfl (Kind_spec g _ hs) ?_
      refine q_take rfl ?_; refine q_v rfl (val_fieldAddr rfl) ?_; refine q_take rfl ?_; refine q_v rfl (val_loadB1 0 rfl rfl rfl) ?_; refine q_tev rfl rfl rfl ?_; refine q_ev rfl rfl ?_; refine q_ev rfl rfl ?_
      refine q_gdec rfl rfl (fun hk => ?_) (fun hk => ?_)
      · refine q_take rfl ?_; refine q_v rfl (val_fieldAddr rfl) ?_; refine q_take rfl ?_; refine q_v rfl (val_loadB1 0 rfl rfl rfl) ?_; refine q_tev rfl rfl rfl ?_; refine q_ev rfl rfl ?_; refine q_ev rfl rfl ?_
        refine q_gdec rfl rfl (fun hp => ?_) (fun hp => ?_)
        · refine q_take rfl ?_; refine q_v rfl (val_fieldAddr rfl) ?_; refine q_take rfl ?_; refine q_v rfl (val_loadB1 0 rfl rfl rfl) ?_; refine q_tev rfl rfl rfl ?_; refine q_ev rfl rfl ?_; refine q_ev rfl rfl ?_; refine q_end ?_; refine r_then_normal ?_; refine r_retc ?_
          exact r_ret1 [] rfl rfl (by simp) ⟨vb (by simp [validTok]; omega), rfl, rfl⟩
        · refine q_pass rfl rfl rfl ?_; refine q_pass rfl rfl rfl ?_; refine q_pass rfl rfl rfl ?_; refine q_ev rfl rfl ?_; refine q_ev rfl rfl ?_; refine q_end ?_; refine r_then_normal ?_; refine r_retc ?_
          exact r_ret1 [] rfl rfl (by simp) ⟨vb (by simp [validTok]; omega), rfl, rfl⟩
      · refine q_pass rfl rfl rfl ?_; refine q_pass rfl rfl rfl ?_; refine q_pass rfl rfl rfl ?_; refine q_ev rfl rfl ?_; refine q_ev rfl rfl ?_; refine q_pass rfl rfl rfl ?_; refine q_pass rfl rfl rfl ?_; refine q_pass rfl rfl rfl ?_; refine q_ev rfl rfl ?_; refine q_ev rfl rfl ?_; refine q_end ?_; refine r_then_normal ?_; refine r_retc ?_
        exact r_ret1 [] rfl rfl (by simp) ⟨vb (by simp [validTok]; omega), rfl, rfl⟩
    · refine q_pass rfl rfl rfl ?_; refine q_pass rfl rfl rfl ?_; refine q_pass rfl rfl rfl ?_; refine q_pass rfl rfl rfl ?_; refine q_pass rfl rfl rfl ?_; refine q_pass rfl rfl rfl ?_; refine q_ev rfl rfl ?_; refine q_ev rfl rfl ?_; refine q_pass rfl rfl rfl ?_; refine q_pass rfl rfl rfl ?_; refine q_pass rfl rfl rfl ?_; refine q_ev rfl rfl ?_; refine q_ev rfl rfl ?_; refine q_pass rfl rfl rfl ?_; refine q_pass rfl rfl rfl ?_; refine q_pass rfl rfl rfl ?_; refine q_ev rfl rfl ?_; refine q_ev rfl rfl ?_; refine q_end ?_; refine r_then_normal ?_; refine r_retc ?_
      exact r_ret1 [] rfl rfl (by simp) ⟨vb (by simp [validTok]; omega), rfl, rfl⟩
  · refine q_pass rfl rfl rfl ?_; refine q_pass rfl rfl rfl ?_; refine q_pass rfl rfl rfl ?_; refine q_ev rfl rfl ?_; refine q_ev rfl rfl ?_; refine q_pass rfl rfl rfl ?_; refine q_pass rfl rfl rfl ?_; refine q_pass rfl rfl rfl ?_; refine q_pass rfl rfl rfl ?_; refine q_pass rfl rfl rfl ?_; refine q_pass rfl rfl rfl ?_; refine q_ev rfl rfl ?_; refine q_ev rfl rfl ?_; refine q_pass rfl rfl rfl ?_; refine q_pass rfl rfl rfl ?_; refine q_pass rfl rfl rfl ?_; refine q_ev rfl rfl ?_; refine q_ev rfl rfl ?_; refine q_pass rfl rfl rfl ?_; refine q_pass rfl rfl rfl ?_; refine q_pass rfl rfl rfl ?_; refine q_ev rfl rfl ?_; refine q_ev rfl rfl ?_; refine q_end ?_; refine r_then_normal ?_; refine r_retc ?_
    exact r_ret1 [] rfl rfl (by simp) ⟨vb (by simp [validTok]; omega), rfl, rfl⟩
end Go.Proofs.YtjiommnmkokldaaDoor

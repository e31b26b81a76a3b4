/- The walks of the reference of chapter 2, second part: Mod, Valid, Scan, Join. -/
import Derived.Test.YtblbbjhbigpgnaaDoorRefB
namespace Go.Proofs.YtblbbjhbigpgnaaDoor
open Go Go.Eng Go.Th Go.Proofs
set_option maxRecDepth 10000
set_option maxHeartbeats 4000000
attribute [local irreducible] wpList Code.wp Run bodyPost Go.Eng.Ends Exit.then Exit.inBlock Again Wq Kq
def tokCells (t : Tok) : List Value := [.int .i64 t.kind, str t.text, .int .i64 t.pos]
@[reducible] def tokV (t : Tok) : Value := .agg #[.int .i64 t.kind, str t.text, .int .i64 t.pos]
theorem tokCells_len (t : Tok) : (tokCells t).length = 3 := rfl

theorem Valid_spec (g : Ghost) (t : Tok) (hs : t.text.length ≤ 9223372036854775807) : Pure Tryd.prog 18 [tokV t] g (.bool (validTok t)) := by
  refine spec_of_run Tryd.func18 rfl Tryd.ntmps18 rfl fun E hE => ?_
  refine r_sr ?_; refine r_box rfl rfl rfl (fun b => ?_); refine r_ev rfl rfl ?_; refine r_nn ?_; refine r_seq ?_
  refine r_qregion mixed (by kernel_rfl) ?_
  refine q_v rfl (val_fieldAddr rfl) ?_; refine q_v rfl (val_loadB1 0 rfl rfl rfl) ?_; refine q_ev rfl rfl ?_; refine q_ev rfl rfl ?_
  refine q_gdec rfl rfl (fun h1 => ?_) (fun h1 => ?_)
  · refine q_take rfl ?_; refine q_v rfl (val_fieldAddr rfl) ?_; refine q_take rfl ?_; refine q_v rfl (val_loadB1 0 rfl rfl rfl) ?_; refine q_tev rfl rfl rfl ?_; refine q_ev rfl rfl ?_; refine q_ev rfl rfl ?_
    refine q_gdec rfl rfl (fun h5 => ?_) (fun h5 => ?_)
    · refine q_take rfl ?_; refine q_v rfl (val_fieldAddr rfl) ?_; refine q_take rfl ?_; refine q_v rfl (val_loadB1 0 rfl rfl rfl) ?_; refine q_take rfl ?_
      refine q_callP rfl rfl (Kind_spec g _ hs) ?_
      refine q_take rfl ?_; refine q_v rfl (val_fieldAddr rfl) ?_; refine q_take rfl ?_; refine q_v rfl (val_loadB1 0 rfl rfl rfl) ?_; refine q_tev rfl rfl rfl ?_; refine q_ev rfl rfl ?_; refine q_ev rfl rfl ?_
      refine q_gdec rfl rfl (fun hk => ?_) (fun hk => ?_)
      · refine q_take rfl ?_; refine q_v rfl (val_fieldAddr rfl) ?_; refine q_take rfl ?_; refine q_v rfl (val_loadB1 0 rfl rfl rfl) ?_; refine q_tev rfl rfl rfl ?_; refine q_ev rfl rfl ?_; refine q_ev rfl rfl ?_
        refine q_gdec rfl rfl (fun hp => ?_) (fun hp => ?_)
        · refine q_take rfl ?_; refine q_v rfl (val_fieldAddr rfl) ?_; refine q_take rfl ?_; refine q_v rfl (val_loadB1 0 rfl rfl rfl) ?_; refine q_tev rfl rfl rfl ?_; refine q_ev rfl rfl ?_; refine q_ev rfl rfl ?_; refine q_end ?_; refine r_then_normal ?_; refine r_retc ?_
          exact r_ret1 [] rfl rfl (by simp) ⟨vb (by simp [validTok]; omega), rfl, rfl⟩
        · refine q_pass rfl rfl rfl ?_; refine q_pass rfl rfl rfl ?_; refine q_pass rfl rfl rfl ?_; refine q_ev rfl rfl ?_; refine q_ev rfl rfl ?_; refine q_end ?_; refine r_then_normal ?_; refine r_retc ?_
          exact r_ret1 [] rfl rfl (by simp) ⟨vb (by simp [validTok]; omega), rfl, rfl⟩
      · refine q_pass rfl rfl rfl ?_; refine q_pass rfl rfl rfl ?_; refine q_pass rfl rfl rfl ?_; refine q_ev rfl rfl ?_; refine q_ev rfl rfl ?_; refine q_pass rfl rfl rfl ?_; refine q_pass rfl rfl rfl ?_; refine q_pass rfl rfl rfl ?_; refine q_ev rfl rfl ?_; refine q_ev rfl rfl ?_; refine q_end ?_; refine r_then_normal ?_; refine r_retc ?_
        exact r_ret1 [] rfl rfl (by simp) ⟨vb (by simp [validTok]; omega), rfl, rfl⟩
    · refine q_pass rfl rfl rfl ?_; refine q_pass rfl rfl rfl ?_; refine q_pass rfl rfl rfl ?_; refine q_pass rfl rfl rfl ?_; refine q_pass rfl rfl rfl ?_; refine q_pass rfl rfl rfl ?_; refine q_ev rfl rfl ?_; refine q_ev rfl rfl ?_; refine q_pass rfl rfl rfl ?_; refine q_pass rfl rfl rfl ?_; refine q_pass rfl rfl rfl ?_; refine q_ev rfl rfl ?_; refine q_ev rfl rfl ?_; refine q_pass rfl rfl rfl ?_; refine q_pass rfl rfl rfl ?_; refine q_pass rfl rfl rfl ?_; refine q_ev rfl rfl ?_; refine q_ev rfl rfl ?_; refine q_end ?_; refine r_then_normal ?_; refine r_retc ?_
      exact r_ret1 [] rfl rfl (by simp) ⟨vb (by simp [validTok]; omega), rfl, rfl⟩
  · refine q_pass rfl rfl rfl ?_; refine q_pass rfl rfl rfl ?_; refine q_pass rfl rfl rfl ?_; refine q_ev rfl rfl ?_; refine q_ev rfl rfl ?_; refine q_pass rfl rfl rfl ?_; refine q_pass rfl rfl rfl ?_; refine q_pass rfl rfl rfl ?_; refine q_pass rfl rfl rfl ?_; refine q_pass rfl rfl rfl ?_; refine q_pass rfl rfl rfl ?_; refine q_ev rfl rfl ?_; refine q_ev rfl rfl ?_; refine q_pass rfl rfl rfl ?_; refine q_pass rfl rfl rfl ?_; refine q_pass rfl rfl rfl ?_; refine q_ev rfl rfl ?_; refine q_ev rfl rfl ?_; refine q_pass rfl rfl rfl ?_; refine q_pass rfl rfl rfl ?_; refine q_pass rfl rfl rfl ?_; refine q_ev rfl rfl ?_; refine q_ev rfl rfl ?_; refine q_end ?_; refine r_then_normal ?_; refine r_retc ?_
    exact r_ret1 [] rfl rfl (by simp) ⟨vb (by simp [validTok]; omega), rfl, rfl⟩
end Go.Proofs.YtblbbjhbigpgnaaDoor
-- sum 2dd3be15207b247a

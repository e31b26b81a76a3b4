/- The walks of the reference of chapter 2 (typedholesref2): what each function hands back. -/
import Derived.Test.YtpjehhnaojjanaaGreatDoorK4
import Derived.Test.YtpjehhnaojjanaaGreatDoorK1
namespace Go.Proofs.YtpjehhnaojjanaaGreatDoor
open Go Go.Eng Go.Th Go.Proofs
set_option maxRecDepth 10000
set_option maxHeartbeats 4000000
attribute [local irreducible] wpList Code.wp Run bodyPost Go.Eng.Ends Exit.then Exit.inBlock Again Wq Kq
theorem all_take_succ {p : UInt8 → Bool} {s : Bytes} {k : Nat} (hk : k < s.length) : (s.take (k + 1)).all p = ((s.take k).all p && p s[k]) := by
 rw [List.take_succ_eq_append_getElem hk, List.all_append]; simp

theorem lower_spec (g : Ghost) (c : UInt8) : Pure Tryz.prog 128 [.int .u8 c.toNat] g (.bool (lower c)) := by
 refine spec_of_run Tryz.func128 rfl Tryz.ntmps128 rfl fun E hE => ?_
 repeat' (first | (refine is_w ?_; (first | refine r_ev rfl rfl ?_ | refine r_len_str rfl rfl ?_ | refine r_len_sl rfl rfl ?_ | refine r_fieldAddr rfl rfl ?_ | refine r_loadB1 0 rfl rfl rfl rfl ?_ | refine r_loadB1 1 rfl rfl rfl rfl ?_ | refine r_loadB1 2 rfl rfl rfl rfl ?_ | refine r_loadB1 3 rfl rfl rfl rfl ?_ | refine r_loadB 0 rfl rfl rfl (by rfl) ?_ | refine r_loadB 1 rfl rfl rfl (by rfl) ?_ | refine r_loadB 2 rfl rfl rfl (by rfl) ?_ | refine r_loadB 3 rfl rfl rfl (by rfl) ?_ | refine r_build rfl rfl (by rfl) ?_ | refine r_neq_nil_held rfl rfl ?_ | refine r_neq_nil_nil rfl rfl ?_ | refine r_eql_nil_held rfl rfl ?_ | refine r_eql_nil_nil rfl rfl ?_ | refine r_mkIface rfl rfl ?_ | refine r_min rfl rfl rfl ?_ | refine r_max rfl rfl rfl ?_ | refine r_conv_str rfl rfl ?_ | refine r_makeFunc rfl rfl rfl ?_ | refine r_alloc rfl (fun b => ?_) | refine r_box rfl rfl rfl (fun b => ?_))) | (refine is_g ?_; (first | refine r_tev rfl rfl rfl ?_ | refine r_pass rfl rfl rfl ?_ | refine r_take rfl ?_ | refine r_passU rfl rfl ?_ | refine r_pass0 rfl rfl ?_ | refine r_gdec rfl rfl (fun h => ?_) (fun h => ?_) | refine r_gbool rfl rfl (fun h => ?_) (fun h => ?_))) | (refine is_n ?_; (first | refine r_nn ?_ | refine r_nil ?_)) | (refine is_c ?_; (first | refine r_sr ?_ | refine r_seq ?_ | refine r_region ?_ | refine r_cond_true rfl ?_ | refine r_cond_false rfl ?_ | refine r_retc ?_ | refine r_block ?_ | refine r_exit ?_ | refine r_skip ?_ | refine r_cond rfl (fun h => ?_) (fun h => ?_) | refine r_condb rfl (fun h => ?_) (fun h => ?_))) | (refine is_t ?_; (first | refine r_then_normal ?_ | refine r_then_ret ?_ | refine r_then_exit ?_)) | (refine is_b ?_; (first | refine r_in_normal ?_ | refine r_in_ret ?_ | refine r_in_exit ?_ | refine r_in_exit_other rfl ?_)) | (refine is_w0 ?_; (first | refine r_store1 0 rfl rfl rfl rfl rfl rfl ?_ | refine r_store1 1 rfl rfl rfl rfl rfl rfl ?_ | refine r_store1 2 rfl rfl rfl rfl rfl rfl ?_ | refine r_store1 3 rfl rfl rfl rfl rfl rfl ?_ | refine r_storeA 0 rfl rfl rfl rfl (by rfl) rfl rfl ?_ | refine r_storeA 1 rfl rfl rfl rfl (by rfl) rfl rfl ?_ | refine r_storeA 2 rfl rfl rfl rfl (by rfl) rfl rfl ?_ | refine r_storeA 3 rfl rfl rfl rfl (by rfl) rfl rfl ?_ | refine r_nilCheck0 rfl ?_)) | (refine is_q ?_; (first | refine q_ev rfl rfl ?_ | refine q_v rfl (val_fieldAddr rfl) ?_ | refine q_v rfl (val_len_str rfl) ?_ | refine q_v rfl (val_len_sl rfl) ?_ | refine q_v rfl (val_loadB1 0 rfl rfl rfl) ?_ | refine q_v rfl (val_loadB1 1 rfl rfl rfl) ?_ | refine q_v rfl (val_loadB1 2 rfl rfl rfl) ?_ | refine q_v rfl (val_loadB1 3 rfl rfl rfl) ?_ | refine q_v rfl (val_loadB 0 rfl rfl (by rfl)) ?_ | refine q_v rfl (val_loadB 1 rfl rfl (by rfl)) ?_ | refine q_v rfl (val_loadB 2 rfl rfl (by rfl)) ?_ | refine q_v rfl (val_loadB 3 rfl rfl (by rfl)) ?_ | refine q_v rfl (val_build rfl (by rfl)) ?_)) | (refine is_qg ?_; (first | refine q_tev rfl rfl rfl ?_ | refine q_pass rfl rfl rfl ?_ | refine q_take rfl ?_ | refine q_passU rfl rfl ?_ | refine q_gdec rfl rfl (fun h => ?_) (fun h => ?_) | refine q_gbool rfl rfl (fun h => ?_) (fun h => ?_))) | (refine is_qn ?_; (first | refine q_end ?_)) | refine r_fin_n ?_)
 all_goals exact r_ret1 [] rfl rfl (by simp) ⟨vb (by simp [lower]; omega), rfl, rfl⟩
theorem upper_spec (g : Ghost) (c : UInt8) : Pure Tryz.prog 129 [.int .u8 c.toNat] g (.bool (upper c)) := by
 refine spec_of_run Tryz.func129 rfl Tryz.ntmps129 rfl fun E hE => ?_
 repeat' (first | (refine is_w ?_; (first | refine r_ev rfl rfl ?_ | refine r_len_str rfl rfl ?_ | refine r_len_sl rfl rfl ?_ | refine r_fieldAddr rfl rfl ?_ | refine r_loadB1 0 rfl rfl rfl rfl ?_ | refine r_loadB1 1 rfl rfl rfl rfl ?_ | refine r_loadB1 2 rfl rfl rfl rfl ?_ | refine r_loadB1 3 rfl rfl rfl rfl ?_ | refine r_loadB 0 rfl rfl rfl (by rfl) ?_ | refine r_loadB 1 rfl rfl rfl (by rfl) ?_ | refine r_loadB 2 rfl rfl rfl (by rfl) ?_ | refine r_loadB 3 rfl rfl rfl (by rfl) ?_ | refine r_build rfl rfl (by rfl) ?_ | refine r_neq_nil_held rfl rfl ?_ | refine r_neq_nil_nil rfl rfl ?_ | refine r_eql_nil_held rfl rfl ?_ | refine r_eql_nil_nil rfl rfl ?_ | refine r_mkIface rfl rfl ?_ | refine r_min rfl rfl rfl ?_ | refine r_max rfl rfl rfl ?_ | refine r_conv_str rfl rfl ?_ | refine r_makeFunc rfl rfl rfl ?_ | refine r_alloc rfl (fun b => ?_) | refine r_box rfl rfl rfl (fun b => ?_))) | (refine is_g ?_; (first | refine r_tev rfl rfl rfl ?_ | refine r_pass rfl rfl rfl ?_ | refine r_take rfl ?_ | refine r_passU rfl rfl ?_ | refine r_pass0 rfl rfl ?_ | refine r_gdec rfl rfl (fun h => ?_) (fun h => ?_) | refine r_gbool rfl rfl (fun h => ?_) (fun h => ?_))) | (refine is_n ?_; (first | refine r_nn ?_ | refine r_nil ?_)) | (refine is_c ?_; (first | refine r_sr ?_ | refine r_seq ?_ | refine r_region ?_ | refine r_cond_true rfl ?_ | refine r_cond_false rfl ?_ | refine r_retc ?_ | refine r_block ?_ | refine r_exit ?_ | refine r_skip ?_ | refine r_cond rfl (fun h => ?_) (fun h => ?_) | refine r_condb rfl (fun h => ?_) (fun h => ?_))) | (refine is_t ?_; (first | refine r_then_normal ?_ | refine r_then_ret ?_ | refine r_then_exit ?_)) | (refine is_b ?_; (first | refine r_in_normal ?_ | refine r_in_ret ?_ | refine r_in_exit ?_ | refine r_in_exit_other rfl ?_)) | (refine is_w0 ?_; (first | refine r_store1 0 rfl rfl rfl rfl rfl rfl ?_ | refine r_store1 1 rfl rfl rfl rfl rfl rfl ?_ | refine r_store1 2 rfl rfl rfl rfl rfl rfl ?_ | refine r_store1 3 rfl rfl rfl rfl rfl rfl ?_ | refine r_storeA 0 rfl rfl rfl rfl (by rfl) rfl rfl ?_ | refine r_storeA 1 rfl rfl rfl rfl (by rfl) rfl rfl ?_ | refine r_storeA 2 rfl rfl rfl rfl (by rfl) rfl rfl ?_ | refine r_storeA 3 rfl rfl rfl rfl (by rfl) rfl rfl ?_ | refine r_nilCheck0 rfl ?_)) | (refine is_q ?_; (first | refine q_ev rfl rfl ?_ | refine q_v rfl (val_fieldAddr rfl) ?_ | refine q_v rfl (val_len_str rfl) ?_ | refine q_v rfl (val_len_sl rfl) ?_ | refine q_v rfl (val_loadB1 0 rfl rfl rfl) ?_ | refine q_v rfl (val_loadB1 1 rfl rfl rfl) ?_ | refine q_v rfl (val_loadB1 2 rfl rfl rfl) ?_ | refine q_v rfl (val_loadB1 3 rfl rfl rfl) ?_ | refine q_v rfl (val_loadB 0 rfl rfl (by rfl)) ?_ | refine q_v rfl (val_loadB 1 rfl rfl (by rfl)) ?_ | refine q_v rfl (val_loadB 2 rfl rfl (by rfl)) ?_ | refine q_v rfl (val_loadB 3 rfl rfl (by rfl)) ?_ | refine q_v rfl (val_build rfl (by rfl)) ?_)) | (refine is_qg ?_; (first | refine q_tev rfl rfl rfl ?_ | refine q_pass rfl rfl rfl ?_ | refine q_take rfl ?_ | refine q_passU rfl rfl ?_ | refine q_gdec rfl rfl (fun h => ?_) (fun h => ?_) | refine q_gbool rfl rfl (fun h => ?_) (fun h => ?_))) | (refine is_qn ?_; (first | refine q_end ?_)) | refine r_fin_n ?_)
 all_goals exact r_ret1 [] rfl rfl (by simp) ⟨vb (by simp [upper]; omega), rfl, rfl⟩
theorem digit_spec (g : Ghost) (c : UInt8) : Pure Tryz.prog 130 [.int .u8 c.toNat] g (.bool (digit c)) := by
 refine spec_of_run Tryz.func130 rfl Tryz.ntmps130 rfl fun E hE => ?_
 repeat' (first | (refine is_w ?_; (first | refine r_ev rfl rfl ?_ | refine r_len_str rfl rfl ?_ | refine r_len_sl rfl rfl ?_ | refine r_fieldAddr rfl rfl ?_ | refine r_loadB1 0 rfl rfl rfl rfl ?_ | refine r_loadB1 1 rfl rfl rfl rfl ?_ | refine r_loadB1 2 rfl rfl rfl rfl ?_ | refine r_loadB1 3 rfl rfl rfl rfl ?_ | refine r_loadB 0 rfl rfl rfl (by rfl) ?_ | refine r_loadB 1 rfl rfl rfl (by rfl) ?_ | refine r_loadB 2 rfl rfl rfl (by rfl) ?_ | refine r_loadB 3 rfl rfl rfl (by rfl) ?_ | refine r_build rfl rfl (by rfl) ?_ | refine r_neq_nil_held rfl rfl ?_ | refine r_neq_nil_nil rfl rfl ?_ | refine r_eql_nil_held rfl rfl ?_ | refine r_eql_nil_nil rfl rfl ?_ | refine r_mkIface rfl rfl ?_ | refine r_min rfl rfl rfl ?_ | refine r_max rfl rfl rfl ?_ | refine r_conv_str rfl rfl ?_ | refine r_makeFunc rfl rfl rfl ?_ | refine r_alloc rfl (fun b => ?_) | refine r_box rfl rfl rfl (fun b => ?_))) | (refine is_g ?_; (first | refine r_tev rfl rfl rfl ?_ | refine r_pass rfl rfl rfl ?_ | refine r_take rfl ?_ | refine r_passU rfl rfl ?_ | refine r_pass0 rfl rfl ?_ | refine r_gdec rfl rfl (fun h => ?_) (fun h => ?_) | refine r_gbool rfl rfl (fun h => ?_) (fun h => ?_))) | (refine is_n ?_; (first | refine r_nn ?_ | refine r_nil ?_)) | (refine is_c ?_; (first | refine r_sr ?_ | refine r_seq ?_ | refine r_region ?_ | refine r_cond_true rfl ?_ | refine r_cond_false rfl ?_ | refine r_retc ?_ | refine r_block ?_ | refine r_exit ?_ | refine r_skip ?_ | refine r_cond rfl (fun h => ?_) (fun h => ?_) | refine r_condb rfl (fun h => ?_) (fun h => ?_))) | (refine is_t ?_; (first | refine r_then_normal ?_ | refine r_then_ret ?_ | refine r_then_exit ?_)) | (refine is_b ?_; (first | refine r_in_normal ?_ | refine r_in_ret ?_ | refine r_in_exit ?_ | refine r_in_exit_other rfl ?_)) | (refine is_w0 ?_; (first | refine r_store1 0 rfl rfl rfl rfl rfl rfl ?_ | refine r_store1 1 rfl rfl rfl rfl rfl rfl ?_ | refine r_store1 2 rfl rfl rfl rfl rfl rfl ?_ | refine r_store1 3 rfl rfl rfl rfl rfl rfl ?_ | refine r_storeA 0 rfl rfl rfl rfl (by rfl) rfl rfl ?_ | refine r_storeA 1 rfl rfl rfl rfl (by rfl) rfl rfl ?_ | refine r_storeA 2 rfl rfl rfl rfl (by rfl) rfl rfl ?_ | refine r_storeA 3 rfl rfl rfl rfl (by rfl) rfl rfl ?_ | refine r_nilCheck0 rfl ?_)) | (refine is_q ?_; (first | refine q_ev rfl rfl ?_ | refine q_v rfl (val_fieldAddr rfl) ?_ | refine q_v rfl (val_len_str rfl) ?_ | refine q_v rfl (val_len_sl rfl) ?_ | refine q_v rfl (val_loadB1 0 rfl rfl rfl) ?_ | refine q_v rfl (val_loadB1 1 rfl rfl rfl) ?_ | refine q_v rfl (val_loadB1 2 rfl rfl rfl) ?_ | refine q_v rfl (val_loadB1 3 rfl rfl rfl) ?_ | refine q_v rfl (val_loadB 0 rfl rfl (by rfl)) ?_ | refine q_v rfl (val_loadB 1 rfl rfl (by rfl)) ?_ | refine q_v rfl (val_loadB 2 rfl rfl (by rfl)) ?_ | refine q_v rfl (val_loadB 3 rfl rfl (by rfl)) ?_ | refine q_v rfl (val_build rfl (by rfl)) ?_)) | (refine is_qg ?_; (first | refine q_tev rfl rfl rfl ?_ | refine q_pass rfl rfl rfl ?_ | refine q_take rfl ?_ | refine q_passU rfl rfl ?_ | refine q_gdec rfl rfl (fun h => ?_) (fun h => ?_) | refine q_gbool rfl rfl (fun h => ?_) (fun h => ?_))) | (refine is_qn ?_; (first | refine q_end ?_)) | refine r_fin_n ?_)
 all_goals exact r_ret1 [] rfl rfl (by simp) ⟨vb (by simp [digit]; omega), rfl, rfl⟩
theorem inner_spec (g : Ghost) (c : UInt8) : Pure Tryz.prog 90 [.int .u8 c.toNat] g (.bool (inner c)) := by
 refine spec_of_run Tryz.func90 rfl Tryz.ntmps90 rfl fun E hE => ?_
 refine r_sr <| r_ev rfl rfl <| r_nn <| r_sr <| r_ev rfl rfl ?_
 refine r_callP rfl rfl (lower_spec g c) ?_
 repeat' (first | (refine is_w ?_; (first | refine r_ev rfl rfl ?_ | refine r_len_str rfl rfl ?_ | refine r_len_sl rfl rfl ?_ | refine r_fieldAddr rfl rfl ?_ | refine r_loadB1 0 rfl rfl rfl rfl ?_ | refine r_loadB1 1 rfl rfl rfl rfl ?_ | refine r_loadB1 2 rfl rfl rfl rfl ?_ | refine r_loadB1 3 rfl rfl rfl rfl ?_ | refine r_loadB 0 rfl rfl rfl (by rfl) ?_ | refine r_loadB 1 rfl rfl rfl (by rfl) ?_ | refine r_loadB 2 rfl rfl rfl (by rfl) ?_ | refine r_loadB 3 rfl rfl rfl (by rfl) ?_ | refine r_build rfl rfl (by rfl) ?_ | refine r_neq_nil_held rfl rfl ?_ | refine r_neq_nil_nil rfl rfl ?_ | refine r_eql_nil_held rfl rfl ?_ | refine r_eql_nil_nil rfl rfl ?_ | refine r_mkIface rfl rfl ?_ | refine r_min rfl rfl rfl ?_ | refine r_max rfl rfl rfl ?_ | refine r_conv_str rfl rfl ?_ | refine r_makeFunc rfl rfl rfl ?_ | refine r_alloc rfl (fun b => ?_) | refine r_box rfl rfl rfl (fun b => ?_))) | (refine is_g ?_; (first | refine r_tev rfl rfl rfl ?_ | refine r_pass rfl rfl rfl ?_ | refine r_take rfl ?_ | refine r_passU rfl rfl ?_ | refine r_pass0 rfl rfl ?_ | refine r_gdec rfl rfl (fun h => ?_) (fun h => ?_) | refine r_gbool rfl rfl (fun h => ?_) (fun h => ?_))) | (refine is_n ?_; (first | refine r_nn ?_ | refine r_nil ?_)) | (refine is_c ?_; (first | refine r_sr ?_ | refine r_seq ?_ | refine r_region ?_ | refine r_cond_true rfl ?_ | refine r_cond_false rfl ?_ | refine r_retc ?_ | refine r_block ?_ | refine r_exit ?_ | refine r_skip ?_ | refine r_cond rfl (fun h => ?_) (fun h => ?_) | refine r_condb rfl (fun h => ?_) (fun h => ?_))) | (refine is_t ?_; (first | refine r_then_normal ?_ | refine r_then_ret ?_ | refine r_then_exit ?_)) | (refine is_b ?_; (first | refine r_in_normal ?_ | refine r_in_ret ?_ | refine r_in_exit ?_ | refine r_in_exit_other rfl ?_)) | (refine is_w0 ?_; (first | refine r_store1 0 rfl rfl rfl rfl rfl rfl ?_ | refine r_store1 1 rfl rfl rfl rfl rfl rfl ?_ | refine r_store1 2 rfl rfl rfl rfl rfl rfl ?_ | refine r_store1 3 rfl rfl rfl rfl rfl rfl ?_ | refine r_storeA 0 rfl rfl rfl rfl (by rfl) rfl rfl ?_ | refine r_storeA 1 rfl rfl rfl rfl (by rfl) rfl rfl ?_ | refine r_storeA 2 rfl rfl rfl rfl (by rfl) rfl rfl ?_ | refine r_storeA 3 rfl rfl rfl rfl (by rfl) rfl rfl ?_ | refine r_nilCheck0 rfl ?_)) | (refine is_q ?_; (first | refine q_ev rfl rfl ?_ | refine q_v rfl (val_fieldAddr rfl) ?_ | refine q_v rfl (val_len_str rfl) ?_ | refine q_v rfl (val_len_sl rfl) ?_ | refine q_v rfl (val_loadB1 0 rfl rfl rfl) ?_ | refine q_v rfl (val_loadB1 1 rfl rfl rfl) ?_ | refine q_v rfl (val_loadB1 2 rfl rfl rfl) ?_ | refine q_v rfl (val_loadB1 3 rfl rfl rfl) ?_ | refine q_v rfl (val_loadB 0 rfl rfl (by rfl)) ?_ | refine q_v rfl (val_loadB 1 rfl rfl (by rfl)) ?_ | refine q_v rfl (val_loadB 2 rfl rfl (by rfl)) ?_ | refine q_v rfl (val_loadB 3 rfl rfl (by rfl)) ?_ | refine q_v rfl (val_build rfl (by rfl)) ?_)) | (refine is_qg ?_; (first | refine q_tev rfl rfl rfl ?_ | refine q_pass rfl rfl rfl ?_ | refine q_take rfl ?_ | refine q_passU rfl rfl ?_ | refine q_gdec rfl rfl (fun h => ?_) (fun h => ?_) | refine q_gbool rfl rfl (fun h => ?_) (fun h => ?_))) | (refine is_qn ?_; (first | refine q_end ?_)) | refine r_fin_n ?_)
 ·exact r_ret1 [] rfl rfl (by simp) ⟨vb (by simp [inner, *]), rfl, rfl⟩
 refine r_callP rfl rfl (upper_spec g c) ?_
 repeat' (first | (refine is_w ?_; (first | refine r_ev rfl rfl ?_ | refine r_len_str rfl rfl ?_ | refine r_len_sl rfl rfl ?_ | refine r_fieldAddr rfl rfl ?_ | refine r_loadB1 0 rfl rfl rfl rfl ?_ | refine r_loadB1 1 rfl rfl rfl rfl ?_ | refine r_loadB1 2 rfl rfl rfl rfl ?_ | refine r_loadB1 3 rfl rfl rfl rfl ?_ | refine r_loadB 0 rfl rfl rfl (by rfl) ?_ | refine r_loadB 1 rfl rfl rfl (by rfl) ?_ | refine r_loadB 2 rfl rfl rfl (by rfl) ?_ | refine r_loadB 3 rfl rfl rfl (by rfl) ?_ | refine r_build rfl rfl (by rfl) ?_ | refine r_neq_nil_held rfl rfl ?_ | refine r_neq_nil_nil rfl rfl ?_ | refine r_eql_nil_held rfl rfl ?_ | refine r_eql_nil_nil rfl rfl ?_ | refine r_mkIface rfl rfl ?_ | refine r_min rfl rfl rfl ?_ | refine r_max rfl rfl rfl ?_ | refine r_conv_str rfl rfl ?_ | refine r_makeFunc rfl rfl rfl ?_ | refine r_alloc rfl (fun b => ?_) | refine r_box rfl rfl rfl (fun b => ?_))) | (refine is_g ?_; (first | refine r_tev rfl rfl rfl ?_ | refine r_pass rfl rfl rfl ?_ | refine r_take rfl ?_ | refine r_passU rfl rfl ?_ | refine r_pass0 rfl rfl ?_ | refine r_gdec rfl rfl (fun h => ?_) (fun h => ?_) | refine r_gbool rfl rfl (fun h => ?_) (fun h => ?_))) | (refine is_n ?_; (first | refine r_nn ?_ | refine r_nil ?_)) | (refine is_c ?_; (first | refine r_sr ?_ | refine r_seq ?_ | refine r_region ?_ | refine r_cond_true rfl ?_ | refine r_cond_false rfl ?_ | refine r_retc ?_ | refine r_block ?_ | refine r_exit ?_ | refine r_skip ?_ | refine r_cond rfl (fun h => ?_) (fun h => ?_) | refine r_condb rfl (fun h => ?_) (fun h => ?_))) | (refine is_t ?_; (first | refine r_then_normal ?_ | refine r_then_ret ?_ | refine r_then_exit ?_)) | (refine is_b ?_; (first | refine r_in_normal ?_ | refine r_in_ret ?_ | refine r_in_exit ?_ | refine r_in_exit_other rfl ?_)) | (refine is_w0 ?_; (first | refine r_store1 0 rfl rfl rfl rfl rfl rfl ?_ | refine r_store1 1 rfl rfl rfl rfl rfl rfl ?_ | refine r_store1 2 rfl rfl rfl rfl rfl rfl ?_ | refine r_store1 3 rfl rfl rfl rfl rfl rfl ?_ | refine r_storeA 0 rfl rfl rfl rfl (by rfl) rfl rfl ?_ | refine r_storeA 1 rfl rfl rfl rfl (by rfl) rfl rfl ?_ | refine r_storeA 2 rfl rfl rfl rfl (by rfl) rfl rfl ?_ | refine r_storeA 3 rfl rfl rfl rfl (by rfl) rfl rfl ?_ | refine r_nilCheck0 rfl ?_)) | (refine is_q ?_; (first | refine q_ev rfl rfl ?_ | refine q_v rfl (val_fieldAddr rfl) ?_ | refine q_v rfl (val_len_str rfl) ?_ | refine q_v rfl (val_len_sl rfl) ?_ | refine q_v rfl (val_loadB1 0 rfl rfl rfl) ?_ | refine q_v rfl (val_loadB1 1 rfl rfl rfl) ?_ | refine q_v rfl (val_loadB1 2 rfl rfl rfl) ?_ | refine q_v rfl (val_loadB1 3 rfl rfl rfl) ?_ | refine q_v rfl (val_loadB 0 rfl rfl (by rfl)) ?_ | refine q_v rfl (val_loadB 1 rfl rfl (by rfl)) ?_ | refine q_v rfl (val_loadB 2 rfl rfl (by rfl)) ?_ | refine q_v rfl (val_loadB 3 rfl rfl (by rfl)) ?_ | refine q_v rfl (val_build rfl (by rfl)) ?_)) | (refine is_qg ?_; (first | refine q_tev rfl rfl rfl ?_ | refine q_pass rfl rfl rfl ?_ | refine q_take rfl ?_ | refine q_passU rfl rfl ?_ | refine q_gdec rfl rfl (fun h => ?_) (fun h => ?_) | refine q_gbool rfl rfl (fun h => ?_) (fun h => ?_))) | (refine is_qn ?_; (first | refine q_end ?_)) | refine r_fin_n ?_)
 ·exact r_ret1 [] rfl rfl (by simp) ⟨vb (by simp [inner, *]), rfl, rfl⟩
 refine r_callP rfl rfl (digit_spec g c) ?_
 repeat' (first | (refine is_w ?_; (first | refine r_ev rfl rfl ?_ | refine r_len_str rfl rfl ?_ | refine r_len_sl rfl rfl ?_ | refine r_fieldAddr rfl rfl ?_ | refine r_loadB1 0 rfl rfl rfl rfl ?_ | refine r_loadB1 1 rfl rfl rfl rfl ?_ | refine r_loadB1 2 rfl rfl rfl rfl ?_ | refine r_loadB1 3 rfl rfl rfl rfl ?_ | refine r_loadB 0 rfl rfl rfl (by rfl) ?_ | refine r_loadB 1 rfl rfl rfl (by rfl) ?_ | refine r_loadB 2 rfl rfl rfl (by rfl) ?_ | refine r_loadB 3 rfl rfl rfl (by rfl) ?_ | refine r_build rfl rfl (by rfl) ?_ | refine r_neq_nil_held rfl rfl ?_ | refine r_neq_nil_nil rfl rfl ?_ | refine r_eql_nil_held rfl rfl ?_ | refine r_eql_nil_nil rfl rfl ?_ | refine r_mkIface rfl rfl ?_ | refine r_min rfl rfl rfl ?_ | refine r_max rfl rfl rfl ?_ | refine r_conv_str rfl rfl ?_ | refine r_makeFunc rfl rfl rfl ?_ | refine r_alloc rfl (fun b => ?_) | refine r_box rfl rfl rfl (fun b => ?_))) | (refine is_g ?_; (first | refine r_tev rfl rfl rfl ?_ | refine r_pass rfl rfl rfl ?_ | refine r_take rfl ?_ | refine r_passU rfl rfl ?_ | refine r_pass0 rfl rfl ?_ | refine r_gdec rfl rfl (fun h => ?_) (fun h => ?_) | refine r_gbool rfl rfl (fun h => ?_) (fun h => ?_))) | (refine is_n ?_; (first | refine r_nn ?_ | refine r_nil ?_)) | (refine is_c ?_; (first | refine r_sr ?_ | refine r_seq ?_ | refine r_region ?_ | refine r_cond_true rfl ?_ | refine r_cond_false rfl ?_ | refine r_retc ?_ | refine r_block ?_ | refine r_exit ?_ | refine r_skip ?_ | refine r_cond rfl (fun h => ?_) (fun h => ?_) | refine r_condb rfl (fun h => ?_) (fun h => ?_))) | (refine is_t ?_; (first | refine r_then_normal ?_ | refine r_then_ret ?_ | refine r_then_exit ?_)) | (refine is_b ?_; (first | refine r_in_normal ?_ | refine r_in_ret ?_ | refine r_in_exit ?_ | refine r_in_exit_other rfl ?_)) | (refine is_w0 ?_; (first | refine r_store1 0 rfl rfl rfl rfl rfl rfl ?_ | refine r_store1 1 rfl rfl rfl rfl rfl rfl ?_ | refine r_store1 2 rfl rfl rfl rfl rfl rfl ?_ | refine r_store1 3 rfl rfl rfl rfl rfl rfl ?_ | refine r_storeA 0 rfl rfl rfl rfl (by rfl) rfl rfl ?_ | refine r_storeA 1 rfl rfl rfl rfl (by rfl) rfl rfl ?_ | refine r_storeA 2 rfl rfl rfl rfl (by rfl) rfl rfl ?_ | refine r_storeA 3 rfl rfl rfl rfl (by rfl) rfl rfl ?_ | refine r_nilCheck0 rfl ?_)) | (refine is_q ?_; (first | refine q_ev rfl rfl ?_ | refine q_v rfl (val_fieldAddr rfl) ?_ | refine q_v rfl (val_len_str rfl) ?_ | refine q_v rfl (val_len_sl rfl) ?_ | refine q_v rfl (val_loadB1 0 rfl rfl rfl) ?_ | refine q_v rfl (val_loadB1 1 rfl rfl rfl) ?_ | refine q_v rfl (val_loadB1 2 rfl rfl rfl) ?_ | refine q_v rfl (val_loadB1 3 rfl rfl rfl) ?_ | refine q_v rfl (val_loadB 0 rfl rfl (by rfl)) ?_ | refine q_v rfl (val_loadB 1 rfl rfl (by rfl)) ?_ | refine q_v rfl (val_loadB 2 rfl rfl (by rfl)) ?_ | refine q_v rfl (val_loadB 3 rfl rfl (by rfl)) ?_ | refine q_v rfl (val_build rfl (by rfl)) ?_)) | (refine is_qg ?_; (first | refine q_tev rfl rfl rfl ?_ | refine q_pass rfl rfl rfl ?_ | refine q_take rfl ?_ | refine q_passU rfl rfl ?_ | refine q_gdec rfl rfl (fun h => ?_) (fun h => ?_) | refine q_gbool rfl rfl (fun h => ?_) (fun h => ?_))) | (refine is_qn ?_; (first | refine q_end ?_)) | refine r_fin_n ?_)
 ·exact r_ret1 [] rfl rfl (by simp) ⟨vb (by simp [inner, *]), rfl, rfl⟩
 ·exact r_ret1 [] rfl rfl (by simp) ⟨vb (by simp [inner, *]; omega), rfl, rfl⟩

theorem word_spec (g : Ghost) (s : Bytes) (hs : s.length ≤ 9223372036854775807) : Pure Tryz.prog 170 [str s] g (.bool (isWord s)) := by
 refine spec_of_run Tryz.func170 rfl Tryz.ntmps170 rfl fun E hE => ?_
 refine r_sr <| r_ev rfl rfl <| r_nn <| r_seq <| r_sr <| r_ev rfl rfl <| r_nn <| r_block ?_
 refine r_loop (ι := Nat) (fun k => [(0, str s), (3, .int .i64 k)]) (fun _ => g) (fun _ => []) (fun k => k ≤ s.length ∧ (s.take k).all inner = true) (fun k => s.length - k) 0 ⟨by omega, by simp⟩ ⟨rfl, rfl, trivial⟩ rfl rfl ?_
 rintro k ⟨hk, hall⟩
 refine r_seq <| r_sr <| r_ev rfl rfl <| r_ev rfl rfl <| r_len_str rfl rfl <| r_ev rfl rfl <| r_nn ?_
 refine r_cond rfl (fun hlt => ?_) (fun hge => ?_)
 ·have hlt' : k < s.length := by omega
  refine r_skip <| r_then_normal <| r_seq <| r_block <| r_sr <| r_ev rfl rfl <| r_ev rfl rfl ?_
  refine r_index_str rfl rfl rfl rfl hlt' ?_
  skip
  refine r_callP rfl rfl (inner_spec g _) ?_
  repeat' (first | (refine is_w ?_; (first | refine r_ev rfl rfl ?_ | refine r_len_str rfl rfl ?_ | refine r_len_sl rfl rfl ?_ | refine r_fieldAddr rfl rfl ?_ | refine r_loadB1 0 rfl rfl rfl rfl ?_ | refine r_loadB1 1 rfl rfl rfl rfl ?_ | refine r_loadB1 2 rfl rfl rfl rfl ?_ | refine r_loadB1 3 rfl rfl rfl rfl ?_ | refine r_loadB 0 rfl rfl rfl (by rfl) ?_ | refine r_loadB 1 rfl rfl rfl (by rfl) ?_ | refine r_loadB 2 rfl rfl rfl (by rfl) ?_ | refine r_loadB 3 rfl rfl rfl (by rfl) ?_ | refine r_build rfl rfl (by rfl) ?_ | refine r_neq_nil_held rfl rfl ?_ | refine r_neq_nil_nil rfl rfl ?_ | refine r_eql_nil_held rfl rfl ?_ | refine r_eql_nil_nil rfl rfl ?_ | refine r_mkIface rfl rfl ?_ | refine r_min rfl rfl rfl ?_ | refine r_max rfl rfl rfl ?_ | refine r_conv_str rfl rfl ?_ | refine r_makeFunc rfl rfl rfl ?_ | refine r_alloc rfl (fun b => ?_) | refine r_box rfl rfl rfl (fun b => ?_))) | (refine is_g ?_; (first | refine r_tev rfl rfl rfl ?_ | refine r_pass rfl rfl rfl ?_ | refine r_take rfl ?_ | refine r_passU rfl rfl ?_ | refine r_pass0 rfl rfl ?_ | refine r_gdec rfl rfl (fun h => ?_) (fun h => ?_) | refine r_gbool rfl rfl (fun h => ?_) (fun h => ?_))) | (refine is_n ?_; (first | refine r_nn ?_ | refine r_nil ?_)) | (refine is_c ?_; (first | refine r_sr ?_ | refine r_seq ?_ | refine r_region ?_ | refine r_cond_true rfl ?_ | refine r_cond_false rfl ?_ | refine r_retc ?_ | refine r_block ?_ | refine r_exit ?_ | refine r_skip ?_ | refine r_cond rfl (fun h => ?_) (fun h => ?_) | refine r_condb rfl (fun h => ?_) (fun h => ?_))) | (refine is_t ?_; (first | refine r_then_normal ?_ | refine r_then_ret ?_ | refine r_then_exit ?_)) | (refine is_b ?_; (first | refine r_in_normal ?_ | refine r_in_ret ?_ | refine r_in_exit ?_ | refine r_in_exit_other rfl ?_)) | (refine is_w0 ?_; (first | refine r_store1 0 rfl rfl rfl rfl rfl rfl ?_ | refine r_store1 1 rfl rfl rfl rfl rfl rfl ?_ | refine r_store1 2 rfl rfl rfl rfl rfl rfl ?_ | refine r_store1 3 rfl rfl rfl rfl rfl rfl ?_ | refine r_storeA 0 rfl rfl rfl rfl (by rfl) rfl rfl ?_ | refine r_storeA 1 rfl rfl rfl rfl (by rfl) rfl rfl ?_ | refine r_storeA 2 rfl rfl rfl rfl (by rfl) rfl rfl ?_ | refine r_storeA 3 rfl rfl rfl rfl (by rfl) rfl rfl ?_ | refine r_nilCheck0 rfl ?_)) | (refine is_q ?_; (first | refine q_ev rfl rfl ?_ | refine q_v rfl (val_fieldAddr rfl) ?_ | refine q_v rfl (val_len_str rfl) ?_ | refine q_v rfl (val_len_sl rfl) ?_ | refine q_v rfl (val_loadB1 0 rfl rfl rfl) ?_ | refine q_v rfl (val_loadB1 1 rfl rfl rfl) ?_ | refine q_v rfl (val_loadB1 2 rfl rfl rfl) ?_ | refine q_v rfl (val_loadB1 3 rfl rfl rfl) ?_ | refine q_v rfl (val_loadB 0 rfl rfl (by rfl)) ?_ | refine q_v rfl (val_loadB 1 rfl rfl (by rfl)) ?_ | refine q_v rfl (val_loadB 2 rfl rfl (by rfl)) ?_ | refine q_v rfl (val_loadB 3 rfl rfl (by rfl)) ?_ | refine q_v rfl (val_build rfl (by rfl)) ?_)) | (refine is_qg ?_; (first | refine q_tev rfl rfl rfl ?_ | refine q_pass rfl rfl rfl ?_ | refine q_take rfl ?_ | refine q_passU rfl rfl ?_ | refine q_gdec rfl rfl (fun h => ?_) (fun h => ?_) | refine q_gbool rfl rfl (fun h => ?_) (fun h => ?_))) | (refine is_qn ?_; (first | refine q_end ?_)) | refine r_fin_n ?_)
  ·skip
   exact r_ret1 [] rfl rfl (by simp) ⟨vb (by simp only [isWord]; simp at h; have hm := List.getElem_mem hlt'; simp; intro hx; rw [hx _ hm] at h; cases h), rfl, rfl⟩
  ·skip
   refine r_add rfl rfl rfl (by omega) ?_
   refine r_ev rfl rfl <| r_nn ?_
   exact r_again (k + 1) ⟨by omega, by rw [all_take_succ hlt', hall]; simpa using h⟩ (by omega) ⟨rfl, rfl, trivial⟩ rfl rfl
 ·refine r_exit <| r_then_exit <| r_then_exit <| r_in_exit <| r_then_normal <| r_sr <| r_ev rfl rfl <| r_ev rfl rfl <| r_ev rfl rfl <| r_nn <| r_retc ?_
  have hks : k = s.length := by omega
  subst hks
  rw [List.take_length] at hall
  exact r_ret1 [] rfl rfl (by simp) ⟨vb (by simp [isWord, hall]), rfl, rfl⟩

theorem keyword_spec (g : Ghost) (s : Bytes) : Pure Tryz.prog 131 [str s] g (.bool (isKeyword s)) := by
 refine spec_of_run Tryz.func131 rfl Tryz.ntmps131 rfl fun E hE => ?_
 refine r_sr <| r_ev rfl rfl <| r_nn <| r_sr ?_
 refine r_buildSlice rfl rfl (by rfl) (by rfl) (by rfl) (by rfl) (by rfl) (fun b => ?_)
 refine r_ev rfl rfl <| r_nn <| r_seq <| r_sr <| r_ev rfl rfl <| r_nn <| r_block ?_
 refine r_loop (ι := Nat) (fun k => [(0, str s), (3, .slice (some ⟨b, 0, none⟩) 7 7), (4, .int .i64 k)]) (fun _ => g) (fun _ => [.row 9 1 (.slice (some ⟨b, 0, none⟩) 7 7) 7 (keywords.map str)]) (fun k => k ≤ 7 ∧ ∀ j, j < k → keywords[j]? ≠ some s) (fun k => 7 - k) 0 ⟨by omega, by simp⟩ ⟨rfl, rfl, rfl, trivial⟩ rfl rfl ?_
 rintro k ⟨hk, hall⟩
 refine r_seq <| r_sr <| r_ev rfl rfl <| r_ev rfl rfl <| r_len_sl rfl rfl <| r_ev rfl rfl <| r_nn ?_
 refine r_cond rfl (fun hlt => ?_) (fun hge => ?_)
 ·have hlt' : k < 7 := by omega
  have hlk : k < keywords.length := hlt'
  refine r_skip <| r_then_normal <| r_seq <| r_block <| r_sr <| r_ev rfl rfl <| r_ev rfl rfl ?_
  refine r_indexAddr rfl rfl rfl rfl hlt' ?_
  refine r_load1 rfl rfl (v := str keywords[k]) (rd_row1 0 rfl (by simp [hlk])) ?_
  repeat' (first | (refine is_w ?_; (first | refine r_ev rfl rfl ?_ | refine r_len_str rfl rfl ?_ | refine r_len_sl rfl rfl ?_ | refine r_fieldAddr rfl rfl ?_ | refine r_loadB1 0 rfl rfl rfl rfl ?_ | refine r_loadB1 1 rfl rfl rfl rfl ?_ | refine r_loadB1 2 rfl rfl rfl rfl ?_ | refine r_loadB1 3 rfl rfl rfl rfl ?_ | refine r_loadB 0 rfl rfl rfl (by rfl) ?_ | refine r_loadB 1 rfl rfl rfl (by rfl) ?_ | refine r_loadB 2 rfl rfl rfl (by rfl) ?_ | refine r_loadB 3 rfl rfl rfl (by rfl) ?_ | refine r_build rfl rfl (by rfl) ?_ | refine r_neq_nil_held rfl rfl ?_ | refine r_neq_nil_nil rfl rfl ?_ | refine r_eql_nil_held rfl rfl ?_ | refine r_eql_nil_nil rfl rfl ?_ | refine r_mkIface rfl rfl ?_ | refine r_min rfl rfl rfl ?_ | refine r_max rfl rfl rfl ?_ | refine r_conv_str rfl rfl ?_ | refine r_makeFunc rfl rfl rfl ?_ | refine r_alloc rfl (fun b => ?_) | refine r_box rfl rfl rfl (fun b => ?_))) | (refine is_g ?_; (first | refine r_tev rfl rfl rfl ?_ | refine r_pass rfl rfl rfl ?_ | refine r_take rfl ?_ | refine r_passU rfl rfl ?_ | refine r_pass0 rfl rfl ?_ | refine r_gdec rfl rfl (fun h => ?_) (fun h => ?_) | refine r_gbool rfl rfl (fun h => ?_) (fun h => ?_))) | (refine is_n ?_; (first | refine r_nn ?_ | refine r_nil ?_)) | (refine is_c ?_; (first | refine r_sr ?_ | refine r_seq ?_ | refine r_region ?_ | refine r_cond_true rfl ?_ | refine r_cond_false rfl ?_ | refine r_retc ?_ | refine r_block ?_ | refine r_exit ?_ | refine r_skip ?_ | refine r_cond rfl (fun h => ?_) (fun h => ?_) | refine r_condb rfl (fun h => ?_) (fun h => ?_))) | (refine is_t ?_; (first | refine r_then_normal ?_ | refine r_then_ret ?_ | refine r_then_exit ?_)) | (refine is_b ?_; (first | refine r_in_normal ?_ | refine r_in_ret ?_ | refine r_in_exit ?_ | refine r_in_exit_other rfl ?_)) | (refine is_w0 ?_; (first | refine r_store1 0 rfl rfl rfl rfl rfl rfl ?_ | refine r_store1 1 rfl rfl rfl rfl rfl rfl ?_ | refine r_store1 2 rfl rfl rfl rfl rfl rfl ?_ | refine r_store1 3 rfl rfl rfl rfl rfl rfl ?_ | refine r_storeA 0 rfl rfl rfl rfl (by rfl) rfl rfl ?_ | refine r_storeA 1 rfl rfl rfl rfl (by rfl) rfl rfl ?_ | refine r_storeA 2 rfl rfl rfl rfl (by rfl) rfl rfl ?_ | refine r_storeA 3 rfl rfl rfl rfl (by rfl) rfl rfl ?_ | refine r_nilCheck0 rfl ?_)) | (refine is_q ?_; (first | refine q_ev rfl rfl ?_ | refine q_v rfl (val_fieldAddr rfl) ?_ | refine q_v rfl (val_len_str rfl) ?_ | refine q_v rfl (val_len_sl rfl) ?_ | refine q_v rfl (val_loadB1 0 rfl rfl rfl) ?_ | refine q_v rfl (val_loadB1 1 rfl rfl rfl) ?_ | refine q_v rfl (val_loadB1 2 rfl rfl rfl) ?_ | refine q_v rfl (val_loadB1 3 rfl rfl rfl) ?_ | refine q_v rfl (val_loadB 0 rfl rfl (by rfl)) ?_ | refine q_v rfl (val_loadB 1 rfl rfl (by rfl)) ?_ | refine q_v rfl (val_loadB 2 rfl rfl (by rfl)) ?_ | refine q_v rfl (val_loadB 3 rfl rfl (by rfl)) ?_ | refine q_v rfl (val_build rfl (by rfl)) ?_)) | (refine is_qg ?_; (first | refine q_tev rfl rfl rfl ?_ | refine q_pass rfl rfl rfl ?_ | refine q_take rfl ?_ | refine q_passU rfl rfl ?_ | refine q_gdec rfl rfl (fun h => ?_) (fun h => ?_) | refine q_gbool rfl rfl (fun h => ?_) (fun h => ?_))) | (refine is_qn ?_; (first | refine q_end ?_)) | refine r_fin_n ?_)
  ·skip
   exact r_ret1 [] rfl rfl (by simp) ⟨vb (by simp [isKeyword, ← h]), rfl, rfl⟩
  ·skip
   refine r_add rfl rfl rfl (by omega) ?_
   refine r_ev rfl rfl <| r_nn ?_
   refine r_again (k + 1) ⟨by omega, fun j hj => ?_⟩ (by omega) ⟨rfl, rfl, rfl, trivial⟩ rfl rfl
   by_cases hjk : j = k
   ·subst hjk; rw [List.getElem?_eq_getElem hlk]; simpa using h
   ·exact hall j (by omega)
 ·refine r_exit <| r_then_exit <| r_then_exit <| r_in_exit <| r_then_normal <| r_sr <| r_ev rfl rfl <| r_nn <| r_retc ?_
  refine r_ret1 [] rfl rfl (by simp) ⟨vb ?_, rfl, rfl⟩
  have hk7 : k = 7 := by omega
  subst hk7
  simp only [isKeyword]
  simp
  intro hm
  obtain ⟨j, hj, he⟩ := List.getElem_of_mem hm
  exact hall j hj (by rw [List.getElem?_eq_getElem hj, he])

theorem headD_eq {s : Bytes} (h : 0 < s.length) : (List.head? s).getD 0 = s[0] := by
 cases s with
 | nil => simp at h
 | cons a l => rfl
theorem headD_eq' {s : Bytes} (h : 0 < s.length) : s.headD 0 = s[0] := by
 cases s with
 | nil => simp at h
 | cons a l => rfl
theorem word_pos {s : Bytes} (h : isWord s = true) : 0 < s.length := by
 cases s with
 | nil => simp [isWord] at h
 | cons => simp

theorem Lower_spec (g : Ghost) (s : Bytes) (hs : s.length ≤ 9223372036854775807) : Pure Tryz.prog 132 [str s] g (.bool (isLower s)) := by
 refine spec_of_run Tryz.func132 rfl Tryz.ntmps132 rfl fun E hE => ?_
 refine r_sr <| r_ev rfl rfl <| r_nn <| r_sr <| r_ev rfl rfl ?_
 refine r_callP rfl rfl (word_spec g s hs) ?_
 refine r_ev rfl rfl ?_
 refine r_gbool rfl rfl (fun hw => ?_) (fun hw => ?_)
 ·have hpos := word_pos hw
  have hh := headD_eq hpos
  refine r_tev rfl rfl rfl <| r_take rfl ?_
  refine r_index_str (j := 0) rfl rfl rfl rfl hpos ?_
  refine r_take rfl ?_
  refine r_callP rfl rfl (lower_spec g _) ?_
  refine r_ev rfl rfl <| r_ev rfl rfl ?_
  refine r_gbool rfl rfl (fun hl => ?_) (fun hl => ?_)
  ·refine r_tev rfl rfl rfl <| r_take rfl <| r_len_str rfl rfl <| r_tev rfl rfl rfl <| r_ev rfl rfl <| r_ev rfl rfl ?_
   refine r_gdec rfl rfl (fun h12 => ?_) (fun h12 => ?_)
   ·refine r_tev rfl rfl rfl <| r_take rfl ?_
    refine r_callP rfl rfl (keyword_spec g s) ?_
    refine r_tev rfl rfl rfl <| r_ev rfl rfl <| r_ev rfl rfl <| r_nn <| r_retc ?_
    exact r_ret1 [] rfl rfl (by simp) ⟨vb (by simp [isLower, *]; intros; omega), rfl, rfl⟩
   ·refine r_pass rfl rfl rfl <| r_pass rfl rfl rfl <| r_pass rfl rfl rfl <| r_ev rfl rfl <| r_ev rfl rfl <| r_nn <| r_retc ?_
    exact r_ret1 [] rfl rfl (by simp) ⟨vb (by simp [isLower]; intros; omega), rfl, rfl⟩
  ·refine r_pass rfl rfl rfl <| r_pass rfl rfl rfl <| r_pass rfl rfl rfl <| r_ev rfl rfl <| r_ev rfl rfl <| r_pass rfl rfl rfl <| r_pass rfl rfl rfl <| r_pass rfl rfl rfl <| r_ev rfl rfl <| r_ev rfl rfl <| r_nn <| r_retc ?_
   exact r_ret1 [] rfl rfl (by simp) ⟨vb (by simp [isLower, *]), rfl, rfl⟩
 ·refine r_pass rfl rfl rfl <| r_pass rfl rfl rfl <| r_pass rfl rfl rfl <| r_ev rfl rfl <| r_ev rfl rfl <| r_pass rfl rfl rfl <| r_pass rfl rfl rfl <| r_pass rfl rfl rfl <| r_ev rfl rfl <| r_ev rfl rfl <| r_pass rfl rfl rfl <| r_pass rfl rfl rfl <| r_pass rfl rfl rfl <| r_ev rfl rfl ?_; refine r_ev rfl rfl <| r_nn <| r_retc ?_
  exact r_ret1 [] rfl rfl (by simp) ⟨vb (by simp [isLower, hw]), rfl, rfl⟩
theorem Upper_spec (g : Ghost) (s : Bytes) (hs : s.length ≤ 9223372036854775807) : Pure Tryz.prog 133 [str s] g (.bool (isUpper s)) := by
 refine spec_of_run Tryz.func133 rfl Tryz.ntmps133 rfl fun E hE => ?_
 refine r_sr <| r_ev rfl rfl <| r_nn <| r_sr <| r_ev rfl rfl ?_
 refine r_callP rfl rfl (word_spec g s hs) ?_
 refine r_ev rfl rfl ?_
 refine r_gbool rfl rfl (fun hw => ?_) (fun hw => ?_)
 ·have hpos := word_pos hw
  have hh := headD_eq hpos
  refine r_tev rfl rfl rfl <| r_take rfl ?_
  refine r_index_str (j := 0) rfl rfl rfl rfl hpos ?_
  refine r_take rfl ?_
  refine r_callP rfl rfl (upper_spec g _) ?_
  refine r_ev rfl rfl <| r_ev rfl rfl ?_
  refine r_gbool rfl rfl (fun hl => ?_) (fun hl => ?_)
  ·refine r_tev rfl rfl rfl <| r_take rfl <| r_len_str rfl rfl <| r_tev rfl rfl rfl <| r_ev rfl rfl <| r_ev rfl rfl <| r_nn <| r_retc ?_
   exact r_ret1 [] rfl rfl (by simp) ⟨vb (by simp [isUpper, *]; omega), rfl, rfl⟩
  ·refine r_pass rfl rfl rfl <| r_pass rfl rfl rfl <| r_pass rfl rfl rfl <| r_ev rfl rfl <| r_ev rfl rfl <| r_nn <| r_retc ?_
   exact r_ret1 [] rfl rfl (by simp) ⟨vb (by simp [isUpper, *]), rfl, rfl⟩
 ·refine r_pass rfl rfl rfl <| r_pass rfl rfl rfl <| r_pass rfl rfl rfl <| r_ev rfl rfl <| r_ev rfl rfl <| r_pass rfl rfl rfl <| r_pass rfl rfl rfl <| r_pass rfl rfl rfl <| r_ev rfl rfl <| r_ev rfl rfl <| r_nn <| r_retc ?_
  exact r_ret1 [] rfl rfl (by simp) ⟨vb (by simp [isUpper, hw]), rfl, rfl⟩
theorem Integer_spec (g : Ghost) (s : Bytes) (hs : s.length ≤ 9223372036854775807) : Pure Tryz.prog 134 [str s] g (.bool (isInteger s)) := by
 refine spec_of_run Tryz.func134 rfl Tryz.ntmps134 rfl fun E hE => ?_
 refine r_sr ?_
 refine r_ev rfl rfl <| r_nn ?_
 refine r_cut [(0, str s)] (s.isEmpty = false ∧ s.length ≤ 9 ∧ ¬ ((s.headD 0).toNat = 48 ∧ 1 < s.length)) ?_ ?_
 ·rintro ⟨h1, h2, h3⟩
  refine r_seq <| r_sr <| r_ev rfl rfl <| r_nn <| r_block ?_
  refine r_loop (ι := Nat) (fun k => [(0, str s), (3, .int .i64 k)]) (fun _ => g) (fun _ => []) (fun k => k ≤ s.length ∧ (s.take k).all digit = true) (fun k => s.length - k) 0 ⟨by omega, by simp⟩ ⟨rfl, rfl, trivial⟩ rfl rfl ?_
  rintro k ⟨hk, hall⟩
  refine r_seq <| r_sr <| r_ev rfl rfl <| r_ev rfl rfl <| r_len_str rfl rfl <| r_ev rfl rfl <| r_nn ?_
  refine r_cond rfl (fun hlt => ?_) (fun hlt => ?_)
  ·have hlt' : k < s.length := by omega
   refine r_skip <| r_then_normal <| r_seq <| r_block <| r_sr <| r_ev rfl rfl <| r_ev rfl rfl ?_
   refine r_index_str rfl rfl rfl rfl hlt' ?_
   skip
   refine r_callP rfl rfl (digit_spec g _) ?_
   refine r_ev rfl rfl <| r_nn ?_
   refine r_condb rfl (fun h => ?_) (fun h => ?_)
   ·refine r_sr <| r_ev rfl rfl <| r_nn <| r_retc <| r_in_ret <| r_then_ret <| r_then_ret <| r_in_ret <| r_then_ret ?_
    exact r_ret1 [] rfl rfl (by simp) ⟨vb (by simp only [isInteger]; simp at h; have hm := List.getElem_mem hlt'; simp; intros; exact ⟨_, hm, h⟩), rfl, rfl⟩
   ·refine r_skip <| r_in_normal <| r_then_normal <| r_region <| r_ev rfl rfl ?_
    refine r_add rfl rfl rfl (by omega) ?_
    refine r_ev rfl rfl <| r_nn ?_
    exact r_again (k + 1) ⟨by omega, by rw [all_take_succ hlt', hall]; simpa using h⟩ (by omega) ⟨rfl, rfl, trivial⟩ rfl rfl
  ·refine r_exit <| r_then_exit <| r_then_exit <| r_in_exit <| r_then_normal <| r_sr <| r_ev rfl rfl <| r_nn <| r_retc ?_
   have hks : k = s.length := by omega
   subst hks
   rw [List.take_length] at hall
   exact r_ret1 [] rfl rfl (by simp) ⟨vb (by simp only [isInteger, h1, h2, hall]; simp; simp at h3; by_cases hx : ((List.head? s).getD 0).toNat = 48; exact .inr (h3 hx); exact .inl hx), rfl, rfl⟩
 ·intro K hK
  refine r_sr <| r_ev rfl rfl <| r_ev rfl rfl <| r_ev rfl rfl ?_
  refine r_gdec rfl rfl (fun h0 => ?_) (fun h0 => ?_)
  ·refine r_pass rfl rfl rfl <| r_pass rfl rfl rfl <| r_pass rfl rfl rfl <| r_ev rfl rfl <| r_ev rfl rfl <| r_pass rfl rfl rfl <| r_pass rfl rfl rfl <| r_pass rfl rfl rfl <| r_pass rfl rfl rfl <| r_passU rfl rfl <| r_passU rfl rfl <| r_passU rfl rfl <| r_pass rfl rfl rfl <| r_ev rfl rfl ?_; refine r_nn <| r_cond_true rfl <| r_sr <| r_ev rfl rfl <| r_nn <| r_retc <| r_then_ret ?_
   subst h0
   exact r_ret1 [] rfl rfl (by simp) ⟨vb (by simp [isInteger]), rfl, rfl⟩
  ·have hpos : 0 < s.length := by
    cases s with
    | nil => exact absurd rfl h0
    | cons => simp
   have hh := headD_eq hpos
   have hne : s.isEmpty = false := by cases s with
    | nil => exact absurd rfl h0
    | cons => rfl
   refine r_tev rfl rfl rfl <| r_take rfl <| r_len_str rfl rfl <| r_tev rfl rfl rfl <| r_ev rfl rfl <| r_ev rfl rfl ?_
   refine r_gdec rfl rfl (fun h9 => ?_) (fun h9 => ?_)
   ·refine r_pass rfl rfl rfl <| r_pass rfl rfl rfl <| r_pass rfl rfl rfl <| r_pass rfl rfl rfl <| r_passU rfl rfl <| r_passU rfl rfl <| r_passU rfl rfl <| r_pass rfl rfl rfl <| r_ev rfl rfl <| r_nn <| r_cond_true rfl <| r_sr <| r_ev rfl rfl <| r_nn ?_; refine r_retc <| r_then_ret ?_
    exact r_ret1 [] rfl rfl (by simp) ⟨vb (by simp [isInteger, hne]; intros; omega), rfl, rfl⟩
   ·refine r_tev rfl rfl rfl <| r_take rfl ?_
    refine r_index_str (j := 0) rfl rfl rfl rfl hpos ?_
    refine r_tev rfl rfl rfl <| r_tev rfl rfl rfl ?_
    refine r_gdec rfl rfl (fun h48 => ?_) (fun h48 => ?_)
    ·refine r_tev rfl rfl rfl <| r_take rfl <| r_len_str rfl rfl <| r_tev rfl rfl rfl <| r_tev rfl rfl rfl <| r_ev rfl rfl <| r_nn ?_
     refine r_cond rfl (fun h1 => ?_) (fun h1 => ?_)
     ·refine r_sr <| r_ev rfl rfl <| r_nn <| r_retc <| r_then_ret ?_
      exact r_ret1 [] rfl rfl (by simp) ⟨vb (by simp [isInteger, hh]; intros; omega), rfl, rfl⟩
     ·refine r_skip <| r_then_normal ?_
      exact hK _ ⟨hne, by omega, fun hx => by have h5 := hx.1; rw [headD_eq' hpos] at h5; have h6 := hx.2; omega⟩ ⟨rfl, trivial⟩
    ·refine r_pass rfl rfl rfl <| r_pass rfl rfl rfl <| r_pass rfl rfl rfl <| r_tev rfl rfl rfl <| r_ev rfl rfl <| r_nn <| r_cond_false rfl <| r_skip <| r_then_normal ?_
     exact hK _ ⟨hne, by omega, fun hx => by have h5 := hx.1; rw [headD_eq' hpos] at h5; have h6 := hx.2; omega⟩ ⟨rfl, trivial⟩
theorem mark_spec (g : Ghost) (s : Bytes) : Pure Tryz.prog 135 [str s] g (.bool (isMark s)) := by
 refine spec_of_run Tryz.func135 rfl Tryz.ntmps135 rfl fun E hE => ?_
 refine r_sr <| r_ev rfl rfl <| r_nn <| r_seq <| r_sr <| r_ev rfl rfl <| r_ev rfl rfl <| r_nn ?_
 refine r_cond rfl (fun h0 => ?_) (fun h0 => ?_)
 ·refine r_sr <| r_ev rfl rfl <| r_nn <| r_retc <| r_then_ret ?_
  exact r_ret1 [] rfl rfl (by simp) ⟨vb (by simp [isMark, h0]), rfl, rfl⟩
 ·refine r_skip <| r_then_normal <| r_seq <| r_sr <| r_ev rfl rfl <| r_nn <| r_block ?_
  refine r_loop (ι := Nat) (fun k => [(0, str s), (3, .int .i64 k)]) (fun _ => g) (fun _ => []) (fun k => k ≤ 11 ∧ ∀ c ∈ markBytes.take k, s ≠ [c]) (fun k => 11 - k) 0 ⟨by omega, by simp⟩ ⟨rfl, rfl, trivial⟩ rfl rfl ?_
  rintro k ⟨hk, hall⟩
  refine r_seq <| r_sr <| r_ev rfl rfl <| r_ev rfl rfl <| r_nn ?_
  refine r_cond rfl (fun hlt => ?_) (fun hlt => ?_)
  ·have hlt' : k < 11 := by omega
   have hkl : k < markBytes.length := hlt'
   refine r_skip <| r_then_normal <| r_seq <| r_block <| r_sr <| r_ev rfl rfl <| r_ev rfl rfl <| r_ev rfl rfl ?_
   refine r_add rfl rfl rfl (by omega) ?_
   refine r_slice_str (l := markBytes) (p := k) (q := k + 1) rfl rfl ⟨_, _, rfl, rfl⟩ ⟨_, _, rfl, by omega⟩ (by omega) hlt' ?_
   have hone : (markBytes.take (k + 1)).drop k = [markBytes[k]] := by
    rw [List.take_succ_eq_append_getElem hkl, List.drop_append_of_le_length (by simp; omega)]
    simp
   rw [hone]
   refine r_ev rfl rfl <| r_nn ?_
   refine r_cond rfl (fun h => ?_) (fun h => ?_)
   ·refine r_sr <| r_ev rfl rfl <| r_nn <| r_retc <| r_in_ret <| r_then_ret <| r_then_ret <| r_in_ret <| r_then_ret ?_
    exact r_ret1 [] rfl rfl (by simp) ⟨vb (by simp [isMark]; exact .inr ⟨_, List.getElem_mem hkl, h⟩), rfl, rfl⟩
   ·refine r_skip <| r_in_normal <| r_then_normal <| r_region <| r_ev rfl rfl ?_
    refine r_add rfl rfl rfl (by omega) ?_
    refine r_ev rfl rfl <| r_nn ?_
    refine r_again (k + 1) ⟨by omega, fun c hc => ?_⟩ (by omega) ⟨rfl, rfl, trivial⟩ rfl rfl
    rw [List.take_succ_eq_append_getElem hkl, List.mem_append] at hc
    rcases hc with hc | hc
    ·exact hall c hc
    ·simp only [List.mem_singleton] at hc; subst hc; exact h
  ·refine r_exit <| r_then_exit <| r_then_exit <| r_in_exit <| r_then_normal <| r_sr <| r_ev rfl rfl <| r_nn <| r_retc ?_
   have hk11 : k = 11 := by omega
   subst hk11
   have ht : markBytes.take 11 = markBytes := rfl
   rw [ht] at hall
   exact r_ret1 [] rfl rfl (by simp) ⟨vb (by simp [isMark, h0]; exact hall), rfl, rfl⟩
theorem Kind_spec (g : Ghost) (s : Bytes) (hs : s.length ≤ 9223372036854775807) : Pure Tryz.prog 91 [str s] g (.int .i64 (kindOf s)) := by
 refine spec_of_run Tryz.func91 rfl Tryz.ntmps91 rfl fun E hE => ?_
 refine r_sr <| r_ev rfl rfl <| r_nn <| r_seq <| r_block <| r_sr <| r_ev rfl rfl ?_
 refine r_callP rfl rfl (keyword_spec g s) ?_
 refine r_ev rfl rfl <| r_nn ?_
 refine r_condb rfl (fun h1 => ?_) (fun h1 => ?_)
 ·refine r_sr <| r_ev rfl rfl <| r_nn <| r_retc <| r_in_ret <| r_then_ret ?_
  exact r_ret1 [] rfl rfl (by simp) ⟨vi (by simp [kindOf, *]), rfl, rfl⟩
 refine r_sr <| r_ev rfl rfl ?_
 refine r_callP rfl rfl (Lower_spec g s hs) ?_
 refine r_ev rfl rfl <| r_nn ?_
 refine r_condb rfl (fun h2 => ?_) (fun h2 => ?_)
 ·refine r_sr <| r_ev rfl rfl <| r_nn <| r_retc <| r_in_ret <| r_then_ret ?_
  exact r_ret1 [] rfl rfl (by simp) ⟨vi (by simp [kindOf, *]), rfl, rfl⟩
 refine r_sr <| r_ev rfl rfl ?_
 refine r_callP rfl rfl (Upper_spec g s hs) ?_
 refine r_ev rfl rfl <| r_nn ?_
 refine r_condb rfl (fun h3 => ?_) (fun h3 => ?_)
 ·refine r_sr <| r_ev rfl rfl <| r_nn <| r_retc <| r_in_ret <| r_then_ret ?_
  exact r_ret1 [] rfl rfl (by simp) ⟨vi (by simp [kindOf, *]), rfl, rfl⟩
 refine r_sr <| r_ev rfl rfl ?_
 refine r_callP rfl rfl (Integer_spec g s hs) ?_
 refine r_ev rfl rfl <| r_nn ?_
 refine r_condb rfl (fun h4 => ?_) (fun h4 => ?_)
 ·refine r_sr <| r_ev rfl rfl <| r_nn <| r_retc <| r_in_ret <| r_then_ret ?_
  exact r_ret1 [] rfl rfl (by simp) ⟨vi (by simp [kindOf, *]), rfl, rfl⟩
 refine r_sr <| r_ev rfl rfl ?_
 refine r_callP rfl rfl (mark_spec g s) ?_
 refine r_ev rfl rfl <| r_nn ?_
 refine r_condb rfl (fun h5 => ?_) (fun h5 => ?_)
 ·refine r_sr <| r_ev rfl rfl <| r_nn <| r_retc <| r_in_ret <| r_then_ret ?_
  exact r_ret1 [] rfl rfl (by simp) ⟨vi (by simp [kindOf, *]), rfl, rfl⟩
 ·refine r_skip <| r_in_normal <| r_then_normal <| r_sr <| r_ev rfl rfl <| r_nn <| r_retc ?_
  exact r_ret1 [] rfl rfl (by simp) ⟨vi (by simp [kindOf, *]), rfl, rfl⟩
end Go.Proofs.YtpjehhnaojjanaaGreatDoor
-- sum 210665afa0acb524


/- The walks of the reference of chapter 2, second part: Mod, Valid, Scan, Join. -/
namespace Go.Proofs.YtpjehhnaojjanaaGreatDoor
open Go Go.Eng Go.Th Go.Proofs
set_option maxRecDepth 10000
set_option maxHeartbeats 4000000
attribute [local irreducible] wpList Code.wp Run bodyPost Go.Eng.Ends Exit.then Exit.inBlock Again Wq Kq
def tokCells (t : Tok) : List Value := [.int .i64 t.kind, str t.text, .int .i64 t.pos]
@[reducible] def tokV (t : Tok) : Value := .agg #[.int .i64 t.kind, str t.text, .int .i64 t.pos]
theorem tokCells_len (t : Tok) : (tokCells t).length = 3 := rfl

end Go.Proofs.YtpjehhnaojjanaaGreatDoor
-- sum 2dd3be15207b247a


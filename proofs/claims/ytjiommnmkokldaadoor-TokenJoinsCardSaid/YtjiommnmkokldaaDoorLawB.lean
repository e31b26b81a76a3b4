/- The walks of the laws of chapter 2: the helpers. -/
import Derived.Test.YtjiommnmkokldaaDoorTokB
namespace Go.Proofs.YtjiommnmkokldaaDoor
open Go Go.Eng Go.Th Go.Proofs
set_option maxRecDepth 10000
attribute [local irreducible] wpList Code.wp Run bodyPost Go.Eng.Ends Exit.then Exit.inBlock Again Wq Kq
def sameT (a b : List Tok) (p : Bool) : Bool := decide (a.length = b.length) && (List.zip a b).all fun t => decide (t.1.kind = t.2.kind) && decide (t.1.text = t.2.text) && (!p || decide (t.1.pos = t.2.pos))
theorem tfirst_spec (g : Ghost) : Pure Tryd.prog 29 [] g (.bool true) := by
  refine spec_of_run Tryd.func29 rfl Tryd.ntmps29 rfl fun E hE => ?_
  refine r_sr ?_; refine r_ev rfl rfl ?_; refine r_nn ?_; refine r_sr ?_
  refine r_call rfl rfl (tScan_spec g [92, 120, 46, 120] (by decide)) ?_
  rintro v g' own' ⟨rfl, hp⟩ hle
  rw [show scan [92, 120, 46, 120] = .ok [⟨5, [92], 0⟩, ⟨1, [120], 1⟩, ⟨5, [46], 2⟩, ⟨1, [120], 3⟩] from by rfl] at hp
  obtain ⟨sv, rfl, rfl⟩ := hp
  refine r_publishRow (fun g1 hg1 hs => ?_)
  obtain ⟨b, off, cap, rfl, hx⟩ := hs.held (j := 0) (by decide)
  refine r_ev rfl rfl ?_; refine r_ev rfl rfl ?_; refine r_ev rfl rfl ?_; refine r_alloc rfl (fun b => ?_); refine r_ev rfl rfl ?_; refine r_storeA 0 rfl rfl rfl rfl (by rfl) rfl rfl ?_; refine r_nn ?_; refine r_sr ?_
  refine r_call rfl rfl (tScan_spec g1 [48, 49] (by decide)) ?_
  rintro v g' own' ⟨rfl, hp⟩ hle2
  rw [show scan [48, 49] = .bad 2 0 from by rfl] at hp
  obtain ⟨rfl, rfl⟩ := hp
  refine r_ev rfl rfl ?_; refine r_ev rfl rfl ?_; refine r_ev rfl rfl ?_; refine r_alloc rfl (fun b => ?_); refine r_ev rfl rfl ?_; refine r_storeA 0 rfl rfl rfl rfl (by rfl) rfl rfl ?_; refine r_nn ?_; refine r_sr ?_; refine r_fieldAddr rfl rfl ?_; refine r_loadB1 1 rfl rfl rfl rfl ?_; refine r_ev rfl rfl ?_; refine r_ev rfl rfl ?_; refine r_tev rfl rfl rfl ?_; refine r_take rfl ?_; refine r_len_sl rfl rfl ?_; refine r_tev rfl rfl rfl ?_; refine r_ev rfl rfl ?_; refine r_ev rfl rfl ?_; refine r_tev rfl rfl rfl ?_; refine r_take rfl ?_
  refine r_indexAddr (j := 0) rfl rfl rfl rfl (by decide) ?_
  refine r_take rfl ?_; refine r_fieldAddr rfl rfl ?_; refine r_take rfl ?_
  refine r_load1 rfl rfl (rd_g1 (hx 1 _ rfl)) ?_
  refine r_tev rfl rfl rfl ?_; refine r_ev rfl rfl ?_; refine r_ev rfl rfl ?_; refine r_tev rfl rfl rfl ?_; refine r_take rfl ?_
  refine r_indexAddr (j := 0) rfl rfl rfl rfl (by decide) ?_
  refine r_take rfl ?_; refine r_fieldAddr rfl rfl ?_; refine r_take rfl ?_
  refine r_load1 rfl rfl (rd_g1 (hx 0 _ rfl)) ?_
  refine r_tev rfl rfl rfl ?_; refine r_ev rfl rfl ?_; refine r_ev rfl rfl ?_; refine r_tev rfl rfl rfl ?_; refine r_take rfl ?_
  refine r_indexAddr (j := 3) rfl rfl rfl rfl (by decide) ?_
  refine r_take rfl ?_; refine r_fieldAddr rfl rfl ?_; refine r_take rfl ?_
  refine r_load1 rfl rfl (rd_g1 (hx 10 _ rfl)) ?_
  refine r_tev rfl rfl rfl ?_; refine r_ev rfl rfl ?_; refine r_ev rfl rfl ?_; refine r_tev rfl rfl rfl ?_; refine r_take rfl ?_
  refine r_indexAddr (j := 3) rfl rfl rfl rfl (by decide) ?_
  refine r_take rfl ?_; refine r_fieldAddr rfl rfl ?_; refine r_take rfl ?_
  refine r_load1 rfl rfl (rd_g1 (hx 11 _ rfl)) ?_
  refine r_tev rfl rfl rfl ?_; refine r_ev rfl rfl ?_; refine r_ev rfl rfl ?_; refine r_take rfl ?_; refine r_fieldAddr rfl rfl ?_; refine r_take rfl ?_; refine r_loadB1 0 rfl rfl rfl rfl ?_; refine r_tev rfl rfl rfl ?_; refine r_ev rfl rfl ?_; refine r_ev rfl rfl ?_; refine r_take rfl ?_; refine r_fieldAddr rfl rfl ?_; refine r_take rfl ?_; refine r_loadB1 0 rfl rfl rfl rfl ?_; refine r_tev rfl rfl rfl ?_; refine r_ev rfl rfl ?_; refine r_ev rfl rfl ?_; refine r_nn ?_; refine r_retc ?_
  refine r_shrink hE (Ghost.le_trans hg1 hle2) ?_
  exact r_ret1 [] rfl rfl (by simp) ⟨rfl, rfl, rfl⟩
theorem all_bad {p : Tok × Tok → Bool} {la lb : List Tok} {k : Nat} (ha : k < la.length) (hb : k < lb.length) (h : p (la[k], lb[k]) = false) : (List.zip la lb).all p = false := by
  rw [Bool.eq_false_iff]
  intro h2
  have hk : k < (List.zip la lb).length := by simp; omega
  have := List.all_eq_true.1 h2 _ (List.getElem_mem hk)
  rw [List.getElem_zip, h] at this
  cases this
theorem all_next {p : Tok × Tok → Bool} {la lb : List Tok} {k : Nat} (ha : k < la.length) (hb : k < lb.length) : ((List.zip la lb).take (k + 1)).all p = (((List.zip la lb).take k).all p && p (la[k], lb[k])) := by
  have hk : k < (List.zip la lb).length := by simp; omega
  rw [List.take_succ_eq_append_getElem hk, List.all_append, List.getElem_zip]; simp
set_option maxHeartbeats 2000000 in
theorem same_spec (g : Ghost) (va ub : Value) (la lb : List Tok) (p : Bool) (ha : SlAt g 3 va la.length (la.flatMap tokCells)) (hb : SlAt g 3 ub lb.length (lb.flatMap tokCells)) : Pure Tryd.prog 33 [va, ub, .bool p] g (.bool (sameT la lb p)) := by
  refine spec_of_run Tryd.func33 rfl Tryd.ntmps33 rfl fun E hE => ?_
  refine r_sr ?_; refine r_ev rfl rfl ?_; refine r_nn ?_; refine r_seq ?_; refine r_sr ?_; refine r_ev rfl rfl ?_
  refine r_len_at rfl rfl ha ?_
  refine r_ev rfl rfl ?_
  refine r_len_at rfl rfl hb ?_
  refine r_ev rfl rfl ?_; refine r_nn ?_
  refine r_cond rfl (fun hne => ?_) (fun hne => ?_)
  · refine r_sr ?_; refine r_ev rfl rfl ?_; refine r_nn ?_; refine r_retc ?_; refine r_then_ret ?_
    exact r_ret1 [] rfl rfl (by simp) ⟨vb (by simp [sameT]; intros; omega), rfl, rfl⟩
  · have hle : la.length = lb.length := by omega
    refine r_skip ?_; refine r_then_normal ?_; refine r_seq ?_; refine r_sr ?_; refine r_ev rfl rfl ?_; refine r_nn ?_; refine r_block ?_
    refine r_loop (ι := Nat) (fun k => [(0, va), (1, ub), (2, .bool p), (7, .int .i64 k)]) (fun _ => g) (fun _ => []) (fun k => k ≤ la.length ∧ ((List.zip la lb).take k).all (fun t => decide (t.1.kind = t.2.kind) && decide (t.1.text = t.2.text) && (!p || decide (t.1.pos = t.2.pos))) = true) (fun k => la.length - k) 0 ⟨by omega, by simp⟩ ⟨rfl, rfl, rfl, rfl, trivial⟩ rfl rfl ?_
    rintro k ⟨hk, hall⟩
    refine r_seq ?_; refine r_sr ?_; refine r_ev rfl rfl ?_; refine r_ev rfl rfl ?_
    refine r_len_at rfl rfl ha ?_
    refine r_ev rfl rfl ?_; refine r_nn ?_
    refine r_cond rfl (fun hlt => ?_) (fun hlt => ?_)
    · have hka : k < la.length := by omega
      have hkb : k < lb.length := by omega
      have hmx := ha.le
      obtain ⟨ba, oa, ca, rfl, hxa⟩ := ha.held hka
      obtain ⟨b2, ob, cb, rfl, hxb⟩ := hb.held hkb
      refine r_skip ?_; refine r_then_normal ?_; refine r_seq ?_; refine r_block ?_; refine r_seq ?_
      refine r_qregion mixed (by kernel_rfl) ?_
      refine q_ev rfl rfl ?_; refine q_ev rfl rfl ?_
      refine q_v rfl (val_indexAddr (j := k) rfl rfl rfl hka) ?_
      refine q_v rfl (val_fieldAddr rfl) ?_
      refine q_v rfl (val_load1 rfl (SlAt.cell tokCells_len hxa hka 0 rfl)) ?_
      refine q_ev rfl rfl ?_; refine q_ev rfl rfl ?_
      refine q_v rfl (val_indexAddr (j := k) rfl rfl rfl hkb) ?_
      refine q_v rfl (val_fieldAddr rfl) ?_
      refine q_v rfl (val_load1 rfl (SlAt.cell tokCells_len hxb hkb 0 rfl)) ?_
      refine q_ev rfl rfl ?_; refine q_ev rfl rfl ?_
      refine q_gdec rfl rfl (fun hkk => ?_) (fun hkk => ?_)
      · refine q_pass rfl rfl rfl ?_; refine q_pass rfl rfl rfl ?_; refine q_pass rfl rfl rfl ?_; refine q_pass rfl rfl rfl ?_; refine q_pass rfl rfl rfl ?_; refine q_pass rfl rfl rfl ?_; refine q_pass rfl rfl rfl ?_; refine q_pass rfl rfl rfl ?_; refine q_pass rfl rfl rfl ?_; refine q_pass rfl rfl rfl ?_; refine q_pass rfl rfl rfl ?_; refine q_ev rfl rfl ?_; refine q_ev rfl rfl ?_; refine q_pass rfl rfl rfl ?_; refine q_pass rfl rfl rfl ?_; refine q_passU rfl rfl ?_; refine q_passU rfl rfl ?_; refine q_passU rfl rfl ?_; refine q_passU rfl rfl ?_; refine q_passU rfl rfl ?_; refine q_passU rfl rfl ?_; refine q_passU rfl rfl ?_; refine q_passU rfl rfl ?_; refine q_passU rfl rfl ?_; refine q_passU rfl rfl ?_; refine q_passU rfl rfl ?_; refine q_pass rfl rfl rfl ?_; refine q_ev rfl rfl ?_; refine q_end ?_; refine r_then_normal ?_; refine r_cond_true rfl ?_; refine r_sr ?_; refine r_ev rfl rfl ?_; refine r_nn ?_; refine r_retc ?_; refine r_in_ret ?_; refine r_then_ret ?_; refine r_then_ret ?_; refine r_in_ret ?_; refine r_then_ret ?_
        exact r_ret1 [] rfl rfl (by simp) ⟨vb (by rw [sameT, all_bad hka hkb (by simp [hkk])]; simp), rfl, rfl⟩
      · refine q_tev rfl rfl rfl ?_; refine q_tev rfl rfl rfl ?_; refine q_take rfl ?_
        refine q_v rfl (val_indexAddr (j := k) rfl rfl rfl hka) ?_
        refine q_take rfl ?_; refine q_v rfl (val_fieldAddr rfl) ?_; refine q_take rfl ?_
        refine q_v rfl (val_load1 rfl (SlAt.cell tokCells_len hxa hka 1 rfl)) ?_
        refine q_tev rfl rfl rfl ?_; refine q_tev rfl rfl rfl ?_; refine q_take rfl ?_
        refine q_v rfl (val_indexAddr (j := k) rfl rfl rfl hkb) ?_
        refine q_take rfl ?_; refine q_v rfl (val_fieldAddr rfl) ?_; refine q_take rfl ?_
        refine q_v rfl (val_load1 rfl (SlAt.cell tokCells_len hxb hkb 1 rfl)) ?_
        refine q_tev rfl rfl rfl ?_; refine q_ev rfl rfl ?_; refine q_ev rfl rfl ?_
        refine q_gdec rfl rfl (fun hkt => ?_) (fun hkt => ?_)
        · refine q_pass rfl rfl rfl ?_; refine q_pass rfl rfl rfl ?_; refine q_passU rfl rfl ?_; refine q_passU rfl rfl ?_; refine q_passU rfl rfl ?_; refine q_passU rfl rfl ?_; refine q_passU rfl rfl ?_; refine q_passU rfl rfl ?_; refine q_passU rfl rfl ?_; refine q_passU rfl rfl ?_; refine q_passU rfl rfl ?_; refine q_passU rfl rfl ?_; refine q_passU rfl rfl ?_; refine q_pass rfl rfl rfl ?_; refine q_ev rfl rfl ?_; refine q_end ?_; refine r_then_normal ?_; refine r_cond_true rfl ?_; refine r_sr ?_; refine r_ev rfl rfl ?_; refine r_nn ?_; refine r_retc ?_; refine r_in_ret ?_; refine r_then_ret ?_; refine r_then_ret ?_; refine r_in_ret ?_; refine r_then_ret ?_
          exact r_ret1 [] rfl rfl (by simp) ⟨vb (by rw [sameT, all_bad hka hkb (by simp [hkt])]; simp), rfl, rfl⟩
        · refine q_tev rfl rfl rfl ?_; refine q_tev rfl rfl rfl ?_
          refine q_gbool rfl rfl (fun hp => ?_) (fun hp => ?_)
          · refine q_tev rfl rfl rfl ?_; refine q_tev rfl rfl rfl ?_; refine q_take rfl ?_
            refine q_v rfl (val_indexAddr (j := k) rfl rfl rfl hka) ?_
            refine q_take rfl ?_; refine q_v rfl (val_fieldAddr rfl) ?_; refine q_take rfl ?_
            refine q_v rfl (val_load1 rfl (SlAt.cell tokCells_len hxa hka 2 rfl)) ?_
            refine q_tev rfl rfl rfl ?_; refine q_tev rfl rfl rfl ?_; refine q_take rfl ?_
            refine q_v rfl (val_indexAddr (j := k) rfl rfl rfl hkb) ?_
            refine q_take rfl ?_; refine q_v rfl (val_fieldAddr rfl) ?_; refine q_take rfl ?_
            refine q_v rfl (val_load1 rfl (SlAt.cell tokCells_len hxb hkb 2 rfl)) ?_
            refine q_tev rfl rfl rfl ?_; refine q_tev rfl rfl rfl ?_; refine q_ev rfl rfl ?_; refine q_end ?_; refine r_then_normal ?_
            refine r_cond rfl (fun hkp => ?_) (fun hkp => ?_)
            · refine r_sr ?_; refine r_ev rfl rfl ?_; refine r_nn ?_; refine r_retc ?_; refine r_in_ret ?_; refine r_then_ret ?_; refine r_then_ret ?_; refine r_in_ret ?_; refine r_then_ret ?_
              exact r_ret1 [] rfl rfl (by simp) ⟨vb (by rw [sameT, all_bad hka hkb (by simp [hkp, hp])]; simp), rfl, rfl⟩
            · refine r_skip ?_; refine r_in_normal ?_; refine r_then_normal ?_; refine r_region ?_; refine r_ev rfl rfl ?_
              refine r_add rfl rfl rfl (by omega) ?_
              refine r_ev rfl rfl ?_; refine r_nn ?_
              exact r_again (k + 1) ⟨by omega, by rw [all_next hka hkb, hall]; simp at hkk hkt hkp; simp [hkk, hkt, hkp]⟩ (by omega) ⟨rfl, rfl, rfl, rfl, trivial⟩ rfl rfl
          · refine q_pass rfl rfl rfl ?_; refine q_pass rfl rfl rfl ?_; refine q_pass rfl rfl rfl ?_; refine q_pass rfl rfl rfl ?_; refine q_pass rfl rfl rfl ?_; refine q_pass rfl rfl rfl ?_; refine q_pass rfl rfl rfl ?_; refine q_pass rfl rfl rfl ?_; refine q_pass rfl rfl rfl ?_; refine q_pass rfl rfl rfl ?_; refine q_pass rfl rfl rfl ?_; refine q_tev rfl rfl rfl ?_; refine q_ev rfl rfl ?_; refine q_end ?_; refine r_then_normal ?_; refine r_cond_false rfl ?_; refine r_skip ?_; refine r_in_normal ?_; refine r_then_normal ?_; refine r_region ?_; refine r_ev rfl rfl ?_
            refine r_add rfl rfl rfl (by omega) ?_
            refine r_ev rfl rfl ?_; refine r_nn ?_
            exact r_again (k + 1) ⟨by omega, by rw [all_next hka hkb, hall]; simp at hkk hkt; simp [hkk, hkt, hp]⟩ (by omega) ⟨rfl, rfl, rfl, rfl, trivial⟩ rfl rfl
    · refine r_exit ?_; refine r_then_exit ?_; refine r_then_exit ?_; refine r_in_exit ?_; refine r_then_normal ?_; refine r_sr ?_; refine r_ev rfl rfl ?_; refine r_nn ?_; refine r_retc ?_
      have hkl : k = la.length := by omega
      subst hkl
      exact r_ret1 [] rfl rfl (by simp) ⟨vb (by rw [List.take_of_length_le (by simp; omega)] at hall; simp [sameT, hle, hall]), rfl, rfl⟩

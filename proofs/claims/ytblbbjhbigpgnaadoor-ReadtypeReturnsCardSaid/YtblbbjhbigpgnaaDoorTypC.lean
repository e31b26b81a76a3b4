/- The walks of chapters 3 and 5: Equal; the small functions of package readtype. -/
import Derived.Test.YtblbbjhbigpgnaaDoorTypB
import Derived.Test.YtblbbjhbigpgnaaDoorRefC
namespace Go.Proofs.YtblbbjhbigpgnaaDoor
open Go Go.Eng Go.Th Go.Proofs
set_option maxRecDepth 10000
set_option maxHeartbeats 4000000
attribute [local irreducible] wpList Code.wp Run bodyPost Go.Eng.Ends Exit.then Exit.inBlock Again Wq Kq
theorem TysAt.rd {g : Ghost} {ta : List Ty} {xs : List Value} {b off : Nat} {own : List Res} (ht : TysAt g ta xs) (hx : ∀ k x, xs[k]? = some x → g b (off + k) = some x) {i : Nat} (h : i < ta.length) :
    ∃ sl, TyAt g ta[i] (tyCells ta[i] sl) ∧ Rd g own b (off + i * 5) (tyCells ta[i] sl) := by
  obtain ⟨c, h1, h2⟩ := ht.get i h
  obtain ⟨sl, rfl⟩ := h1.cells
  exact ⟨sl, h1, rd_g fun j x hj => by rw [Nat.add_assoc]; exact hx _ _ (h2 j x hj)⟩
theorem EqualAll_of (g : Ghost) (ta : List Ty) (hEq : ∀ t ∈ ta, ∀ u v, TyV g u t → TyV g v t → Pure Tryd.prog 16 [u, v] g (.bool true)) (u v : Value) (xs ys : List Value)
    (hu : SlAt g 5 u ta.length xs) (hx : TysAt g ta xs) (hv : SlAt g 5 v ta.length ys) (hy : TysAt g ta ys) : Pure Tryd.prog 38 [u, v] g (.bool true) := by
  have hle := hu.le
  refine spec_of_run Tryd.func38 rfl Tryd.ntmps38 rfl fun E hE => ?_
  refine r_sr ?_; refine r_ev rfl rfl ?_; refine r_nn ?_; refine r_seq ?_; refine r_sr ?_; refine r_ev rfl rfl ?_; refine r_len_at rfl rfl (by assumption) ?_; refine r_ev rfl rfl ?_; refine r_len_at rfl rfl (by assumption) ?_; refine r_ev rfl rfl ?_; refine r_nn ?_
  refine r_cond rfl (fun h => absurd rfl h) (fun _ => ?_)
  refine r_skip ?_; refine r_then_normal ?_; refine r_seq ?_; refine r_sr ?_; refine r_ev rfl rfl ?_; refine r_nn ?_; refine r_block ?_
  refine r_loop (ι := Nat) (fun k => [(0, u), (1, v), (5, .int .i64 k)]) (fun _ => g) (fun _ => []) (fun k => k ≤ ta.length) (fun k => ta.length - k) 0 (by omega) ⟨rfl, rfl, rfl, trivial⟩ rfl rfl ?_
  intro k hk
  refine r_seq ?_; refine r_sr ?_; refine r_ev rfl rfl ?_; refine r_ev rfl rfl ?_; refine r_len_at rfl rfl (by assumption) ?_; refine r_ev rfl rfl ?_; refine r_nn ?_
  refine r_cond rfl (fun hlt => ?_) (fun hlt => ?_)
  · have hlt' : k < ta.length := by omega
    obtain ⟨b, off, cap, rfl, hxc⟩ := hu.held hlt'
    obtain ⟨b', off', cap', rfl, hyc⟩ := hv.held hlt'
    obtain ⟨sl, h1, hr1⟩ := hx.rd (own := []) hxc hlt'
    obtain ⟨sl', h2, hr2⟩ := hy.rd (own := []) hyc hlt'
    refine r_skip ?_; refine r_then_normal ?_; refine r_seq ?_; refine r_block ?_; refine r_seq ?_
    refine r_qregion mixed (by kernel_rfl) ?_
    refine q_ev rfl rfl ?_; refine q_ev rfl rfl ?_; refine q_v rfl (val_indexAddr rfl rfl rfl (by omega)) ?_
    refine q_v rfl (val_load rfl hr1 rfl) ?_
    refine q_ev rfl rfl ?_; refine q_ev rfl rfl ?_; refine q_v rfl (val_indexAddr rfl rfl rfl (by omega)) ?_
    refine q_v rfl (val_load rfl hr2 rfl) ?_
    refine q_callP rfl rfl (hEq _ (List.getElem_mem hlt') _ _ ⟨sl, rfl, h1⟩ ⟨sl', rfl, h2⟩) ?_
    refine q_ev rfl rfl ?_; refine q_end ?_; refine r_then_normal ?_; refine r_cond_false rfl ?_; refine r_skip ?_; refine r_in_normal ?_; refine r_then_normal ?_; refine r_region ?_; refine r_ev rfl rfl ?_; refine r_add rfl rfl rfl (by omega) ?_; refine r_ev rfl rfl ?_; refine r_nn ?_
    exact r_again (k + 1) (by omega) (by omega) ⟨rfl, rfl, rfl, trivial⟩ rfl rfl
  · refine r_exit ?_; refine r_then_exit ?_; refine r_then_exit ?_; refine r_in_exit ?_; refine r_then_normal ?_; refine r_sr ?_; refine r_ev rfl rfl ?_; refine r_nn ?_; refine r_retc ?_
    exact r_ret1 [] rfl rfl (by simp) ⟨rfl, rfl, rfl⟩
theorem Equal_aux (g : Ghost) : ∀ (N : Nat) (t : Ty) (u v : Value), SizeOf.sizeOf t < N → TyV g u t → TyV g v t → Pure Tryd.prog 16 [u, v] g (.bool true)
  | 0, _, _, _, h, _, _ => by omega
  | N + 1, t, u, v, h, hu, hv => by
    have ih := Equal_aux g N
    obtain ⟨sl, rfl, h1⟩ := hu
    obtain ⟨sl', rfl, h2⟩ := hv
    obtain ⟨xs, hs1, ht1⟩ := h1.args
    obtain ⟨ys, hs2, ht2⟩ := h2.args
    have hall := EqualAll_of g t.args (fun t' ht' u v h1 h2 => ih t' u v (by
      have := List.sizeOf_lt_of_mem ht'
      cases t with
      | mk k n i hh ta => simp only [Ty.args] at this; simp at h; omega) h1 h2) sl sl' xs ys hs1 ht1 hs2 ht2
    refine spec_of_run Tryd.func16 rfl Tryd.ntmps16 rfl fun E hE => ?_
    refine r_sr ?_
    refine r_box rfl rfl rfl (fun b2 => ?_)
    refine r_box rfl rfl rfl (fun b3 => ?_)
    refine r_ev rfl rfl ?_; refine r_nn ?_; refine r_seq ?_; refine r_sr ?_; refine r_fieldAddr rfl rfl ?_; refine r_loadB1 1 rfl rfl rfl rfl ?_; refine r_fieldAddr rfl rfl ?_; refine r_loadB1 0 rfl rfl rfl rfl ?_; refine r_ev rfl rfl ?_; refine r_ev rfl rfl ?_
    refine r_gdec rfl rfl (fun h => absurd rfl h) (fun _ => ?_)
    refine r_take rfl ?_; refine r_fieldAddr rfl rfl ?_; refine r_take rfl ?_; refine r_loadB1 1 rfl rfl rfl rfl ?_; refine r_take rfl ?_; refine r_fieldAddr rfl rfl ?_; refine r_take rfl ?_; refine r_loadB1 0 rfl rfl rfl rfl ?_; refine r_tev rfl rfl rfl ?_; refine r_ev rfl rfl ?_; refine r_ev rfl rfl ?_
    refine r_gdec rfl rfl (fun h => absurd rfl h) (fun _ => ?_)
    refine r_take rfl ?_; refine r_fieldAddr rfl rfl ?_; refine r_take rfl ?_; refine r_loadB1 1 rfl rfl rfl rfl ?_; refine r_take rfl ?_; refine r_fieldAddr rfl rfl ?_; refine r_take rfl ?_; refine r_loadB1 0 rfl rfl rfl rfl ?_; refine r_tev rfl rfl rfl ?_; refine r_ev rfl rfl ?_; refine r_ev rfl rfl ?_
    refine r_gdec rfl rfl (fun h => absurd rfl h) (fun _ => ?_)
    refine r_take rfl ?_; refine r_fieldAddr rfl rfl ?_; refine r_take rfl ?_; refine r_loadB1 1 rfl rfl rfl rfl ?_; refine r_take rfl ?_; refine r_fieldAddr rfl rfl ?_; refine r_take rfl ?_; refine r_loadB1 0 rfl rfl rfl rfl ?_; refine r_tev rfl rfl rfl ?_; refine r_ev rfl rfl ?_; refine r_nn ?_
    refine r_cond rfl (fun h => absurd rfl h) (fun _ => ?_)
    refine r_skip ?_; refine r_then_normal ?_; refine r_sr ?_; refine r_fieldAddr rfl rfl ?_; refine r_loadB1 1 rfl rfl rfl rfl ?_; refine r_fieldAddr rfl rfl ?_; refine r_loadB1 0 rfl rfl rfl rfl ?_
    refine r_callP rfl rfl hall ?_
    refine r_ev rfl rfl ?_; refine r_nn ?_; refine r_retc ?_
    exact r_ret1 [] rfl rfl (by simp) ⟨rfl, rfl, rfl⟩
theorem Equal_spec (g : Ghost) (t : Ty) (u v : Value) (hu : TyV g u t) (hv : TyV g v t) : Pure Tryd.prog 16 [u, v] g (.bool true) := Equal_aux g _ t u v (Nat.lt_succ_self _) hu hv
/-- Tokens whose places can be reckoned with. -/
def TB (l : List Tok) : Prop := l.length ≤ 1000000 ∧ ∀ t ∈ l, -1000000 ≤ t.pos ∧ t.pos ≤ 1000000 ∧ t.text.length ≤ 1000000
abbrev ToksAt (g : Ghost) (v : Value) (l : List Tok) : Prop := SlAt g 3 v l.length (l.flatMap tokCells)
theorem toks_rd {g : Ghost} {l : List Tok} {b off : Nat} {own : List Res} (hx : ∀ k x, (l.flatMap tokCells)[k]? = some x → g b (off + k) = some x) {i : Nat} (h : i < l.length) : Rd g own b (off + i * 3) (tokCells l[i]) := rd_elem tokCells_len hx h
theorem failPos_le {l : List Tok} (h : TB l) (i : Nat) : -2000000 ≤ failPos l i ∧ failPos l i ≤ 2000000 := by
  unfold failPos
  cases hi : l[i]? with
  | some t => have := h.2 t (List.mem_of_getElem? hi); simp only; omega
  | none =>
    cases hl : l.getLast? with
    | some t => have := h.2 t (List.mem_of_getLast? hl); simp only; omega
    | none => simp
def failV (p : Int) : Value := .iface 119 (.agg #[.int .i64 p])
theorem unexpected_spec (g : Ghost) (v : Value) (l : List Tok) (hs : ToksAt g v l) (hb : TB l) (i : Nat) (hi : i ≤ 2000000) : Pure Tryd.prog 61 [v, .int .i64 i] g (failV (failPos l i)) := by
  refine spec_of_run Tryd.func61 rfl Tryd.ntmps61 rfl fun E hE => ?_
  refine r_sr ?_; refine r_ev rfl rfl ?_; refine r_nn ?_; refine r_sr ?_; refine r_ev rfl rfl ?_; refine r_nn ?_; refine r_seq ?_; refine r_block ?_; refine r_sr ?_; refine r_ev rfl rfl ?_; refine r_ev rfl rfl ?_; refine r_len_at rfl rfl (by assumption) ?_; refine r_ev rfl rfl ?_; refine r_ev rfl rfl ?_; refine r_nn ?_
  refine r_cond rfl (fun hlt => ?_) (fun hlt => ?_)
  · have hlt' : i < l.length := by omega
    obtain ⟨b, off, cap, rfl, hx⟩ := hs.held hlt'
    have hf : failPos l i = l[i].pos := by unfold failPos; rw [List.getElem?_eq_getElem hlt']
    refine r_region ?_; refine r_ev rfl rfl ?_; refine r_ev rfl rfl ?_; refine r_indexAddr rfl rfl rfl rfl (by omega) ?_; refine r_fieldAddr rfl rfl ?_
    refine r_load1 rfl rfl (SlAt.cell tokCells_len hx hlt' 2 rfl) ?_
    refine r_ev rfl rfl ?_; refine r_nil ?_; refine r_in_normal ?_; refine r_then_normal ?_; refine r_sr ?_; refine r_ev rfl rfl ?_; refine r_build rfl rfl (by rfl) ?_; refine r_mkIface rfl rfl ?_; refine r_ev rfl rfl ?_; refine r_nn ?_; refine r_retc ?_
    exact r_ret1 [] rfl rfl (by simp) ⟨by rw [hf]; rfl, rfl, rfl⟩
  · have hn : l[i]? = none := List.getElem?_eq_none (by omega)
    refine r_sr ?_; refine r_ev rfl rfl ?_; refine r_len_at rfl rfl (by assumption) ?_; refine r_ev rfl rfl ?_; refine r_ev rfl rfl ?_; refine r_nn ?_
    refine r_cond rfl (fun h0 => ?_) (fun h0 => ?_)
    · have h0' : l.length - 1 < l.length := by omega
      have hb1 := hb.1
      have hb2 := hb.2 _ (List.getElem_mem h0')
      obtain ⟨b, off, cap, rfl, hx⟩ := hs.held h0'
      have hf : failPos l i = l[l.length - 1].pos + l[l.length - 1].text.length := by
        unfold failPos; rw [hn, List.getLast?_eq_getElem?, List.getElem?_eq_getElem h0']
      refine r_sr ?_; refine r_ev rfl rfl ?_; refine r_ev rfl rfl ?_; refine r_len_sl rfl rfl ?_; refine r_sub_ rfl rfl rfl (by omega) ?_
      rw [show (l.length : Int) - 1 = ((l.length - 1 : Nat) : Int) by omega]
      refine r_indexAddr (j := l.length - 1) rfl rfl rfl rfl h0' ?_
      refine r_load rfl rfl (vs := tokCells l[l.length - 1]) (toks_rd hx h0') rfl ?_
      refine r_alloc rfl (fun b6 => ?_)
      refine r_storeA 0 rfl rfl rfl rfl (by rfl) (by repeat' (first | exact rfl | assumption | refine all_cons ?_ ?_)) rfl ?_; refine r_nn ?_; refine r_region ?_; refine r_fieldAddr rfl rfl ?_; refine r_loadB1 0 rfl rfl rfl rfl ?_; refine r_fieldAddr rfl rfl ?_; refine r_loadB1 0 rfl rfl rfl rfl ?_; refine r_len_str rfl rfl ?_; refine r_add rfl rfl rfl (by omega) ?_; refine r_ev rfl rfl ?_; refine r_nil ?_; refine r_in_normal ?_; refine r_then_normal ?_; refine r_sr ?_; refine r_ev rfl rfl ?_; refine r_build rfl rfl (by rfl) ?_; refine r_mkIface rfl rfl ?_; refine r_ev rfl rfl ?_; refine r_nn ?_; refine r_retc ?_
      exact r_ret1 [] rfl rfl (by simp) ⟨by rw [hf]; rfl, rfl, rfl⟩
    · have hf : failPos l i = 0 := by
        unfold failPos; rw [hn, List.getLast?_eq_getElem?, List.getElem?_eq_none (by omega)]
      refine r_skip ?_; refine r_in_normal ?_; refine r_then_normal ?_; refine r_sr ?_; refine r_ev rfl rfl ?_; refine r_build rfl rfl (by rfl) ?_; refine r_mkIface rfl rfl ?_; refine r_ev rfl rfl ?_; refine r_nn ?_; refine r_retc ?_
      exact r_ret1 [] rfl rfl (by simp) ⟨by rw [hf]; rfl, rfl, rfl⟩
theorem mark_spec5 (g : Ghost) (v : Value) (l : List Tok) (hs : ToksAt g v l) (i : Nat) (w : Bytes) : Pure Tryd.prog 50 [v, .int .i64 i, str w] g (.bool (markAt l i w)) := by
  refine spec_of_run Tryd.func50 rfl Tryd.ntmps50 rfl fun E hE => ?_
  refine r_sr ?_; refine r_ev rfl rfl ?_; refine r_nn ?_; refine r_sr ?_; refine r_ev rfl rfl ?_; refine r_ev rfl rfl ?_; refine r_len_at rfl rfl (by assumption) ?_; refine r_ev rfl rfl ?_; refine r_ev rfl rfl ?_
  refine r_gdec rfl rfl (fun hlt => ?_) (fun hlt => ?_)
  · have hlt' : i < l.length := by omega
    obtain ⟨b, off, cap, rfl, hx⟩ := hs.held hlt'
    have hm : markAt l i w = (decide (l[i].kind = 5) && decide (l[i].text = w)) := by unfold markAt tokAt; rw [List.getElem?_eq_getElem hlt']
    refine r_tev rfl rfl rfl ?_; refine r_tev rfl rfl rfl ?_; refine r_take rfl ?_; refine r_indexAddr rfl rfl rfl rfl (by omega) ?_; refine r_take rfl ?_; refine r_fieldAddr rfl rfl ?_; refine r_take rfl ?_
    refine r_load1 rfl rfl (SlAt.cell tokCells_len hx hlt' 0 rfl) ?_
    refine r_tev rfl rfl rfl ?_; refine r_ev rfl rfl ?_; refine r_ev rfl rfl ?_
    refine r_gdec rfl rfl (fun h5 => ?_) (fun h5 => ?_)
    · refine r_tev rfl rfl rfl ?_; refine r_tev rfl rfl rfl ?_; refine r_take rfl ?_; refine r_indexAddr rfl rfl rfl rfl (by omega) ?_; refine r_take rfl ?_; refine r_fieldAddr rfl rfl ?_; refine r_take rfl ?_
      refine r_load1 rfl rfl (SlAt.cell tokCells_len hx hlt' 1 rfl) ?_
      refine r_tev rfl rfl rfl ?_; refine r_tev rfl rfl rfl ?_; refine r_ev rfl rfl ?_; refine r_ev rfl rfl ?_; refine r_nn ?_; refine r_retc ?_
      exact r_ret1 [] rfl rfl (by simp) ⟨by rw [hm]; simp [h5], rfl, rfl⟩
    · refine r_pass rfl rfl rfl ?_; refine r_pass rfl rfl rfl ?_; refine r_pass rfl rfl rfl ?_; refine r_pass rfl rfl rfl ?_; refine r_pass rfl rfl rfl ?_; refine r_pass rfl rfl rfl ?_; refine r_pass rfl rfl rfl ?_; refine r_ev rfl rfl ?_; refine r_ev rfl rfl ?_; refine r_nn ?_; refine r_retc ?_
      exact r_ret1 [] rfl rfl (by simp) ⟨by rw [hm]; simp [h5], rfl, rfl⟩
  · have hm : markAt l i w = false := by unfold markAt tokAt; rw [List.getElem?_eq_none (by omega)]
    refine r_pass rfl rfl rfl ?_; refine r_pass rfl rfl rfl ?_; refine r_pass rfl rfl rfl ?_; refine r_pass rfl rfl rfl ?_; refine r_pass rfl rfl rfl ?_; refine r_pass rfl rfl rfl ?_; refine r_ev rfl rfl ?_; refine r_ev rfl rfl ?_; refine r_pass rfl rfl rfl ?_; refine r_pass rfl rfl rfl ?_; refine r_pass rfl rfl rfl ?_; refine r_pass rfl rfl rfl ?_; refine r_pass rfl rfl rfl ?_; refine r_pass rfl rfl rfl ?_; refine r_pass rfl rfl rfl ?_; refine r_ev rfl rfl ?_; refine r_ev rfl rfl ?_; refine r_nn ?_; refine r_retc ?_
    exact r_ret1 [] rfl rfl (by simp) ⟨by rw [hm], rfl, rfl⟩
theorem starts_spec (g : Ghost) (t : Tok) : Pure Tryd.prog 19 [tokV t] g (.bool (startsT t)) := by
  refine spec_of_run Tryd.func19 rfl Tryd.ntmps19 rfl fun E hE => ?_
  refine r_sr ?_; refine r_box rfl rfl rfl (fun b => ?_); refine r_ev rfl rfl ?_; refine r_nn ?_; refine r_sr ?_; refine r_fieldAddr rfl rfl ?_; refine r_loadB1 0 rfl rfl rfl rfl ?_; refine r_ev rfl rfl ?_; refine r_ev rfl rfl ?_
  refine r_gdec rfl rfl (fun h1 => ?_) (fun h1 => ?_)
  · refine r_pass rfl rfl rfl ?_; refine r_pass rfl rfl rfl ?_; refine r_pass rfl rfl rfl ?_; refine r_ev rfl rfl ?_; refine r_ev rfl rfl ?_; refine r_pass rfl rfl rfl ?_; refine r_pass rfl rfl rfl ?_; refine r_pass rfl rfl rfl ?_; refine r_pass rfl rfl rfl ?_; refine r_passU rfl rfl ?_; refine r_passU rfl rfl ?_; refine r_passU rfl rfl ?_; refine r_pass rfl rfl rfl ?_; refine r_ev rfl rfl ?_; refine r_ev rfl rfl ?_; refine r_nn ?_; refine r_retc ?_
    exact r_ret1 [] rfl rfl (by simp) ⟨by simp [startsT, h1], rfl, rfl⟩
  refine r_take rfl ?_; refine r_fieldAddr rfl rfl ?_; refine r_take rfl ?_; refine r_loadB1 0 rfl rfl rfl rfl ?_; refine r_tev rfl rfl rfl ?_; refine r_ev rfl rfl ?_; refine r_ev rfl rfl ?_
  refine r_gdec rfl rfl (fun h2 => ?_) (fun h2 => ?_)
  · refine r_pass rfl rfl rfl ?_; refine r_pass rfl rfl rfl ?_; refine r_pass rfl rfl rfl ?_; refine r_pass rfl rfl rfl ?_; refine r_passU rfl rfl ?_; refine r_passU rfl rfl ?_; refine r_passU rfl rfl ?_; refine r_pass rfl rfl rfl ?_; refine r_ev rfl rfl ?_; refine r_ev rfl rfl ?_; refine r_nn ?_; refine r_retc ?_
    exact r_ret1 [] rfl rfl (by simp) ⟨by simp [startsT, h2], rfl, rfl⟩
  refine r_take rfl ?_; refine r_fieldAddr rfl rfl ?_; refine r_take rfl ?_; refine r_loadB1 0 rfl rfl rfl rfl ?_; refine r_tev rfl rfl rfl ?_; refine r_tev rfl rfl rfl ?_
  refine r_gdec rfl rfl (fun h5 => ?_) (fun h5 => ?_)
  · refine r_take rfl ?_; refine r_fieldAddr rfl rfl ?_; refine r_take rfl ?_; refine r_loadB1 0 rfl rfl rfl rfl ?_; refine r_tev rfl rfl rfl ?_; refine r_tev rfl rfl rfl ?_; refine r_ev rfl rfl ?_; refine r_ev rfl rfl ?_; refine r_nn ?_; refine r_retc ?_
    exact r_ret1 [] rfl rfl (by simp) ⟨by simp [startsT, h1, h2, h5], rfl, rfl⟩
  · refine r_pass rfl rfl rfl ?_; refine r_pass rfl rfl rfl ?_; refine r_pass rfl rfl rfl ?_; refine r_tev rfl rfl rfl ?_; refine r_ev rfl rfl ?_; refine r_ev rfl rfl ?_; refine r_nn ?_; refine r_retc ?_
    exact r_ret1 [] rfl rfl (by simp) ⟨by simp [startsT, h1, h2, h5], rfl, rfl⟩
def idxOf (n : Nat) (i : Int) : Nat := if i < 0 then n else min i.toNat n
theorem index_spec (g : Ghost) (v : Value) (l : List Tok) (hs : ToksAt g v l) (i : Int) : Pure Tryd.prog 37 [v, .int .i64 i] g (.int .i64 (idxOf l.length i)) := by
  refine spec_of_run Tryd.func37 rfl Tryd.ntmps37 rfl fun E hE => ?_
  refine r_sr ?_; refine r_ev rfl rfl ?_; refine r_nn ?_; refine r_seq ?_; refine r_sr ?_; refine r_ev rfl rfl ?_; refine r_ev rfl rfl ?_; refine r_nn ?_
  refine r_cond rfl (fun h => ?_) (fun h => ?_)
  · refine r_sr ?_; refine r_ev rfl rfl ?_; refine r_len_at rfl rfl (by assumption) ?_; refine r_ev rfl rfl ?_; refine r_nn ?_; refine r_retc ?_; refine r_then_ret ?_
    exact r_ret1 [] rfl rfl (by simp) ⟨vi (by simp [idxOf, h]), rfl, rfl⟩
  · refine r_skip ?_; refine r_then_normal ?_; refine r_sr ?_; refine r_ev rfl rfl ?_; refine r_ev rfl rfl ?_; refine r_len_at rfl rfl (by assumption) ?_; refine r_min rfl rfl rfl ?_; refine r_ev rfl rfl ?_; refine r_nn ?_; refine r_retc ?_
    exact r_ret1 [] rfl rfl (by simp) ⟨vi (by simp only [idxOf, h, if_false]; omega), rfl, rfl⟩
end Go.Proofs.YtblbbjhbigpgnaaDoor
-- sum 429ec2ceb346b693

/- The walks of chapters 3 and 5: Equal; the small functions of package readtype. -/
import Derived.Test.YtpjehhnaojjanaaGreatDoorK4
namespace Go.Proofs.YtpjehhnaojjanaaGreatDoor
open Go Go.Eng Go.Th Go.Proofs
set_option maxRecDepth 10000
set_option maxHeartbeats 4000000
attribute [local irreducible] wpList Code.wp Run bodyPost Go.Eng.Ends Exit.then Exit.inBlock Again Wq Kq
theorem TysAt.rd {g : Ghost} {ta : List Ty} {xs : List Value} {b off : Nat} {own : List Res} (ht : TysAt g ta xs) (hx : ∀ k x, xs[k]? = some x → g b (off + k) = some x) {i : Nat} (h : i < ta.length) :
  ∃ sl, TyAt g ta[i] (tyCells ta[i] sl) ∧ Rd g own b (off + i * 5) (tyCells ta[i] sl) := by
 obtain ⟨c, h1, h2⟩ := ht.get i h
 obtain ⟨sl, rfl⟩ := h1.cells
 exact ⟨sl, h1, rd_g fun j x hj => by rw [Nat.add_assoc]; exact hx _ _ (h2 j x hj)⟩
theorem EqualAll_of (g : Ghost) (ta : List Ty) (hEq : ∀ t ∈ ta, ∀ u v, TyV g u t → TyV g v t → Pure Tryz.prog 35 [u, v] g (.bool true)) (u v : Value) (xs ys : List Value)
  (hu : SlAt g 5 u ta.length xs) (hx : TysAt g ta xs) (hv : SlAt g 5 v ta.length ys) (hy : TysAt g ta ys) : Pure Tryz.prog 52 [u, v] g (.bool true) := by
 have hle := hu.le
 refine spec_of_run Tryz.func52 rfl Tryz.ntmps52 rfl fun E hE => ?_
 refine r_sr <| r_ev rfl rfl <| r_nn <| r_seq <| r_sr <| r_ev rfl rfl <| r_len_at rfl rfl (by assumption) ?_; refine r_ev rfl rfl <| r_len_at rfl rfl (by assumption) ?_; refine r_ev rfl rfl <| r_nn ?_
 refine r_cond rfl (fun h => absurd rfl h) (fun _ => ?_)
 refine r_skip <| r_then_normal <| r_seq <| r_sr <| r_ev rfl rfl <| r_nn <| r_block ?_
 refine r_loop (ι := Nat) (fun k => [(0, u), (1, v), (5, .int .i64 k)]) (fun _ => g) (fun _ => []) (fun k => k ≤ ta.length) (fun k => ta.length - k) 0 (by omega) ⟨rfl, rfl, rfl, trivial⟩ rfl rfl ?_
 intro k hk
 refine r_seq <| r_sr <| r_ev rfl rfl <| r_ev rfl rfl <| r_len_at rfl rfl (by assumption) ?_; refine r_ev rfl rfl <| r_nn ?_
 refine r_cond rfl (fun hlt => ?_) (fun hlt => ?_)
 ·have hlt' : k < ta.length := by omega
  obtain ⟨b, off, cap, rfl, hxc⟩ := hu.held hlt'
  obtain ⟨b', off', cap', rfl, hyc⟩ := hv.held hlt'
  obtain ⟨sl, h1, hr1⟩ := hx.rd (own := []) hxc hlt'
  obtain ⟨sl', h2, hr2⟩ := hy.rd (own := []) hyc hlt'
  refine r_skip <| r_then_normal <| r_seq <| r_block <| r_seq ?_
  refine r_qregion mixed (by kernel_rfl) ?_
  refine q_ev rfl rfl <| q_ev rfl rfl <| q_v rfl (val_indexAddr rfl rfl rfl (by omega)) ?_
  refine q_v rfl (val_load rfl hr1 rfl) ?_
  refine q_ev rfl rfl <| q_ev rfl rfl <| q_v rfl (val_indexAddr rfl rfl rfl (by omega)) ?_
  refine q_v rfl (val_load rfl hr2 rfl) ?_
  refine q_callP rfl rfl (hEq _ (List.getElem_mem hlt') _ _ ⟨sl, rfl, h1⟩ ⟨sl', rfl, h2⟩) ?_
  refine q_ev rfl rfl <| q_end <| r_then_normal <| r_cond_false rfl <| r_skip <| r_in_normal <| r_then_normal <| r_region <| r_ev rfl rfl <| r_add rfl rfl rfl (by omega) ?_; refine r_ev rfl rfl <| r_nn ?_
  exact r_again (k + 1) (by omega) (by omega) ⟨rfl, rfl, rfl, trivial⟩ rfl rfl
 ·refine r_exit <| r_then_exit <| r_then_exit <| r_in_exit <| r_then_normal <| r_sr <| r_ev rfl rfl <| r_nn <| r_retc ?_
  exact r_ret1 [] rfl rfl (by simp) ⟨rfl, rfl, rfl⟩
theorem Equal_aux (g : Ghost) : ∀ (N : Nat) (t : Ty) (u v : Value), SizeOf.sizeOf t < N → TyV g u t → TyV g v t → Pure Tryz.prog 35 [u, v] g (.bool true)
 | 0, _, _, _, h, _, _ => by omega
 | N + 1, t, u, v, h, hu, hv => by
  have ih := Equal_aux g N
  obtain ⟨sl, rfl, h1⟩ := hu
  obtain ⟨sl', rfl, h2⟩ := hv
  obtain ⟨xs, hs1, ht1⟩ := h1.args
  obtain ⟨ys, hs2, ht2⟩ := h2.args
  have hall := EqualAll_of g t.args (fun t' ht' u v h1 h2 => ih t' u v (by
   have := List.sizeOf_lt_of_mem ht'
   cases t with
   | mk k n i hh ta => simp only [Ty.args] at this; simp at h; omega) h1 h2) sl sl' xs ys hs1 ht1 hs2 ht2
  refine spec_of_run Tryz.func35 rfl Tryz.ntmps35 rfl fun E hE => ?_
  refine r_sr ?_
  refine r_box rfl rfl rfl (fun b2 => ?_)
  refine r_box rfl rfl rfl (fun b3 => ?_)
  refine r_ev rfl rfl <| r_nn <| r_seq <| r_sr <| r_fieldAddr rfl rfl <| r_loadB1 1 rfl rfl rfl rfl <| r_fieldAddr rfl rfl <| r_loadB1 0 rfl rfl rfl rfl <| r_ev rfl rfl <| r_ev rfl rfl ?_
  refine r_gdec rfl rfl (fun h => absurd rfl h) (fun _ => ?_)
  refine r_take rfl <| r_fieldAddr rfl rfl <| r_take rfl <| r_loadB1 1 rfl rfl rfl rfl <| r_take rfl <| r_fieldAddr rfl rfl <| r_take rfl <| r_loadB1 0 rfl rfl rfl rfl <| r_tev rfl rfl rfl <| r_ev rfl rfl <| r_ev rfl rfl ?_
  refine r_gdec rfl rfl (fun h => absurd rfl h) (fun _ => ?_)
  refine r_take rfl <| r_fieldAddr rfl rfl <| r_take rfl <| r_loadB1 1 rfl rfl rfl rfl <| r_take rfl <| r_fieldAddr rfl rfl <| r_take rfl <| r_loadB1 0 rfl rfl rfl rfl <| r_tev rfl rfl rfl <| r_ev rfl rfl <| r_ev rfl rfl ?_
  refine r_gdec rfl rfl (fun h => absurd rfl h) (fun _ => ?_)
  refine r_take rfl <| r_fieldAddr rfl rfl <| r_take rfl <| r_loadB1 1 rfl rfl rfl rfl <| r_take rfl <| r_fieldAddr rfl rfl <| r_take rfl <| r_loadB1 0 rfl rfl rfl rfl <| r_tev rfl rfl rfl <| r_ev rfl rfl <| r_nn ?_
  refine r_cond rfl (fun h => absurd rfl h) (fun _ => ?_)
  refine r_skip <| r_then_normal <| r_sr <| r_fieldAddr rfl rfl <| r_loadB1 1 rfl rfl rfl rfl <| r_fieldAddr rfl rfl <| r_loadB1 0 rfl rfl rfl rfl ?_
  refine r_callP rfl rfl hall ?_
  refine r_ev rfl rfl <| r_nn <| r_retc ?_
  exact r_ret1 [] rfl rfl (by simp) ⟨rfl, rfl, rfl⟩
theorem Equal_spec (g : Ghost) (t : Ty) (u v : Value) (hu : TyV g u t) (hv : TyV g v t) : Pure Tryz.prog 35 [u, v] g (.bool true) := Equal_aux g _ t u v (Nat.lt_succ_self _) hu hv
def TB (l : List Tok) : Prop := l.length ≤ 1000000 ∧ ∀ t ∈ l, -1000000 ≤ t.pos ∧ t.pos ≤ 1000000 ∧ t.text.length ≤ 1000000
abbrev ToksAt (g : Ghost) (v : Value) (l : List Tok) : Prop := SlAt g 3 v l.length (l.flatMap tokCells)
theorem toks_rd {g : Ghost} {l : List Tok} {b off : Nat} {own : List Res} (hx : ∀ k x, (l.flatMap tokCells)[k]? = some x → g b (off + k) = some x) {i : Nat} (h : i < l.length) : Rd g own b (off + i * 3) (tokCells l[i]) := rd_elem tokCells_len hx h
def failV (p : Int) : Value := .iface 228 (.agg #[.int .i64 p])
theorem unexpected_spec (g : Ghost) (v : Value) (l : List Tok) (hs : ToksAt g v l) (hb : TB l) (i : Nat) (hi : i ≤ 2000000) : Pure Tryz.prog 168 [v, .int .i64 i] g (failV (failPos l i)) := by
 refine spec_of_run Tryz.func168 rfl Tryz.ntmps168 rfl fun E hE => ?_
 refine r_sr <| r_ev rfl rfl <| r_nn <| r_sr <| r_ev rfl rfl <| r_nn <| r_seq <| r_block <| r_sr <| r_ev rfl rfl <| r_ev rfl rfl <| r_len_at rfl rfl (by assumption) ?_; refine r_ev rfl rfl <| r_ev rfl rfl <| r_nn ?_
 refine r_cond rfl (fun hlt => ?_) (fun hlt => ?_)
 ·have hlt' : i < l.length := by omega
  obtain ⟨b, off, cap, rfl, hx⟩ := hs.held hlt'
  have hf : failPos l i = l[i].pos := by unfold failPos; rw [List.getElem?_eq_getElem hlt']
  refine r_region <| r_ev rfl rfl <| r_ev rfl rfl <| r_indexAddr rfl rfl rfl rfl (by omega) ?_; refine r_fieldAddr rfl rfl ?_
  refine r_load1 rfl rfl (SlAt.cell tokCells_len hx hlt' 2 rfl) ?_
  refine r_ev rfl rfl <| r_nil <| r_in_normal <| r_then_normal <| r_sr <| r_ev rfl rfl <| r_build rfl rfl (by rfl) ?_; refine r_mkIface rfl rfl <| r_ev rfl rfl <| r_nn <| r_retc ?_
  exact r_ret1 [] rfl rfl (by simp) ⟨by rw [hf]; rfl, rfl, rfl⟩
 ·have hn : l[i]? = none := List.getElem?_eq_none (by omega)
  refine r_sr <| r_ev rfl rfl <| r_len_at rfl rfl (by assumption) ?_; refine r_ev rfl rfl <| r_ev rfl rfl <| r_nn ?_
  refine r_cond rfl (fun h0 => ?_) (fun h0 => ?_)
  ·have h0' : l.length - 1 < l.length := by omega
   have hb1 := hb.1
   have hb2 := hb.2 _ (List.getElem_mem h0')
   obtain ⟨b, off, cap, rfl, hx⟩ := hs.held h0'
   have hf : failPos l i = l[l.length - 1].pos + l[l.length - 1].text.length := by
    unfold failPos; rw [hn, List.getLast?_eq_getElem?, List.getElem?_eq_getElem h0']
   refine r_sr <| r_ev rfl rfl <| r_ev rfl rfl <| r_len_sl rfl rfl <| r_sub_ rfl rfl rfl (by omega) ?_
   rw [show (l.length : Int) - 1 = ((l.length - 1 : Nat) : Int) by omega]
   refine r_indexAddr (j := l.length - 1) rfl rfl rfl rfl h0' ?_
   refine r_load rfl rfl (vs := tokCells l[l.length - 1]) (toks_rd hx h0') rfl ?_
   refine r_alloc rfl (fun b6 => ?_)
   refine r_storeA 0 rfl rfl rfl rfl (by rfl) (by repeat' (first | exact rfl | assumption | refine all_cons ?_ ?_)) rfl ?_; refine r_nn <| r_region <| r_fieldAddr rfl rfl <| r_loadB1 0 rfl rfl rfl rfl <| r_fieldAddr rfl rfl <| r_loadB1 0 rfl rfl rfl rfl <| r_len_str rfl rfl <| r_add rfl rfl rfl (by omega) ?_; refine r_ev rfl rfl <| r_nil <| r_in_normal <| r_then_normal <| r_sr <| r_ev rfl rfl <| r_build rfl rfl (by rfl) ?_; refine r_mkIface rfl rfl <| r_ev rfl rfl <| r_nn <| r_retc ?_
   exact r_ret1 [] rfl rfl (by simp) ⟨by rw [hf]; rfl, rfl, rfl⟩
  ·have hf : failPos l i = 0 := by
    unfold failPos; rw [hn, List.getLast?_eq_getElem?, List.getElem?_eq_none (by omega)]
   refine r_skip <| r_in_normal <| r_then_normal <| r_sr <| r_ev rfl rfl <| r_build rfl rfl (by rfl) ?_; refine r_mkIface rfl rfl <| r_ev rfl rfl <| r_nn <| r_retc ?_
   exact r_ret1 [] rfl rfl (by simp) ⟨by rw [hf]; rfl, rfl, rfl⟩
theorem mark_spec5 (g : Ghost) (v : Value) (l : List Tok) (hs : ToksAt g v l) (i : Nat) (w : Bytes) : Pure Tryz.prog 150 [v, .int .i64 i, str w] g (.bool (markAt l i w)) := by
 refine spec_of_run Tryz.func150 rfl Tryz.ntmps150 rfl fun E hE => ?_
 refine r_sr <| r_ev rfl rfl <| r_nn <| r_sr <| r_ev rfl rfl <| r_ev rfl rfl <| r_len_at rfl rfl (by assumption) ?_; refine r_ev rfl rfl <| r_ev rfl rfl ?_
 refine r_gdec rfl rfl (fun hlt => ?_) (fun hlt => ?_)
 ·have hlt' : i < l.length := by omega
  obtain ⟨b, off, cap, rfl, hx⟩ := hs.held hlt'
  have hm : markAt l i w = (decide (l[i].kind = 5) && decide (l[i].text = w)) := by unfold markAt tokAt; rw [List.getElem?_eq_getElem hlt']
  refine r_tev rfl rfl rfl <| r_tev rfl rfl rfl <| r_take rfl <| r_indexAddr rfl rfl rfl rfl (by omega) ?_; refine r_take rfl <| r_fieldAddr rfl rfl <| r_take rfl ?_
  refine r_load1 rfl rfl (SlAt.cell tokCells_len hx hlt' 0 rfl) ?_
  refine r_tev rfl rfl rfl <| r_ev rfl rfl <| r_ev rfl rfl ?_
  refine r_gdec rfl rfl (fun h5 => ?_) (fun h5 => ?_)
  ·refine r_tev rfl rfl rfl <| r_tev rfl rfl rfl <| r_take rfl <| r_indexAddr rfl rfl rfl rfl (by omega) ?_; refine r_take rfl <| r_fieldAddr rfl rfl <| r_take rfl ?_
   refine r_load1 rfl rfl (SlAt.cell tokCells_len hx hlt' 1 rfl) ?_
   refine r_tev rfl rfl rfl <| r_tev rfl rfl rfl <| r_ev rfl rfl <| r_ev rfl rfl <| r_nn <| r_retc ?_
   exact r_ret1 [] rfl rfl (by simp) ⟨by rw [hm]; simp [h5], rfl, rfl⟩
  ·refine r_pass rfl rfl rfl <| r_pass rfl rfl rfl <| r_pass rfl rfl rfl <| r_pass rfl rfl rfl <| r_pass rfl rfl rfl <| r_pass rfl rfl rfl <| r_pass rfl rfl rfl <| r_ev rfl rfl <| r_ev rfl rfl <| r_nn <| r_retc ?_
   exact r_ret1 [] rfl rfl (by simp) ⟨by rw [hm]; simp [h5], rfl, rfl⟩
 ·have hm : markAt l i w = false := by unfold markAt tokAt; rw [List.getElem?_eq_none (by omega)]
  refine r_pass rfl rfl rfl <| r_pass rfl rfl rfl <| r_pass rfl rfl rfl <| r_pass rfl rfl rfl <| r_pass rfl rfl rfl <| r_pass rfl rfl rfl <| r_ev rfl rfl <| r_ev rfl rfl <| r_pass rfl rfl rfl <| r_pass rfl rfl rfl <| r_pass rfl rfl rfl <| r_pass rfl rfl rfl <| r_pass rfl rfl rfl <| r_pass rfl rfl rfl ?_; refine r_pass rfl rfl rfl <| r_ev rfl rfl <| r_ev rfl rfl <| r_nn <| r_retc ?_
  exact r_ret1 [] rfl rfl (by simp) ⟨by rw [hm], rfl, rfl⟩
theorem starts_spec (g : Ghost) (t : Tok) : Pure Tryz.prog 87 [tokV t] g (.bool (startsT t)) := by
 refine spec_of_run Tryz.func87 rfl Tryz.ntmps87 rfl fun E hE => ?_
 refine r_sr <| r_box rfl rfl rfl (fun b => ?_); refine r_ev rfl rfl <| r_nn <| r_sr <| r_fieldAddr rfl rfl <| r_loadB1 0 rfl rfl rfl rfl <| r_ev rfl rfl <| r_ev rfl rfl ?_
 refine r_gdec rfl rfl (fun h1 => ?_) (fun h1 => ?_)
 ·refine r_pass rfl rfl rfl <| r_pass rfl rfl rfl <| r_pass rfl rfl rfl <| r_ev rfl rfl <| r_ev rfl rfl <| r_pass rfl rfl rfl <| r_pass rfl rfl rfl <| r_pass rfl rfl rfl <| r_pass rfl rfl rfl <| r_passU rfl rfl <| r_passU rfl rfl <| r_passU rfl rfl <| r_pass rfl rfl rfl <| r_ev rfl rfl ?_; refine r_ev rfl rfl <| r_nn <| r_retc ?_
  exact r_ret1 [] rfl rfl (by simp) ⟨by simp [startsT, h1], rfl, rfl⟩
 refine r_take rfl <| r_fieldAddr rfl rfl <| r_take rfl <| r_loadB1 0 rfl rfl rfl rfl <| r_tev rfl rfl rfl <| r_ev rfl rfl <| r_ev rfl rfl ?_
 refine r_gdec rfl rfl (fun h2 => ?_) (fun h2 => ?_)
 ·refine r_pass rfl rfl rfl <| r_pass rfl rfl rfl <| r_pass rfl rfl rfl <| r_pass rfl rfl rfl <| r_passU rfl rfl <| r_passU rfl rfl <| r_passU rfl rfl <| r_pass rfl rfl rfl <| r_ev rfl rfl <| r_ev rfl rfl <| r_nn <| r_retc ?_
  exact r_ret1 [] rfl rfl (by simp) ⟨by simp [startsT, h2], rfl, rfl⟩
 refine r_take rfl <| r_fieldAddr rfl rfl <| r_take rfl <| r_loadB1 0 rfl rfl rfl rfl <| r_tev rfl rfl rfl <| r_tev rfl rfl rfl ?_
 refine r_gdec rfl rfl (fun h5 => ?_) (fun h5 => ?_)
 ·refine r_take rfl <| r_fieldAddr rfl rfl <| r_take rfl <| r_loadB1 0 rfl rfl rfl rfl <| r_tev rfl rfl rfl <| r_tev rfl rfl rfl <| r_ev rfl rfl <| r_ev rfl rfl <| r_nn <| r_retc ?_
  exact r_ret1 [] rfl rfl (by simp) ⟨by simp [startsT, h1, h2, h5], rfl, rfl⟩
 ·refine r_pass rfl rfl rfl <| r_pass rfl rfl rfl <| r_pass rfl rfl rfl <| r_tev rfl rfl rfl <| r_ev rfl rfl <| r_ev rfl rfl <| r_nn <| r_retc ?_
  exact r_ret1 [] rfl rfl (by simp) ⟨by simp [startsT, h1, h2, h5], rfl, rfl⟩
def idxOf (n : Nat) (i : Int) : Nat := if i < 0 then n else min i.toNat n
theorem index_spec (g : Ghost) (v : Value) (l : List Tok) (hs : ToksAt g v l) (i : Int) : Pure Tryz.prog 115 [v, .int .i64 i] g (.int .i64 (idxOf l.length i)) := by
 refine spec_of_run Tryz.func115 rfl Tryz.ntmps115 rfl fun E hE => ?_
 refine r_sr <| r_ev rfl rfl <| r_nn <| r_seq <| r_sr <| r_ev rfl rfl <| r_ev rfl rfl <| r_nn ?_
 refine r_cond rfl (fun h => ?_) (fun h => ?_)
 ·refine r_sr <| r_ev rfl rfl <| r_len_at rfl rfl (by assumption) ?_; refine r_ev rfl rfl <| r_nn <| r_retc <| r_then_ret ?_
  exact r_ret1 [] rfl rfl (by simp) ⟨vi (by simp [idxOf, h]), rfl, rfl⟩
 ·refine r_skip <| r_then_normal <| r_sr <| r_ev rfl rfl <| r_ev rfl rfl <| r_len_at rfl rfl (by assumption) ?_; refine r_min rfl rfl rfl <| r_ev rfl rfl <| r_nn <| r_retc ?_
  exact r_ret1 [] rfl rfl (by simp) ⟨vi (by simp only [idxOf, h, if_false]; omega), rfl, rfl⟩
end Go.Proofs.YtpjehhnaojjanaaGreatDoor
-- sum 429ec2ceb346b693

/- The walks of package readtype: atom, applied, whole, over every list of tokens. -/
namespace Go.Proofs.YtpjehhnaojjanaaGreatDoor
open Go Go.Eng Go.Th Go.Proofs
set_option maxRecDepth 10000
set_option maxHeartbeats 4000000
attribute [local irreducible] wpList Code.wp Run bodyPost Go.Eng.Ends Exit.then Exit.inBlock Again Wq Kq
def rdPost (n i : Nat) (r : TR) (v : Value) (g' : Ghost) : Prop := match r with
 | .ok (t, j) => ∃ tv, v = .tuple #[tv, .int .i64 j, .nilIface] ∧ TyV g' tv t ∧ i < j ∧ j ≤ n
 | .error p => ∃ (tv : Value) (j : Nat) (t : Ty), v = .tuple #[tv, .int .i64 j, failV p] ∧ TyV g' tv t ∧ j ≤ n + 1 + (n - i)
theorem toks_some {l : List Tok} {i : Nat} (h : i < l.length) : l[i]? = some l[i] := List.getElem?_eq_getElem h
theorem atom_step {l : List Tok} (hb : TB l) (m : Nat) (hW : ∀ g v i, ToksAt g v l → i ≤ l.length → l.length - i < m → SpecN Tryz.prog 114 [v, .int .i64 i] g (rdPost l.length i (tread l .whole i)))
  (g : Ghost) (v : Value) (i : Nat) (hs : ToksAt g v l) (hi : i ≤ l.length) (hm : l.length - i < m + 1) : SpecN Tryz.prog 127 [v, .int .i64 i] g (rdPost l.length i (tread l .atom i)) := by
 have hb1 := hb.1
 have hr := tread_atom l i
 refine spec_of_run Tryz.func127 rfl Tryz.ntmps127 rfl fun E hE => ?_
 refine r_sr ?_
 refine r_alloc rfl (fun b4 => ?_)
 refine r_ev rfl rfl <| r_ev rfl rfl <| r_nn <| r_seq <| r_block <| r_sr <| r_ev rfl rfl <| r_ev rfl rfl <| r_len_at rfl rfl (by assumption) ?_; refine r_ev rfl rfl <| r_ev rfl rfl ?_
 refine r_gdec rfl rfl (fun hge => ?_) (fun hge => ?_)
 ·rw [List.getElem?_eq_none (by omega)] at hr
  refine r_pass rfl rfl rfl <| r_pass rfl rfl rfl <| r_pass rfl rfl rfl <| r_pass rfl rfl rfl <| r_pass rfl rfl rfl <| r_pass rfl rfl rfl <| r_ev rfl rfl <| r_ev rfl rfl <| r_nn <| r_cond_true rfl <| r_sr <| r_build rfl rfl (by rfl) ?_; refine r_ev rfl rfl <| r_ev rfl rfl <| r_ev rfl rfl ?_
  refine r_callP rfl rfl (unexpected_spec g v l hs hb i (by omega)) ?_
  refine r_storeA 0 rfl rfl rfl rfl (by rfl) (by repeat' (first | exact rfl | assumption | refine all_cons ?_ ?_)) rfl ?_; refine r_ev rfl rfl <| r_ev rfl rfl <| r_nn <| r_retc <| r_in_ret <| r_then_ret ?_
  refine r_ret3 [] rfl (res_blk 0 rfl rfl (by rfl)) (.tmp rfl) (.tmp rfl) (by simp) ⟨?_, rfl⟩
  rw [hr]
  exact ⟨_, i, noT, rfl, noT_V g, by omega⟩
 have hlt : i < l.length := by omega
 rw [toks_some hlt] at hr
 simp only at hr
 obtain ⟨b, off, cap, rfl, hx⟩ := hs.held hlt
 refine r_tev rfl rfl rfl <| r_tev rfl rfl rfl <| r_take rfl <| r_indexAddr rfl rfl rfl rfl (by omega) ?_; refine r_take rfl ?_
 refine r_load rfl rfl (vs := tokCells l[i]) (toks_rd hx hlt) rfl ?_
 refine r_take rfl ?_
 refine r_callP rfl rfl (starts_spec g l[i]) ?_
 cases hst : startsT l[i] with
 | false =>
  have hk : ¬ l[i].kind = 1 ∧ ¬ l[i].kind = 2 ∧ ¬ (l[i].kind = 5 ∧ l[i].text = [40]) := by
   simp only [startsT, Bool.or_eq_false_iff, Bool.and_eq_false_iff, decide_eq_false_iff_not] at hst
   exact ⟨hst.1.1, hst.1.2, fun h => hst.2.elim (fun h' => h' h.1) (fun h' => h' h.2)⟩
  rw [if_neg hk.1, if_neg hk.2.1, if_neg hk.2.2] at hr
  refine r_tev rfl rfl rfl <| r_ev rfl rfl <| r_ev rfl rfl <| r_nn <| r_cond_true rfl <| r_sr <| r_build rfl rfl (by rfl) ?_; refine r_ev rfl rfl <| r_ev rfl rfl <| r_ev rfl rfl ?_
  refine r_callP rfl rfl (unexpected_spec g _ l hs hb i (by omega)) ?_
  refine r_storeA 0 rfl rfl rfl rfl (by rfl) (by repeat' (first | exact rfl | assumption | refine all_cons ?_ ?_)) rfl ?_; refine r_ev rfl rfl <| r_ev rfl rfl <| r_nn <| r_retc <| r_in_ret <| r_then_ret ?_
  refine r_ret3 [] rfl (res_blk 0 rfl rfl (by rfl)) (.tmp rfl) (.tmp rfl) (by simp) ⟨?_, rfl⟩
  rw [hr]
  exact ⟨_, i, noT, rfl, noT_V g, by omega⟩
 | true =>
  refine r_tev rfl rfl rfl <| r_ev rfl rfl <| r_ev rfl rfl <| r_nn <| r_cond_false rfl <| r_sr <| r_ev rfl rfl <| r_ev rfl rfl <| r_indexAddr rfl rfl rfl rfl (by omega) ?_; refine r_fieldAddr rfl rfl ?_
  refine r_load1 rfl rfl (SlAt.cell tokCells_len hx hlt 0 rfl) ?_
  refine r_ev rfl rfl <| r_ev rfl rfl <| r_nn ?_
  refine r_cond rfl (fun h1 => ?_) (fun h1 => ?_)
  ·rw [if_pos h1] at hr
   refine r_sr <| r_ev rfl rfl <| r_ev rfl rfl <| r_indexAddr rfl rfl rfl rfl (by omega) ?_; refine r_fieldAddr rfl rfl ?_
   refine r_load1 rfl rfl (SlAt.cell tokCells_len hx hlt 1 rfl) ?_
   refine r_build rfl rfl (by rfl) ?_; refine r_ev rfl rfl <| r_add rfl rfl rfl (by omega) ?_; refine r_storeA 0 rfl rfl rfl rfl (by rfl) (by repeat' (first | exact rfl | assumption | refine all_cons ?_ ?_)) rfl ?_; refine r_ev rfl rfl <| r_ev rfl rfl <| r_nn <| r_retc <| r_in_ret <| r_then_ret ?_
   refine r_ret3 [] rfl (res_blk 0 rfl rfl (by rfl)) (.tmp rfl) (.tmp rfl) (by simp) ⟨?_, rfl⟩
   rw [hr]
   exact ⟨_, rfl, nameT_V g _, by omega, by omega⟩
  rw [if_neg h1] at hr
  refine r_sr <| r_ev rfl rfl <| r_ev rfl rfl <| r_indexAddr rfl rfl rfl rfl (by omega) ?_; refine r_fieldAddr rfl rfl ?_
  refine r_load1 rfl rfl (SlAt.cell tokCells_len hx hlt 0 rfl) ?_
  refine r_ev rfl rfl <| r_ev rfl rfl <| r_nn ?_
  refine r_cond rfl (fun h2 => ?_) (fun h2 => ?_)
  ·rw [if_pos h2] at hr
   refine r_sr <| r_ev rfl rfl <| r_ev rfl rfl <| r_indexAddr rfl rfl rfl rfl (by omega) ?_; refine r_fieldAddr rfl rfl ?_
   refine r_load1 rfl rfl (SlAt.cell tokCells_len hx hlt 1 rfl) ?_
   refine r_callN rfl rfl (tCon_spec g l[i].text _ [] _ (slNil g 5) (tysNil g) (by simp)) ?_
   rintro w g1 ⟨sl, rfl, hw⟩ hle
   obtain ⟨_, hsl, _⟩ := hw.args
   obtain ⟨a, m', c, rfl⟩ := SlAt.form hsl
   refine r_ev rfl rfl <| r_add rfl rfl rfl (by omega) ?_; refine r_storeA 0 rfl rfl rfl rfl (by rfl) (by repeat' (first | exact rfl | assumption | refine all_cons ?_ ?_)) rfl ?_; refine r_ev rfl rfl <| r_ev rfl rfl <| r_nn <| r_retc <| r_in_ret <| r_then_ret ?_
   refine r_ret3 [] rfl (res_blk 0 rfl rfl (by rfl)) (.tmp rfl) (.tmp rfl) (by simp) ⟨?_, rfl⟩
   rw [hr]
   exact ⟨_, rfl, ⟨_, rfl, hw⟩, by omega, by omega⟩
  rw [if_neg h2] at hr
  have hp : l[i].kind = 5 ∧ l[i].text = [40] := by
   simp only [startsT, h1, h2, decide_false, Bool.false_or, Bool.and_eq_true, decide_eq_true_eq] at hst
   exact hst
  rw [if_pos hp] at hr
  refine r_skip <| r_in_normal <| r_then_normal <| r_sr <| r_ev rfl rfl <| r_ev rfl rfl <| r_add rfl rfl rfl (by omega) ?_
  refine r_callN rfl (xs := _) rfl (hW g _ (i + 1) hs (by omega) (by omega)) ?_
  rintro w g1 hw hle
  cases hq : tread l .whole (i + 1) with
  | error p =>
   rw [hq] at hw hr
   simp only at hr
   obtain ⟨tv, j, t, rfl, ⟨sl, rfl, ht⟩, hj⟩ := hw
   obtain ⟨_, hsl, _⟩ := ht.args
   obtain ⟨a, m', c, rfl⟩ := SlAt.form hsl
   unfold failV
   refine r_ev rfl rfl <| r_ev rfl rfl <| r_ev rfl rfl <| r_ev rfl rfl ?_
   refine r_alloc rfl (fun b7 => ?_)
   refine r_storeA 0 rfl rfl rfl rfl (by rfl) (by repeat' (first | exact rfl | assumption | refine all_cons ?_ ?_)) rfl ?_; refine r_ev rfl rfl <| r_ev rfl rfl <| r_nn <| r_seq <| r_sr <| r_ev rfl rfl <| r_eql_nil_held rfl rfl <| r_ev rfl rfl <| r_pass rfl rfl rfl <| r_pass rfl rfl rfl <| r_pass rfl rfl rfl <| r_pass rfl rfl rfl <| r_ev rfl rfl <| r_nn ?_; refine r_cond_false rfl <| r_skip <| r_then_normal <| r_sr <| r_loadB 0 rfl rfl rfl (by rfl) ?_; refine r_ev rfl rfl <| r_add rfl rfl rfl (by omega) ?_; refine r_ev rfl rfl <| r_storeA 1 rfl rfl rfl rfl (by rfl) (by repeat' (first | exact rfl | assumption | refine all_cons ?_ ?_)) rfl ?_; refine r_ev rfl rfl <| r_ev rfl rfl <| r_nn <| r_retc ?_
   refine r_ret3 [] rfl (res_blk 1 rfl rfl (by rfl)) (.tmp rfl) (.tmp rfl) (by simp) ⟨?_, rfl⟩
   rw [hr]
   exact ⟨_, j + 1, t, rfl, ⟨_, rfl, ht⟩, by omega⟩
  | ok q =>
   obtain ⟨t, j⟩ := q
   rw [hq] at hw hr
   simp only at hr
   obtain ⟨tv, rfl, ⟨sl, rfl, ht⟩, hj1, hj2⟩ := hw
   obtain ⟨_, hsl, _⟩ := ht.args
   obtain ⟨a, m', c, rfl⟩ := SlAt.form hsl
   refine r_ev rfl rfl <| r_ev rfl rfl <| r_ev rfl rfl <| r_ev rfl rfl ?_
   refine r_alloc rfl (fun b7 => ?_)
   refine r_storeA 0 rfl rfl rfl rfl (by rfl) (by repeat' (first | exact rfl | assumption | refine all_cons ?_ ?_)) rfl ?_; refine r_ev rfl rfl <| r_ev rfl rfl <| r_nn <| r_seq <| r_sr <| r_ev rfl rfl <| r_eql_nil_nil rfl rfl <| r_ev rfl rfl <| r_tev rfl rfl rfl <| r_tev rfl rfl rfl <| r_take rfl ?_
   refine r_callP rfl rfl (mark_spec5 g1 _ l (hs.mono hle) j [41]) ?_
   cases hk : markAt l j [41] with
   | true =>
    rw [hk] at hr
    refine r_tev rfl rfl rfl <| r_ev rfl rfl <| r_nn <| r_cond_false rfl <| r_skip <| r_then_normal <| r_sr <| r_loadB 0 rfl rfl rfl (by rfl) ?_; refine r_ev rfl rfl <| r_add rfl rfl rfl (by omega) ?_; refine r_ev rfl rfl <| r_storeA 1 rfl rfl rfl rfl (by rfl) (by repeat' (first | exact rfl | assumption | refine all_cons ?_ ?_)) rfl ?_; refine r_ev rfl rfl <| r_ev rfl rfl <| r_nn <| r_retc ?_
    refine r_ret3 [] rfl (res_blk 1 rfl rfl (by rfl)) (.tmp rfl) (.tmp rfl) (by simp) ⟨?_, rfl⟩
    rw [hr]
    have := tokAt_lt hk
    exact ⟨_, rfl, ⟨_, rfl, ht⟩, by omega, by omega⟩
   | false =>
    rw [hk] at hr
    refine r_tev rfl rfl rfl <| r_ev rfl rfl <| r_nn <| r_cond_true rfl <| r_region <| r_ev rfl rfl <| r_ev rfl rfl ?_
    refine r_callP rfl rfl (unexpected_spec g1 _ l (hs.mono hle) hb j (by omega)) ?_
    refine r_ev rfl rfl <| r_nn <| r_sr <| r_loadB 0 rfl rfl rfl (by rfl) ?_; refine r_ev rfl rfl <| r_add rfl rfl rfl (by omega) ?_; refine r_ev rfl rfl <| r_storeA 1 rfl rfl rfl rfl (by rfl) (by repeat' (first | exact rfl | assumption | refine all_cons ?_ ?_)) rfl ?_; refine r_ev rfl rfl <| r_ev rfl rfl <| r_nn <| r_retc ?_
    refine r_ret3 [] rfl (res_blk 1 rfl rfl (by rfl)) (.tmp rfl) (.tmp rfl) (by simp) ⟨?_, rfl⟩
    rw [hr]
    exact ⟨_, j + 1, t, rfl, ⟨_, rfl, ht⟩, by omega⟩
end Go.Proofs.YtpjehhnaojjanaaGreatDoor
-- sum 788a582bd718c4eb

/- The walks of package readtype: applied, whole, joined. -/
namespace Go.Proofs.YtpjehhnaojjanaaGreatDoor
open Go Go.Eng Go.Th Go.Proofs
set_option maxRecDepth 10000
set_option maxHeartbeats 4000000
attribute [local irreducible] wpList Code.wp Run bodyPost Go.Eng.Ends Exit.then Exit.inBlock Again Wq Kq
theorem TyV.cells5 {g : Ghost} {v : Value} {t : Ty} (h : TyV g v t) : ∃ a m c, v = .agg #[.int .i64 t.kind, str t.name, .int .i64 t.id, .int .i64 t.home, .slice a m c] ∧ TyAt g t (tyCells t (.slice a m c)) := by
 obtain ⟨sl, rfl, ht⟩ := h
 obtain ⟨_, hsl, _⟩ := ht.args
 obtain ⟨a, m, c, rfl⟩ := SlAt.form hsl
 exact ⟨a, m, c, rfl, ht⟩
theorem applied_step {l : List Tok} (hb : TB l) (m : Nat) (hA : ∀ g v i, ToksAt g v l → i ≤ l.length → l.length - i < m → SpecN Tryz.prog 127 [v, .int .i64 i] g (rdPost l.length i (tread l .atom i)))
  (g : Ghost) (v : Value) (i : Nat) (hs : ToksAt g v l) (hi : i ≤ l.length) (hm : l.length - i < m) : SpecN Tryz.prog 149 [v, .int .i64 i] g (rdPost l.length i (tread l .applied i)) := by
 have hb1 := hb.1
 have hr := tread_applied l i
 have hra := tread_atom l i
 refine spec_of_run Tryz.func149 rfl Tryz.ntmps149 rfl fun E hE => ?_
 refine r_sr ?_
 refine r_alloc rfl (fun b4 => ?_)
 refine r_ev rfl rfl <| r_ev rfl rfl <| r_nn <| r_sr <| r_ev rfl rfl <| r_ev rfl rfl ?_
 refine r_callN rfl rfl (hA g v i hs hi hm) ?_
 rintro w g1 hw hle
 cases hq : tread l .atom i with
 | error p =>
  rw [hq] at hw
  have hr' : tread l .applied i = .error p := by
   rw [hr]
   cases hl : l[i]? with
   | none => exact hq
   | some t =>
    simp only
    by_cases h2 : t.kind = 2
    ·rw [hl] at hra
     simp only [h2] at hra
     rw [hq] at hra
     simp at hra
    ·rw [if_neg h2]; exact hq
  obtain ⟨tv, j, t, rfl, hty, hj⟩ := hw
  obtain ⟨a, m', c, rfl, ht⟩ := hty.cells5
  unfold failV
  refine r_ev rfl rfl <| r_ev rfl rfl <| r_ev rfl rfl <| r_ev rfl rfl ?_
  refine r_alloc rfl (fun b7 => ?_)
  refine r_storeA 0 rfl rfl rfl rfl (by rfl) (by repeat' (first | exact rfl | assumption | refine all_cons ?_ ?_)) rfl ?_; refine r_ev rfl rfl <| r_ev rfl rfl <| r_nn <| r_seq <| r_sr <| r_ev rfl rfl <| r_neq_nil_held rfl rfl <| r_ev rfl rfl <| r_pass rfl rfl rfl <| r_pass rfl rfl rfl <| r_pass rfl rfl rfl <| r_pass rfl rfl rfl <| r_pass rfl rfl rfl <| r_pass rfl rfl rfl ?_; refine r_ev rfl rfl <| r_nn <| r_cond_true rfl <| r_sr <| r_loadB 0 rfl rfl rfl (by rfl) ?_; refine r_ev rfl rfl <| r_ev rfl rfl <| r_storeA 1 rfl rfl rfl rfl (by rfl) (by repeat' (first | exact rfl | assumption | refine all_cons ?_ ?_)) rfl ?_; refine r_ev rfl rfl <| r_ev rfl rfl <| r_nn <| r_retc <| r_then_ret ?_
  refine r_ret3 [] rfl (res_blk 1 rfl rfl (by rfl)) (.tmp rfl) (.tmp rfl) (by simp) ⟨?_, rfl⟩
  rw [hr']
  exact ⟨_, j, t, rfl, ⟨_, rfl, ht⟩, hj⟩
 | ok q =>
  obtain ⟨t, j⟩ := q
  rw [hq] at hw
  obtain ⟨tv, rfl, hty, hj1, hj2⟩ := hw
  have hlt : i < l.length := by omega
  rw [toks_some hlt] at hr hra
  simp only at hr hra
  obtain ⟨b, off, cap, rfl, hx⟩ := hs.held hlt
  obtain ⟨a, m', c, rfl, ht⟩ := hty.cells5
  refine r_ev rfl rfl <| r_ev rfl rfl <| r_ev rfl rfl <| r_ev rfl rfl ?_
  refine r_alloc rfl (fun b7 => ?_)
  refine r_storeA 0 rfl rfl rfl rfl (by rfl) (by repeat' (first | exact rfl | assumption | refine all_cons ?_ ?_)) rfl ?_; refine r_ev rfl rfl <| r_ev rfl rfl <| r_nn <| r_seq <| r_sr <| r_ev rfl rfl <| r_neq_nil_nil rfl rfl <| r_ev rfl rfl <| r_tev rfl rfl rfl <| r_tev rfl rfl rfl <| r_take rfl <| r_indexAddr rfl rfl rfl rfl (by omega) ?_; refine r_take rfl <| r_fieldAddr rfl rfl <| r_take rfl ?_
  refine r_load1 rfl rfl (SlAt.cell tokCells_len (fun k x h => hle _ _ _ (hx k x h)) hlt 0 rfl) ?_
  refine r_tev rfl rfl rfl <| r_ev rfl rfl <| r_nn ?_
  refine r_cond rfl (fun h2 => ?_) (fun h2 => ?_)
  ·have hr' : tread l .applied i = .ok (t, j) := by rw [hr, if_neg h2]; exact hq
   refine r_sr <| r_loadB 0 rfl rfl rfl (by rfl) ?_; refine r_ev rfl rfl <| r_ev rfl rfl <| r_storeA 1 rfl rfl rfl rfl (by rfl) (by repeat' (first | exact rfl | assumption | refine all_cons ?_ ?_)) rfl ?_; refine r_ev rfl rfl <| r_ev rfl rfl <| r_nn <| r_retc <| r_then_ret ?_
   refine r_ret3 [] rfl (res_blk 1 rfl rfl (by rfl)) (.tmp rfl) (.tmp rfl) (by simp) ⟨?_, rfl⟩
   rw [hr']
   exact ⟨_, rfl, ⟨_, rfl, ht⟩, hj1, hj2⟩
  have h2' : l[i].kind = 2 := Decidable.not_not.1 h2
  have hra' : (Except.ok (t, j) : TR) = .ok (conT l[i].text [], i + 1) := by rw [← hq, hra, h2']; simp
  simp only [Except.ok.injEq, Prod.mk.injEq] at hra'
  obtain ⟨rfl, rfl⟩ := hra'
  rw [if_pos h2'] at hr
  have hsv := hs.mono hle
  clear hra hq
  refine r_skip <| r_then_normal <| r_sr <| r_ev rfl rfl <| r_nn <| r_seq <| r_block ?_
  refine r_nilRow 49 5 ?_
  refine r_loop (ι := Nat × List Ty × Value × List Value × Ghost) (fun p => [(0, .slice (some ⟨b, off, none⟩) l.length cap), (4, ptr b4 0), (7, ptr b7 0), (8, .int .i64 p.1), (10, p.2.2.1)]) (fun p => p.2.2.2.2)
   (fun p => [.row 49 5 p.2.2.1 p.2.1.length p.2.2.2.1, .blk b7 49 (tyCells (conT l[i].text []) (.slice a m' c)), .blk b4 49 [.int .i64 0, str [], .int .i64 0, .int .i64 0, .slice none 0 0]])
   (fun p => i + 1 ≤ p.1 ∧ p.1 ≤ l.length ∧ p.2.1.length ≤ p.1 ∧ TysAt p.2.2.2.2 p.2.1 p.2.2.2.1 ∧ Ghost.le g1 p.2.2.2.2 ∧ tread l .applied i = tread l (.args l[i].text p.2.1) p.1) (fun p => l.length - p.1) (i + 1, [], .slice none 0 0, [], g1)
   ⟨Nat.le_refl _, hj2, by simp, tysNil g1, Ghost.le_refl _, hr⟩ ⟨rfl, rfl, rfl, rfl, rfl, trivial⟩ rfl rfl ?_
  rintro ⟨j, ta, slv, xs, g2⟩ ⟨k1, k2, k3, k4, k5, k6⟩
  simp only at k1 k2 k3 k4 k5 k6
  show Run E _ [(0, .slice (some ⟨b, off, none⟩) l.length cap), (4, ptr b4 0), (7, ptr b7 0), (8, .int .i64 j), (10, slv)] g2 [.row 49 5 slv ta.length xs, .blk b7 49 (tyCells (conT l[i].text []) (.slice a m' c)), .blk b4 49 [.int .i64 0, str [], .int .i64 0, .int .i64 0, .slice none 0 0]] _
  have hs2 := hsv.mono k5
  have hra := tread_args l l[i].text ta j
  refine r_cut [(0, .slice (some ⟨b, off, none⟩) l.length cap), (4, ptr b4 0), (7, ptr b7 0), (8, .int .i64 j), (10, slv)] (startsAt l j = true) ?_ ?_
  ·intro hst
   have hjl := startsAt_lt hst
   rw [hst] at hra
   simp only [if_true] at hra
   refine r_block <| r_sr ?_
   refine r_alloc rfl (fun b11 => ?_)
   refine r_nn <| r_seq <| r_sr <| r_ev rfl rfl <| r_ev rfl rfl ?_
   refine r_callN rfl rfl (hA g2 _ j hs2 k2 (by omega)) ?_
   rintro w g3 hw hle3
   cases hq : tread l .atom j with
   | error p =>
    rw [hq] at hw hra
    simp only at hra
    obtain ⟨tv, j', t', rfl, hty', hj'⟩ := hw
    obtain ⟨a2, m2, c2, rfl, ht2⟩ := hty'.cells5
    unfold failV
    refine r_ev rfl rfl <| r_ev rfl rfl <| r_ev rfl rfl <| r_ev rfl rfl <| r_storeA 0 rfl rfl rfl rfl (by rfl) (by repeat' (first | exact rfl | assumption | refine all_cons ?_ ?_)) rfl ?_; refine r_ev rfl rfl <| r_ev rfl rfl <| r_nn <| r_sr <| r_ev rfl rfl <| r_neq_nil_held rfl rfl <| r_nn <| r_cond_true rfl <| r_sr <| r_loadB 2 rfl rfl rfl (by rfl) ?_; refine r_ev rfl rfl <| r_ev rfl rfl <| r_storeA 3 rfl rfl rfl rfl (by rfl) (by repeat' (first | exact rfl | assumption | refine all_cons ?_ ?_)) rfl ?_; refine r_ev rfl rfl <| r_ev rfl rfl <| r_nn <| r_retc <| r_then_ret <| r_in_ret <| r_then_ret <| r_in_ret <| r_then_ret ?_
    refine r_ret3 [] rfl (res_blk 3 rfl rfl (by rfl)) (.tmp rfl) (.tmp rfl) (by simp) ⟨?_, rfl⟩
    rw [k6, hra]
    exact ⟨_, j', conT l[i].text [], rfl, ⟨_, rfl, (ht.mono k5).mono hle3⟩, by omega⟩
   | ok q =>
    obtain ⟨x, j'⟩ := q
    rw [hq] at hw hra
    simp only at hra
    obtain ⟨tv, rfl, hty', hj1', hj2'⟩ := hw
    rw [if_pos hj1'] at hra
    obtain ⟨a2, m2, c2, rfl, ht2⟩ := hty'.cells5
    refine r_ev rfl rfl <| r_ev rfl rfl <| r_ev rfl rfl <| r_ev rfl rfl <| r_storeA 0 rfl rfl rfl rfl (by rfl) (by repeat' (first | exact rfl | assumption | refine all_cons ?_ ?_)) rfl ?_; refine r_ev rfl rfl <| r_ev rfl rfl <| r_nn <| r_sr <| r_ev rfl rfl <| r_neq_nil_nil rfl rfl <| r_nn <| r_cond_false rfl <| r_skip <| r_then_normal <| r_region <| r_ev rfl rfl <| r_loadB 0 rfl rfl rfl (by rfl) ?_
    refine r_buildSlice rfl rfl (by rfl) (by rfl) (by rfl) (by rfl) (by rfl) (fun b2 => ?_)
    refine r_appendRow 2 0 rfl rfl rfl rfl rfl (by rfl) (by rfl) rfl (by unfold maxLen; omega) (by omega) (fun v' _ => ?_)
    refine r_ev rfl rfl <| r_nil <| r_in_normal <| r_then_normal ?_
    refine r_drop (own' := [_, _, _]) (.cons _ (.cons _ (List.Sublist.refl _))) ?_
    refine r_again (j', ta ++ [x], v', xs ++ tyCells x (.slice a2 m2 c2), g3) ⟨by simp only; omega, hj2', by simp; omega, TysAt.snoc ht2 (k4.mono hle3), Ghost.le_trans k5 hle3, by simp only; rw [k6, hra]⟩ (by simp only; omega) ⟨rfl, rfl, rfl, rfl, rfl, trivial⟩ rfl ?_
    simp [tyCells, repN]
  ·intro K hK
   refine r_sr <| r_ev rfl rfl <| r_ev rfl rfl <| r_len_sl rfl rfl <| r_ev rfl rfl <| r_ev rfl rfl ?_
   refine r_gdec rfl rfl (fun hjl => ?_) (fun hjl => ?_)
   ·have hjl' : j < l.length := by omega
    refine r_tev rfl rfl rfl <| r_tev rfl rfl rfl <| r_take rfl <| r_indexAddr rfl rfl rfl rfl (by omega) ?_; refine r_take rfl ?_
    refine r_load rfl rfl (vs := tokCells l[j]) (toks_rd (fun k x h => k5 _ _ _ (hle _ _ _ (hx k x h))) hjl') rfl ?_
    refine r_take rfl ?_
    refine r_callP rfl rfl (starts_spec g2 l[j]) ?_
    cases hst : startsT l[j] with
    | true =>
     refine r_ev rfl rfl <| r_nn <| r_cond_true rfl <| r_skip <| r_then_normal ?_
     exact hK _ (by unfold startsAt; rw [toks_some hjl']; exact hst) ⟨rfl, rfl, rfl, rfl, rfl, trivial⟩
    | false =>
     refine r_ev rfl rfl <| r_nn <| r_cond_false rfl <| r_exit <| r_then_exit <| r_then_exit <| r_in_exit <| r_then_normal <| r_sr <| r_fieldAddr rfl rfl <| r_loadB1 1 rfl rfl rfl rfl <| r_ev rfl rfl ?_
     have hst' : startsAt l j = false := by unfold startsAt; rw [toks_some hjl']; exact hst
     rw [hst'] at hra
     refine r_publishRow (fun g3 hg3 hs3 => ?_)
     skip
     refine r_callN rfl rfl (tCon_spec g3 l[i].text slv ta xs hs3 (k4.mono hg3) (by omega)) ?_
     rintro w g4 hw hle4
     obtain ⟨a2, m2, c2, rfl, ht2⟩ := hw.cells5
     refine r_ev rfl rfl <| r_storeA 1 rfl rfl rfl rfl (by rfl) (by repeat' (first | exact rfl | assumption | refine all_cons ?_ ?_)) rfl ?_; refine r_ev rfl rfl <| r_ev rfl rfl <| r_nn <| r_retc ?_
     refine r_ret3 [] rfl (res_blk 1 rfl rfl (by rfl)) (.tmp rfl) (.tmp rfl) (by simp) ⟨?_, rfl⟩
     rw [k6, hra]
     exact ⟨_, rfl, ⟨_, rfl, ht2⟩, by omega, k2⟩
   ·refine r_pass rfl rfl rfl <| r_pass rfl rfl rfl <| r_pass rfl rfl rfl <| r_pass rfl rfl rfl <| r_pass rfl rfl rfl <| r_ev rfl rfl <| r_nn <| r_cond_false rfl <| r_exit <| r_then_exit <| r_then_exit <| r_in_exit <| r_then_normal <| r_sr ?_; refine r_fieldAddr rfl rfl <| r_loadB1 1 rfl rfl rfl rfl <| r_ev rfl rfl ?_
    have hst' : startsAt l j = false := by unfold startsAt; rw [List.getElem?_eq_none (by omega)]
    rw [hst'] at hra
    refine r_publishRow (fun g3 hg3 hs3 => ?_)
    skip
    refine r_callN rfl rfl (tCon_spec g3 l[i].text slv ta xs hs3 (k4.mono hg3) (by omega)) ?_
    rintro w g4 hw hle4
    obtain ⟨a2, m2, c2, rfl, ht2⟩ := hw.cells5
    refine r_ev rfl rfl <| r_storeA 1 rfl rfl rfl rfl (by rfl) (by repeat' (first | exact rfl | assumption | refine all_cons ?_ ?_)) rfl ?_; refine r_ev rfl rfl <| r_ev rfl rfl <| r_nn <| r_retc ?_
    refine r_ret3 [] rfl (res_blk 1 rfl rfl (by rfl)) (.tmp rfl) (.tmp rfl) (by simp) ⟨?_, rfl⟩
    rw [k6, hra]
    exact ⟨_, rfl, ⟨_, rfl, ht2⟩, by omega, k2⟩
theorem whole_step {l : List Tok} (hb : TB l) (m : Nat) (hW : ∀ g v i, ToksAt g v l → i ≤ l.length → l.length - i < m → SpecN Tryz.prog 114 [v, .int .i64 i] g (rdPost l.length i (tread l .whole i)))
  (hP : ∀ g v i, ToksAt g v l → i ≤ l.length → l.length - i < m + 1 → SpecN Tryz.prog 149 [v, .int .i64 i] g (rdPost l.length i (tread l .applied i)))
  (g : Ghost) (v : Value) (i : Nat) (hs : ToksAt g v l) (hi : i ≤ l.length) (hm : l.length - i < m + 1) : SpecN Tryz.prog 114 [v, .int .i64 i] g (rdPost l.length i (tread l .whole i)) := by
 have hb1 := hb.1
 have hr := tread_whole l i
 refine spec_of_run Tryz.func114 rfl Tryz.ntmps114 rfl fun E hE => ?_
 refine r_sr ?_
 refine r_alloc rfl (fun b4 => ?_)
 refine r_ev rfl rfl <| r_ev rfl rfl <| r_nn <| r_sr <| r_ev rfl rfl <| r_ev rfl rfl ?_
 refine r_callN rfl rfl (hP g v i hs hi hm) ?_
 rintro w g1 hw hle
 cases hq : tread l .applied i with
 | error p =>
  rw [hq] at hw hr
  simp only at hr
  obtain ⟨tv, j, t, rfl, hty, hj⟩ := hw
  obtain ⟨a, m', c, rfl, ht⟩ := hty.cells5
  unfold failV
  refine r_ev rfl rfl <| r_ev rfl rfl <| r_ev rfl rfl <| r_ev rfl rfl ?_
  refine r_alloc rfl (fun b7 => ?_)
  refine r_storeA 0 rfl rfl rfl rfl (by rfl) (by repeat' (first | exact rfl | assumption | refine all_cons ?_ ?_)) rfl ?_; refine r_ev rfl rfl <| r_ev rfl rfl <| r_nn <| r_seq <| r_sr <| r_ev rfl rfl <| r_neq_nil_held rfl rfl <| r_ev rfl rfl <| r_pass rfl rfl rfl <| r_pass rfl rfl rfl <| r_pass rfl rfl rfl <| r_pass rfl rfl rfl <| r_ev rfl rfl <| r_nn ?_; refine r_cond_true rfl <| r_sr <| r_loadB 0 rfl rfl rfl (by rfl) ?_; refine r_ev rfl rfl <| r_ev rfl rfl <| r_storeA 1 rfl rfl rfl rfl (by rfl) (by repeat' (first | exact rfl | assumption | refine all_cons ?_ ?_)) rfl ?_; refine r_ev rfl rfl <| r_ev rfl rfl <| r_nn <| r_retc <| r_then_ret ?_
  refine r_ret3 [] rfl (res_blk 1 rfl rfl (by rfl)) (.tmp rfl) (.tmp rfl) (by simp) ⟨?_, rfl⟩
  rw [hr]
  exact ⟨_, j, t, rfl, ⟨_, rfl, ht⟩, hj⟩
 | ok q =>
  obtain ⟨t, j⟩ := q
  rw [hq] at hw hr
  simp only at hr
  obtain ⟨tv, rfl, hty, hj1, hj2⟩ := hw
  obtain ⟨a, m', c, rfl, ht⟩ := hty.cells5
  refine r_ev rfl rfl <| r_ev rfl rfl <| r_ev rfl rfl <| r_ev rfl rfl ?_
  refine r_alloc rfl (fun b7 => ?_)
  refine r_storeA 0 rfl rfl rfl rfl (by rfl) (by repeat' (first | exact rfl | assumption | refine all_cons ?_ ?_)) rfl ?_; refine r_ev rfl rfl <| r_ev rfl rfl <| r_nn <| r_seq <| r_sr <| r_ev rfl rfl <| r_neq_nil_nil rfl rfl <| r_ev rfl rfl <| r_tev rfl rfl rfl <| r_tev rfl rfl rfl <| r_take rfl ?_
  refine r_callP rfl rfl (mark_spec5 g1 v l (hs.mono hle) j arrowB) ?_
  cases hk : markAt l j arrowB with
  | false =>
   rw [hk] at hr
   refine r_tev rfl rfl rfl <| r_ev rfl rfl <| r_nn <| r_cond_true rfl <| r_sr <| r_loadB 0 rfl rfl rfl (by rfl) ?_; refine r_ev rfl rfl <| r_ev rfl rfl <| r_storeA 1 rfl rfl rfl rfl (by rfl) (by repeat' (first | exact rfl | assumption | refine all_cons ?_ ?_)) rfl ?_; refine r_ev rfl rfl <| r_ev rfl rfl <| r_nn <| r_retc <| r_then_ret ?_
   refine r_ret3 [] rfl (res_blk 1 rfl rfl (by rfl)) (.tmp rfl) (.tmp rfl) (by simp) ⟨?_, rfl⟩
   rw [hr]
   exact ⟨_, rfl, ⟨_, rfl, ht⟩, hj1, hj2⟩
  | true =>
   rw [hk] at hr
   have hjl := tokAt_lt hk
   simp only [if_true] at hr
   rw [if_pos (by omega)] at hr
   refine r_tev rfl rfl rfl <| r_ev rfl rfl <| r_nn <| r_cond_false rfl <| r_skip <| r_then_normal <| r_sr <| r_ev rfl rfl <| r_ev rfl rfl <| r_add rfl rfl rfl (by omega) ?_
   refine r_callN rfl (xs := _) rfl (hW g1 _ (j + 1) (hs.mono hle) (by omega) (by omega)) ?_
   rintro w g2 hw hle2
   cases hq2 : tread l .whole (j + 1) with
   | error p =>
    rw [hq2] at hw hr
    simp only at hr
    obtain ⟨tv, j2, t2, rfl, hty2, hj2'⟩ := hw
    obtain ⟨a2, m2, c2, rfl, ht2⟩ := hty2.cells5
    unfold failV
    refine r_ev rfl rfl <| r_ev rfl rfl <| r_ev rfl rfl <| r_ev rfl rfl ?_
    refine r_alloc rfl (fun b9 => ?_)
    refine r_storeA 0 rfl rfl rfl rfl (by rfl) (by repeat' (first | exact rfl | assumption | refine all_cons ?_ ?_)) rfl ?_; refine r_ev rfl rfl <| r_ev rfl rfl <| r_nn <| r_sr <| r_loadB 1 rfl rfl rfl (by rfl) ?_; refine r_loadB 0 rfl rfl rfl (by rfl) ?_
    refine r_callN rfl rfl (tArrow_spec g2 t t2 _ _ ⟨_, rfl, ht.mono hle2⟩ ⟨_, rfl, ht2⟩) ?_
    rintro w g3 hw hle3
    obtain ⟨a3, m3, c3, rfl, ht3⟩ := hw.cells5
    refine r_ev rfl rfl <| r_ev rfl rfl <| r_storeA 2 rfl rfl rfl rfl (by rfl) (by repeat' (first | exact rfl | assumption | refine all_cons ?_ ?_)) rfl ?_; refine r_ev rfl rfl <| r_ev rfl rfl <| r_nn <| r_retc ?_
    refine r_ret3 [] rfl (res_blk 2 rfl rfl (by rfl)) (.tmp rfl) (.tmp rfl) (by simp) ⟨?_, rfl⟩
    rw [hr]
    exact ⟨_, j2, _, rfl, ⟨_, rfl, ht3⟩, by omega⟩
   | ok q2 =>
    obtain ⟨t2, j2⟩ := q2
    rw [hq2] at hw hr
    simp only at hr
    obtain ⟨tv, rfl, hty2, hk1, hk2⟩ := hw
    obtain ⟨a2, m2, c2, rfl, ht2⟩ := hty2.cells5
    refine r_ev rfl rfl <| r_ev rfl rfl <| r_ev rfl rfl <| r_ev rfl rfl ?_
    refine r_alloc rfl (fun b9 => ?_)
    refine r_storeA 0 rfl rfl rfl rfl (by rfl) (by repeat' (first | exact rfl | assumption | refine all_cons ?_ ?_)) rfl ?_; refine r_ev rfl rfl <| r_ev rfl rfl <| r_nn <| r_sr <| r_loadB 1 rfl rfl rfl (by rfl) ?_; refine r_loadB 0 rfl rfl rfl (by rfl) ?_
    refine r_callN rfl rfl (tArrow_spec g2 t t2 _ _ ⟨_, rfl, ht.mono hle2⟩ ⟨_, rfl, ht2⟩) ?_
    rintro w g3 hw hle3
    obtain ⟨a3, m3, c3, rfl, ht3⟩ := hw.cells5
    refine r_ev rfl rfl <| r_ev rfl rfl <| r_storeA 2 rfl rfl rfl rfl (by rfl) (by repeat' (first | exact rfl | assumption | refine all_cons ?_ ?_)) rfl ?_; refine r_ev rfl rfl <| r_ev rfl rfl <| r_nn <| r_retc ?_
    refine r_ret3 [] rfl (res_blk 2 rfl rfl (by rfl)) (.tmp rfl) (.tmp rfl) (by simp) ⟨?_, rfl⟩
    rw [hr]
    exact ⟨_, rfl, ⟨_, rfl, ht3⟩, by omega, hk2⟩
theorem read_all {l : List Tok} (hb : TB l) : ∀ m : Nat,
  (∀ g v i, ToksAt g v l → i ≤ l.length → l.length - i < m → SpecN Tryz.prog 114 [v, .int .i64 i] g (rdPost l.length i (tread l .whole i))) ∧
  (∀ g v i, ToksAt g v l → i ≤ l.length → l.length - i < m → SpecN Tryz.prog 127 [v, .int .i64 i] g (rdPost l.length i (tread l .atom i)))
 | 0 => ⟨fun _ _ _ _ _ h => by omega, fun _ _ _ _ _ h => by omega⟩
 | m + 1 => by
  have ih := read_all hb m
  have hA := fun g v i => atom_step hb m ih.1 g v i
  exact ⟨fun g v i => whole_step hb m ih.1 (fun g v i => applied_step hb (m + 1) hA g v i) g v i, hA⟩
theorem whole_spec {l : List Tok} (hb : TB l) (g : Ghost) (v : Value) (i : Nat) (hs : ToksAt g v l) (hi : i ≤ l.length) : SpecN Tryz.prog 114 [v, .int .i64 i] g (rdPost l.length i (tread l .whole i)) := (read_all hb _).1 g v i hs hi (Nat.lt_succ_self _)
theorem atom_spec {l : List Tok} (hb : TB l) (g : Ghost) (v : Value) (i : Nat) (hs : ToksAt g v l) (hi : i ≤ l.length) : SpecN Tryz.prog 127 [v, .int .i64 i] g (rdPost l.length i (tread l .atom i)) := (read_all hb _).2 g v i hs hi (Nat.lt_succ_self _)
end Go.Proofs.YtpjehhnaojjanaaGreatDoor
-- sum 5361ba0d0210ec3b

/- The walks of the reference's reader (typedholesref5): the small methods. -/
namespace Go.Proofs.YtpjehhnaojjanaaGreatDoor
open Go Go.Eng Go.Th Go.Proofs
set_option maxRecDepth 10000
set_option maxHeartbeats 4000000
attribute [local irreducible] wpList Code.wp Run bodyPost Go.Eng.Ends Exit.then Exit.inBlock Again Wq Kq
inductive RS where
 | good (i : Nat)
 | bad (i : Nat) (p : Int)
def RS.cells (lv : Value) : RS → List Value
 | .good i => [lv, .int .i64 i, .bool false, .int .i64 0]
 | .bad i p => [lv, .int .i64 i, .bool true, .int .i64 p]
def isAt (l : List Tok) (i : Nat) (w : Bytes) : Bool := tokAt l i 5 w || tokAt l i 4 w
def kindAt (l : List Tok) (i : Nat) (k : Int) : Bool := match l[i]? with
 | some t => decide (t.kind = k)
 | none => false
def RS.kindIs (l : List Tok) (k : Int) : RS → Bool
 | .good i => kindAt l i k
 | .bad _ _ => false
def RS.isIs (l : List Tok) (w : Bytes) : RS → Bool
 | .good i => isAt l i w
 | .bad _ _ => false
def RS.skip (l : List Tok) (w : Bytes) : RS → RS
 | .good i => if isAt l i w then .good (i + 1) else .good i
 | .bad i p => .bad i p
def RS.fail (l : List Tok) : RS → RS
 | .good i => .bad i (failPos l i)
 | .bad i p => .bad i p
def RS.need (l : List Tok) (w : Bytes) : RS → RS
 | .good i => if isAt l i w then .good (i + 1) else .bad i (failPos l i)
 | .bad i p => .bad i p
def RS.word (l : List Tok) (k : Int) : RS → RS
 | .good i => if kindAt l i k then .good (i + 1) else .bad i (failPos l i)
 | .bad i p => .bad i p
def RS.text (l : List Tok) (k : Int) : RS → Bytes
 | .good i => match l[i]? with
  | some t => if t.kind = k then t.text else []
  | none => []
 | .bad _ _ => []
def RS.ok (l : List Tok) : RS → Prop
 | .good i => i ≤ l.length
 | .bad i _ => i ≤ l.length
def posAt (l : List Tok) (i : Nat) : Int := match l[i]? with
 | some t => t.pos
 | none => 0
def RS.idx : RS → Nat
 | .good i => i
 | .bad i _ => i
end Go.Proofs.YtpjehhnaojjanaaGreatDoor
-- sum ae850f068926ac46

/- The walks of the reference's reader (typedholesref5): Fail, Skip, Need, Word, New. -/
namespace Go.Proofs.YtpjehhnaojjanaaGreatDoor
open Go Go.Eng Go.Th Go.Proofs
set_option maxRecDepth 10000
set_option maxHeartbeats 4000000
attribute [local irreducible] wpList Code.wp Run bodyPost Go.Eng.Ends Exit.then Exit.inBlock Again Wq Kq
theorem slForm2 {g : Ghost} {size : Nat} {v : Value} {n : Nat} {xs : List Value} (h : SlAt g size v n xs) : ∃ a c, v = .slice a n c := by
 rcases h.2 with ⟨⟨a, c, rfl⟩, h0⟩ | ⟨b, off, cap, rfl, _⟩
 ·exact ⟨_, _, by rw [h0]⟩
 ·exact ⟨_, _, rfl⟩
end Go.Proofs.YtpjehhnaojjanaaGreatDoor
-- sum 6646c16645bc4d0d


/- Texts of expressions: the walks of typedholesref8.atom, closed and Expr. -/
import Derived.Test.YtcapgcohhgjngaaGreatDoorK20
import Derived.Test.YtcapgcohhgjngaaGreatDoorK12
import Derived.Test.YtcapgcohhgjngaaGreatDoorPgL
import Derived.Test.YtcapgcohhgjngaaGreatDoorK16
namespace Go.Proofs.YtcapgcohhgjngaaGreatDoor
open Go Go.Eng Go.Th Go.Proofs
set_option maxRecDepth 10000
set_option maxHeartbeats 4000000
attribute [local irreducible] wpList Code.wp Run bodyPost Go.Eng.Ends Exit.then Exit.inBlock Again Wq Kq
theorem atom8_spec (g : Ghost) (e : Ex) (v : Value) (hv : ExV g v e) : Pure Tryz.prog 48 [v] g (.bool (atomK e.kind)) := by
  obtain ⟨a1, c1, a2, c2, a3, m3, c3, xk, xa, rfl, h1, h2, h3, h4, h5⟩ := hv.open
  refine spec_of_run Tryz.func48 rfl Tryz.ntmps48 rfl fun E hE => ?_
  refine r_sr ?_
  refine r_box rfl rfl rfl (fun b1 => ?_)
  generalize e.kind = k
  refine r_ev rfl rfl ?_; refine r_nn ?_; refine r_seq ?_; refine r_sr ?_; refine r_fieldAddr rfl rfl ?_; refine r_loadB1 0 rfl rfl rfl rfl ?_; refine r_nn ?_; refine r_block ?_; refine r_seq ?_; refine r_sr ?_; refine r_ev rfl rfl ?_; refine r_ev rfl rfl ?_; refine r_nn ?_
  refine r_dec 5 rfl (fun k1 => ?_) (fun k1 => ?_)
  · refine r_cond_true rfl ?_; refine r_skip ?_; refine r_then_normal ?_; refine r_cond_true rfl ?_; refine r_sr ?_; refine r_ev rfl rfl ?_; refine r_nn ?_; refine r_retc ?_; refine r_in_ret ?_; refine r_then_ret ?_
    exact r_ret1 [] rfl rfl (by simp) ⟨by simp [atomK, k1], rfl, rfl⟩
  refine r_cond_false rfl ?_; refine r_sr ?_; refine r_ev rfl rfl ?_; refine r_ev rfl rfl ?_; refine r_nn ?_
  refine r_dec 5 rfl (fun k2 => ?_) (fun k2 => ?_)
  · refine r_cond_true rfl ?_; refine r_skip ?_; refine r_then_normal ?_; refine r_cond_true rfl ?_; refine r_sr ?_; refine r_ev rfl rfl ?_; refine r_nn ?_; refine r_retc ?_; refine r_in_ret ?_; refine r_then_ret ?_
    exact r_ret1 [] rfl rfl (by simp) ⟨by simp [atomK, k2], rfl, rfl⟩
  refine r_cond_false rfl ?_; refine r_sr ?_; refine r_ev rfl rfl ?_; refine r_ev rfl rfl ?_; refine r_nn ?_
  refine r_dec 5 rfl (fun k3 => ?_) (fun k3 => ?_)
  · refine r_cond_true rfl ?_; refine r_skip ?_; refine r_then_normal ?_; refine r_cond_true rfl ?_; refine r_sr ?_; refine r_ev rfl rfl ?_; refine r_nn ?_; refine r_retc ?_; refine r_in_ret ?_; refine r_then_ret ?_
    exact r_ret1 [] rfl rfl (by simp) ⟨by simp [atomK, k3], rfl, rfl⟩
  refine r_cond_false rfl ?_; refine r_sr ?_; refine r_ev rfl rfl ?_; refine r_ev rfl rfl ?_; refine r_nn ?_
  refine r_dec 5 rfl (fun k4 => ?_) (fun k4 => ?_)
  · refine r_cond_true rfl ?_; refine r_skip ?_; refine r_then_normal ?_; refine r_cond_true rfl ?_; refine r_sr ?_; refine r_ev rfl rfl ?_; refine r_nn ?_; refine r_retc ?_; refine r_in_ret ?_; refine r_then_ret ?_
    exact r_ret1 [] rfl rfl (by simp) ⟨by simp [atomK, k4], rfl, rfl⟩
  refine r_cond_false rfl ?_; refine r_sr ?_; refine r_ev rfl rfl ?_; refine r_ev rfl rfl ?_; refine r_nn ?_
  refine r_dec 5 rfl (fun k5 => ?_) (fun k5 => ?_)
  · refine r_cond_true rfl ?_; refine r_skip ?_; refine r_then_normal ?_; refine r_cond_true rfl ?_; refine r_sr ?_; refine r_ev rfl rfl ?_; refine r_nn ?_; refine r_retc ?_; refine r_in_ret ?_; refine r_then_ret ?_
    exact r_ret1 [] rfl rfl (by simp) ⟨by simp [atomK, k5], rfl, rfl⟩
  refine r_cond_false rfl ?_; refine r_region ?_; refine r_ev rfl rfl ?_; refine r_ev rfl rfl ?_; refine r_nn ?_
  refine r_dec 5 rfl (fun k6 => ?_) (fun k6 => ?_)
  · refine r_cond_true rfl ?_; refine r_sr ?_; refine r_ev rfl rfl ?_; refine r_nn ?_; refine r_retc ?_; refine r_in_ret ?_; refine r_then_ret ?_
    exact r_ret1 [] rfl rfl (by simp) ⟨by simp [atomK, k6], rfl, rfl⟩
  refine r_cond_false rfl ?_; refine r_skip ?_; refine r_in_normal ?_; refine r_then_normal ?_; refine r_sr ?_; refine r_ev rfl rfl ?_; refine r_nn ?_; refine r_retc ?_
  exact r_ret1 [] rfl rfl (by simp) ⟨by simp [atomK, k1, k2, k3, k4, k5, k6], rfl, rfl⟩
theorem closed8_of (g : Ghost) (e : Ex) (v : Value) (p : Bool) (hl : (showE e).length ≤ 100000) (hv : ExV g v e) (hX : Pure Tryz.prog 14 [v] g (str (showE e))) : Pure Tryz.prog 47 [v, .bool p] g (str (if p then showE e else Go.Th.paren (showE e))) := by
  obtain ⟨a1, c1, a2, c2, a3, m3, c3, xk, xa, rfl, h1, h2, h3, h4, h5⟩ := hv.open
  refine spec_of_run Tryz.func47 rfl Tryz.ntmps47 rfl fun E hE => ?_
  refine r_sr ?_
  refine r_box rfl rfl rfl (fun b2 => ?_)
  cases p with
  | true =>
    refine r_ev rfl rfl ?_; refine r_nn ?_; refine r_seq ?_; refine r_sr ?_; refine r_ev rfl rfl ?_; refine r_nn ?_; refine r_cond_true rfl ?_; refine r_sr ?_; refine r_loadB 0 rfl rfl rfl (by rfl) ?_
    refine r_callP rfl rfl hX ?_
    refine r_ev rfl rfl ?_; refine r_nn ?_; refine r_retc ?_; refine r_then_ret ?_
    exact r_ret1 [] rfl rfl (by simp) ⟨rfl, rfl, rfl⟩
  | false =>
    refine r_ev rfl rfl ?_; refine r_nn ?_; refine r_seq ?_; refine r_sr ?_; refine r_ev rfl rfl ?_; refine r_nn ?_; refine r_cond_false rfl ?_; refine r_skip ?_; refine r_then_normal ?_; refine r_sr ?_; refine r_loadB 0 rfl rfl rfl (by rfl) ?_
    refine r_callP rfl rfl hX ?_
    refine r_add_str rfl rfl rfl (by simp; omega) ?_
    refine r_add_str rfl rfl rfl (by simp; omega) ?_
    refine r_ev rfl rfl ?_; refine r_nn ?_; refine r_retc ?_
    exact r_ret1 [] rfl rfl (by simp) ⟨rfl, rfl, rfl⟩
theorem Expr8_aux (g : Ghost) : ∀ (N : Nat) (e : Ex) (v : Value), sizeE e < N → GoodE e → (showE e).length ≤ 100000 → ExV g v e → Pure Tryz.prog 14 [v] g (str (showE e))
  | 0, _, _, h, _, _, _ => by omega
  | N + 1, e, v, h, he, hl, hv => by
    have ih := Expr8_aux g N
    obtain ⟨a1, c1, a2, c2, a3, m3, c3, xk, xa, rfl, h1, h2, h3, h4, h5⟩ := hv.open
    cases he with
    | var p n hn =>
      rw [showE_var]
      show Pure Tryz.prog 14 [.agg #[.int .i64 1, .int .i64 p, str n, .int .i64 0, .slice a1 0 c1, .slice a2 0 c2, .int .i64 0, str [], .int .i64 0, .int .i64 0, .slice a3 m3 c3]] g _
      refine spec_of_run Tryz.func14 rfl Tryz.ntmps14 rfl fun E hE => ?_
      refine r_sr ?_
      refine r_box rfl rfl rfl (fun b1 => ?_)
      refine r_ev rfl rfl ?_; refine r_nn ?_; refine r_seq ?_; refine r_sr ?_; refine r_fieldAddr rfl rfl ?_; refine r_loadB1 0 rfl rfl rfl rfl ?_; refine r_nn ?_; refine r_block ?_; refine r_seq ?_; refine r_sr ?_; refine r_ev rfl rfl ?_; refine r_ev rfl rfl ?_; refine r_nn ?_; refine r_cond_true rfl ?_; refine r_skip ?_; refine r_then_normal ?_; refine r_cond_true rfl ?_; refine r_sr ?_; refine r_fieldAddr rfl rfl ?_; refine r_loadB1 0 rfl rfl rfl rfl ?_; refine r_ev rfl rfl ?_; refine r_nn ?_; refine r_retc ?_; refine r_in_ret ?_; refine r_then_ret ?_
      exact r_ret1 [] rfl rfl (by simp) ⟨rfl, rfl, rfl⟩
    | con p n hn =>
      rw [showE_con]
      show Pure Tryz.prog 14 [.agg #[.int .i64 2, .int .i64 p, str n, .int .i64 0, .slice a1 0 c1, .slice a2 0 c2, .int .i64 0, str [], .int .i64 0, .int .i64 0, .slice a3 m3 c3]] g _
      refine spec_of_run Tryz.func14 rfl Tryz.ntmps14 rfl fun E hE => ?_
      refine r_sr ?_
      refine r_box rfl rfl rfl (fun b1 => ?_)
      refine r_ev rfl rfl ?_; refine r_nn ?_; refine r_seq ?_; refine r_sr ?_; refine r_fieldAddr rfl rfl ?_; refine r_loadB1 0 rfl rfl rfl rfl ?_; refine r_nn ?_; refine r_block ?_; refine r_seq ?_; refine r_sr ?_; refine r_ev rfl rfl ?_; refine r_ev rfl rfl ?_; refine r_nn ?_; refine r_cond_false rfl ?_; refine r_region ?_; refine r_ev rfl rfl ?_; refine r_ev rfl rfl ?_; refine r_nn ?_; refine r_cond_true rfl ?_; refine r_sr ?_; refine r_fieldAddr rfl rfl ?_; refine r_loadB1 0 rfl rfl rfl rfl ?_; refine r_ev rfl rfl ?_; refine r_nn ?_; refine r_retc ?_; refine r_in_ret ?_; refine r_then_ret ?_
      exact r_ret1 [] rfl rfl (by simp) ⟨rfl, rfl, rfl⟩
    | int p m hm =>
      rw [showE_int]
      show Pure Tryz.prog 14 [.agg #[.int .i64 3, .int .i64 p, str [], .int .i64 m, .slice a1 0 c1, .slice a2 0 c2, .int .i64 0, str [], .int .i64 0, .int .i64 0, .slice a3 m3 c3]] g _
      refine spec_of_run Tryz.func14 rfl Tryz.ntmps14 rfl fun E hE => ?_
      refine r_sr ?_
      refine r_box rfl rfl rfl (fun b1 => ?_)
      refine r_ev rfl rfl ?_; refine r_nn ?_; refine r_seq ?_; refine r_sr ?_; refine r_fieldAddr rfl rfl ?_; refine r_loadB1 0 rfl rfl rfl rfl ?_; refine r_nn ?_; refine r_block ?_; refine r_seq ?_; refine r_sr ?_; refine r_ev rfl rfl ?_; refine r_ev rfl rfl ?_; refine r_nn ?_; refine r_cond_false rfl ?_; refine r_region ?_; refine r_ev rfl rfl ?_; refine r_ev rfl rfl ?_; refine r_nn ?_; refine r_cond_false rfl ?_; refine r_sr ?_; refine r_ev rfl rfl ?_; refine r_ev rfl rfl ?_; refine r_nn ?_; refine r_cond_true rfl ?_; refine r_sr ?_; refine r_fieldAddr rfl rfl ?_; refine r_loadB1 0 rfl rfl rfl rfl ?_
      refine r_callP rfl rfl (Number1_spec g m hm) ?_
      refine r_ev rfl rfl ?_; refine r_nn ?_; refine r_retc ?_; refine r_in_ret ?_; refine r_then_ret ?_
      exact r_ret1 [] rfl rfl (by simp) ⟨rfl, rfl, rfl⟩
    | hole p =>
      rw [showE_hole]
      show Pure Tryz.prog 14 [.agg #[.int .i64 10, .int .i64 p, str [], .int .i64 0, .slice a1 0 c1, .slice a2 0 c2, .int .i64 0, str [], .int .i64 0, .int .i64 0, .slice a3 m3 c3]] g _
      refine spec_of_run Tryz.func14 rfl Tryz.ntmps14 rfl fun E hE => ?_
      refine r_sr ?_
      refine r_box rfl rfl rfl (fun b1 => ?_)
      refine r_ev rfl rfl ?_; refine r_nn ?_; refine r_seq ?_; refine r_sr ?_; refine r_fieldAddr rfl rfl ?_; refine r_loadB1 0 rfl rfl rfl rfl ?_; refine r_nn ?_; refine r_block ?_; refine r_seq ?_; refine r_sr ?_; refine r_ev rfl rfl ?_; refine r_ev rfl rfl ?_; refine r_nn ?_; refine r_cond_false rfl ?_; refine r_region ?_; refine r_ev rfl rfl ?_; refine r_ev rfl rfl ?_; refine r_nn ?_; refine r_cond_false rfl ?_; refine r_sr ?_; refine r_ev rfl rfl ?_; refine r_ev rfl rfl ?_; refine r_nn ?_; refine r_cond_false rfl ?_; refine r_sr ?_; refine r_ev rfl rfl ?_; refine r_ev rfl rfl ?_; refine r_nn ?_; refine r_cond_true rfl ?_; refine r_sr ?_; refine r_ev rfl rfl ?_; refine r_nn ?_; refine r_retc ?_; refine r_in_ret ?_; refine r_then_ret ?_
      exact r_ret1 [] rfl rfl (by simp) ⟨rfl, rfl, rfl⟩
    | lam p n b hn hb =>
      replace h1 : SlAt g 11 (.slice a1 1 c1) 1 xk := h1
      replace h2 : ExsAt g [b] xk := h2
      obtain ⟨b0, off, cap, hsl, hx⟩ := h1.held (show 0 < 1 by omega)
      cases hsl
      obtain ⟨c, k1, hr⟩ := exs_rdA h2 hx (i := 0) (by simp)
      replace k1 : ExAt g b c := k1
      have hsz : sizeE b < N := by simp [kidsE, sizeE, sizeEs] at h; omega
      rw [showE_lam] at hl ⊢
      simp only [List.length_append, List.length_cons, List.length_nil] at hl
      show Pure Tryz.prog 14 [.agg #[.int .i64 4, .int .i64 p, str n, .int .i64 0, .slice (some ⟨b0, off, none⟩) 1 c1, .slice a2 0 c2, .int .i64 0, str [], .int .i64 0, .int .i64 0, .slice a3 m3 c3]] g _
      refine spec_of_run Tryz.func14 rfl Tryz.ntmps14 rfl fun E hE => ?_
      refine r_sr ?_
      refine r_box rfl rfl rfl (fun b1 => ?_)
      refine r_ev rfl rfl ?_; refine r_nn ?_; refine r_seq ?_; refine r_sr ?_; refine r_fieldAddr rfl rfl ?_; refine r_loadB1 0 rfl rfl rfl rfl ?_; refine r_nn ?_; refine r_block ?_; refine r_seq ?_; refine r_sr ?_; refine r_ev rfl rfl ?_; refine r_ev rfl rfl ?_; refine r_nn ?_; refine r_cond_false rfl ?_; refine r_region ?_; refine r_ev rfl rfl ?_; refine r_ev rfl rfl ?_; refine r_nn ?_; refine r_cond_false rfl ?_; refine r_sr ?_; refine r_ev rfl rfl ?_; refine r_ev rfl rfl ?_; refine r_nn ?_; refine r_cond_false rfl ?_; refine r_sr ?_; refine r_ev rfl rfl ?_; refine r_ev rfl rfl ?_; refine r_nn ?_; refine r_cond_false rfl ?_; refine r_sr ?_; refine r_ev rfl rfl ?_; refine r_ev rfl rfl ?_; refine r_nn ?_; refine r_cond_true rfl ?_; refine r_seq ?_
      refine r_qregion mixed (by kernel_rfl) ?_
      refine q_v rfl (val_fieldAddr rfl) ?_; refine q_v rfl (val_loadB1 0 rfl rfl rfl) ?_
      refine q_v rfl (val_add_str rfl rfl (by simp; omega)) ?_
      refine q_v rfl (val_add_str rfl rfl (by simp; omega)) ?_
      refine q_v rfl (val_fieldAddr rfl) ?_; refine q_v rfl (val_loadB1 0 rfl rfl rfl) ?_; refine q_v rfl (val_indexAddr (j := 0) rfl rfl rfl (by omega)) ?_
      refine q_v rfl (val_load rfl (hr _) k1.one.1) ?_
      refine q_callP rfl rfl (ih b _ hsz hb (by omega) ⟨c, rfl, k1⟩) ?_
      refine q_v rfl (val_add_str rfl rfl (by simp; omega)) ?_
      refine q_ev rfl rfl ?_; refine q_end ?_; refine r_then_normal ?_; refine r_retc ?_; refine r_in_ret ?_; refine r_then_ret ?_
      exact r_ret1 [] rfl rfl (by simp) ⟨by simp, rfl, rfl⟩
    | app p f a hf ha =>
      replace h1 : SlAt g 11 (.slice a1 2 c1) 2 xk := h1
      replace h2 : ExsAt g [f, a] xk := h2
      obtain ⟨b0, off, cap, hsl, hx⟩ := h1.held (show 0 < 2 by omega)
      cases hsl
      obtain ⟨cf, kf, hrf⟩ := exs_rdA h2 hx (i := 0) (by simp)
      obtain ⟨ca, ka, hra⟩ := exs_rdA h2 hx (i := 1) (by simp)
      replace kf : ExAt g f cf := kf
      replace ka : ExAt g a ca := ka
      have hsf : sizeE f < N := by simp [kidsE, sizeE, sizeEs] at h; omega
      have hsa : sizeE a < N := by simp [kidsE, sizeE, sizeEs] at h; omega
      rw [showE_app] at hl ⊢
      simp only [List.length_append, List.length_cons, List.length_nil] at hl
      have hlf : (showE f).length ≤ (funS f).length := by
        unfold funS
        split
        · exact Nat.le_refl _
        · unfold Go.Th.paren; simp only [List.length_cons, List.length_append, List.length_nil]; omega
      have hla : (showE a).length ≤ (argS a).length := by
        unfold argS
        split
        · exact Nat.le_refl _
        · unfold Go.Th.paren; simp only [List.length_cons, List.length_append, List.length_nil]; omega
      have hVf : ExV g (.agg cf.toArray) f := ⟨cf, rfl, kf⟩
      have hVa : ExV g (.agg ca.toArray) a := ⟨ca, rfl, ka⟩
      have ihf := ih f _ hsf hf (by omega) hVf
      have iha := ih a _ hsa ha (by omega) hVa
      obtain ⟨f1, f2, f3, f4, f5, f6, f7, f8, f9, ef, _⟩ := hVf.form
      obtain ⟨e1, e2, e3, e4, e5, e6, e7, e8, e9, ea, _⟩ := hVa.form
      have hcf : cf = [.int .i64 f.kind, .int .i64 f.pos, str f.name, .int .i64 f.num, .slice f1 f2 f3, .slice f4 f5 f6, .int .i64 f.ty.kind, str f.ty.name, .int .i64 f.ty.id, .int .i64 f.ty.home, .slice f7 f8 f9] := by simpa using ef
      have hca : ca = [.int .i64 a.kind, .int .i64 a.pos, str a.name, .int .i64 a.num, .slice e1 e2 e3, .slice e4 e5 e6, .int .i64 a.ty.kind, str a.ty.name, .int .i64 a.ty.id, .int .i64 a.ty.home, .slice e7 e8 e9] := by simpa using ea
      subst hcf
      subst hca
      have atf := atom8_spec g f _ hVf
      have ata := atom8_spec g a _ hVa
      obtain ⟨k5, hk5⟩ : ∃ k : Int, k = 5 := ⟨_, rfl⟩
      show Pure Tryz.prog 14 [.agg #[.int .i64 5, .int .i64 p, str [], .int .i64 0, .slice (some ⟨b0, off, none⟩) 2 c1, .slice a2 0 c2, .int .i64 0, str [], .int .i64 0, .int .i64 0, .slice a3 m3 c3]] g _
      rw [← hk5]
      refine spec_of_run Tryz.func14 rfl Tryz.ntmps14 rfl fun E hE => ?_
      refine r_sr ?_
      refine r_box rfl rfl rfl (fun b1 => ?_)
      refine r_ev rfl rfl ?_; refine r_nn ?_; refine r_seq ?_; refine r_sr ?_; refine r_fieldAddr rfl rfl ?_; refine r_loadB1 0 rfl rfl rfl rfl ?_; refine r_nn ?_; refine r_block ?_; refine r_seq ?_; refine r_sr ?_; refine r_ev rfl rfl ?_; refine r_ev rfl rfl ?_; refine r_nn ?_
      refine r_dec 10 rfl (fun h => absurd h (by omega)) (fun _ => ?_)
      refine r_cond_false rfl ?_; refine r_region ?_; refine r_ev rfl rfl ?_; refine r_ev rfl rfl ?_; refine r_nn ?_
      refine r_dec 10 rfl (fun h => absurd h (by omega)) (fun _ => ?_)
      refine r_cond_false rfl ?_; refine r_sr ?_; refine r_ev rfl rfl ?_; refine r_ev rfl rfl ?_; refine r_nn ?_
      refine r_dec 15 rfl (fun h => absurd h (by omega)) (fun _ => ?_)
      refine r_cond_false rfl ?_; refine r_sr ?_; refine r_ev rfl rfl ?_; refine r_ev rfl rfl ?_; refine r_nn ?_
      refine r_dec 20 rfl (fun h => absurd h (by omega)) (fun _ => ?_)
      refine r_cond_false rfl ?_; refine r_sr ?_; refine r_ev rfl rfl ?_; refine r_ev rfl rfl ?_; refine r_nn ?_
      refine r_dec 22 rfl (fun h => absurd h (by omega)) (fun _ => ?_)
      refine r_cond_false rfl ?_; refine r_sr ?_; refine r_ev rfl rfl ?_; refine r_ev rfl rfl ?_; refine r_nn ?_
      refine r_dec 34 rfl (fun _ => ?_) (fun h => absurd hk5 h)
      refine r_cond_true rfl ?_
      refine r_cutG (ι := Nat × Nat) (fun p => [(3, ptr p.1 0), (4, ptr p.2 0)]) (fun _ => g)
        (fun p => [.blk p.2 34 [.int .i64 a.kind, .int .i64 a.pos, str a.name, .int .i64 a.num, .slice e1 e2 e3, .slice e4 e5 e6, .int .i64 a.ty.kind, str a.ty.name, .int .i64 a.ty.id, .int .i64 a.ty.home, .slice e7 e8 e9], .blk p.1 34 [.int .i64 f.kind, .int .i64 f.pos, str f.name, .int .i64 f.num, .slice f1 f2 f3, .slice f4 f5 f6, .int .i64 f.ty.kind, str f.ty.name, .int .i64 f.ty.id, .int .i64 f.ty.home, .slice f7 f8 f9]]) (fun _ => True) ?_ ?_
      · rintro ⟨b3, b4⟩ -
        show Run E _ [(3, ptr b3 0), (4, ptr b4 0)] g [.blk b4 34 [.int .i64 a.kind, .int .i64 a.pos, str a.name, .int .i64 a.num, .slice e1 e2 e3, .slice e4 e5 e6, .int .i64 a.ty.kind, str a.ty.name, .int .i64 a.ty.id, .int .i64 a.ty.home, .slice e7 e8 e9], .blk b3 34 [.int .i64 f.kind, .int .i64 f.pos, str f.name, .int .i64 f.num, .slice f1 f2 f3, .slice f4 f5 f6, .int .i64 f.ty.kind, str f.ty.name, .int .i64 f.ty.id, .int .i64 f.ty.home, .slice f7 f8 f9]] _
        have key : ∀ p : Bool, p = funK f.kind → Pure Tryz.prog 47 [.agg #[.int .i64 f.kind, .int .i64 f.pos, str f.name, .int .i64 f.num, .slice f1 f2 f3, .slice f4 f5 f6, .int .i64 f.ty.kind, str f.ty.name, .int .i64 f.ty.id, .int .i64 f.ty.home, .slice f7 f8 f9], .bool p] g (str (funS f)) := fun p hp => by
          have := closed8_of g f _ p (by omega) hVf ihf
          subst hp
          exact this
        cases hk : atomK f.kind with
        | true =>
          rw [hk] at atf
          have kc := key true (by simp [funK, hk])
          refine r_seq ?_
          refine r_qregion mixed (by kernel_rfl) ?_
          refine q_v rfl (val_loadB 1 rfl rfl (by rfl)) ?_; refine q_v rfl (val_loadB 1 rfl rfl (by rfl)) ?_
          refine q_callP rfl rfl atf ?_
          refine q_ev rfl rfl ?_; refine q_pass rfl rfl rfl ?_; refine q_pass rfl rfl rfl ?_; refine q_pass rfl rfl rfl ?_; refine q_ev rfl rfl ?_
          refine q_callP rfl rfl kc ?_
          refine q_v rfl (val_add_str rfl rfl (by simp; omega)) ?_
          refine q_v rfl (val_loadB 0 rfl rfl (by rfl)) ?_; refine q_v rfl (val_loadB 0 rfl rfl (by rfl)) ?_
          refine q_callP rfl rfl ata ?_
          refine q_callP rfl rfl (closed8_of g a _ _ (by omega) hVa iha) ?_
          refine q_v rfl (val_add_str rfl rfl (by have : (if atomK a.kind = true then showE a else Go.Th.paren (showE a)).length = (argS a).length := rfl
                                                  simp only [List.length_append, List.length_cons, List.length_nil]; omega)) ?_
          refine q_ev rfl rfl ?_; refine q_end ?_; refine r_then_normal ?_; refine r_retc ?_; refine r_in_ret ?_; refine r_then_ret ?_
          exact r_ret1 [] rfl rfl (by simp) ⟨by simp [argS], rfl, rfl⟩
        | false =>
          rw [hk] at atf
          have kc := key (decide (f.kind = 5)) (by simp [funK, hk])
          refine r_seq ?_
          refine r_qregion mixed (by kernel_rfl) ?_
          refine q_v rfl (val_loadB 1 rfl rfl (by rfl)) ?_; refine q_v rfl (val_loadB 1 rfl rfl (by rfl)) ?_
          refine q_callP rfl rfl atf ?_
          refine q_ev rfl rfl ?_; refine q_take rfl ?_; refine q_v rfl (val_fieldAddr rfl) ?_; refine q_take rfl ?_; refine q_v rfl (val_loadB1 1 rfl rfl rfl) ?_; refine q_tev rfl rfl rfl ?_; refine q_ev rfl rfl ?_
          refine q_callP rfl rfl kc ?_
          refine q_v rfl (val_add_str rfl rfl (by simp; omega)) ?_
          refine q_v rfl (val_loadB 0 rfl rfl (by rfl)) ?_; refine q_v rfl (val_loadB 0 rfl rfl (by rfl)) ?_
          refine q_callP rfl rfl ata ?_
          refine q_callP rfl rfl (closed8_of g a _ _ (by omega) hVa iha) ?_
          refine q_v rfl (val_add_str rfl rfl (by have : (if atomK a.kind = true then showE a else Go.Th.paren (showE a)).length = (argS a).length := rfl
                                                  simp only [List.length_append, List.length_cons, List.length_nil]; omega)) ?_
          refine q_ev rfl rfl ?_; refine q_end ?_; refine r_then_normal ?_; refine r_retc ?_; refine r_in_ret ?_; refine r_then_ret ?_
          exact r_ret1 [] rfl rfl (by simp) ⟨by simp [argS], rfl, rfl⟩
      · intro K hK
        refine h_beginE [] mixed (fun hG => ?_)
        refine h_takeX 0 rfl (by kernel_rfl) rfl hG (by first | exact Ghost.le_refl _ | assumption) (by repeat' (first | exact List.nil_sublist _ | refine List.Sublist.cons_cons _ ?_ | refine List.Sublist.cons _ ?_)) ?_; refine ⟨_, (val_fieldAddr rfl), ?_⟩; refine h_takeX 1 rfl (by kernel_rfl) rfl hG (by first | exact Ghost.le_refl _ | assumption) (by repeat' (first | exact List.nil_sublist _ | refine List.Sublist.cons_cons _ ?_ | refine List.Sublist.cons _ ?_)) ?_; refine ⟨_, (val_loadB1 0 rfl rfl rfl), ?_⟩
        refine h_takeX 2 rfl (by kernel_rfl) rfl hG (by first | exact Ghost.le_refl _ | assumption) (by repeat' (first | exact List.nil_sublist _ | refine List.Sublist.cons_cons _ ?_ | refine List.Sublist.cons _ ?_)) ⟨_, (val_indexAddr (j := 0) rfl rfl rfl (by omega)), ?_⟩
        refine h_takeX 3 rfl (by kernel_rfl) rfl hG (by first | exact Ghost.le_refl _ | assumption) (by repeat' (first | exact List.nil_sublist _ | refine List.Sublist.cons_cons _ ?_ | refine List.Sublist.cons _ ?_)) ⟨_, (val_load rfl (hrf _) rfl), ?_⟩
        refine h_takeX 4 rfl (by kernel_rfl) rfl hG (by first | exact Ghost.le_refl _ | assumption) (by repeat' (first | exact List.nil_sublist _ | refine List.Sublist.cons_cons _ ?_ | refine List.Sublist.cons _ ?_)) ?_; refine ⟨_, (val_fieldAddr rfl), ?_⟩; refine h_takeX 5 rfl (by kernel_rfl) rfl hG (by first | exact Ghost.le_refl _ | assumption) (by repeat' (first | exact List.nil_sublist _ | refine List.Sublist.cons_cons _ ?_ | refine List.Sublist.cons _ ?_)) ?_; refine ⟨_, (val_loadB1 0 rfl rfl rfl), ?_⟩
        refine h_takeX 6 rfl (by kernel_rfl) rfl hG (by first | exact Ghost.le_refl _ | assumption) (by repeat' (first | exact List.nil_sublist _ | refine List.Sublist.cons_cons _ ?_ | refine List.Sublist.cons _ ?_)) ⟨_, (val_indexAddr (j := 1) rfl rfl rfl (by omega)), ?_⟩
        refine h_takeX 7 rfl (by kernel_rfl) rfl hG (by first | exact Ghost.le_refl _ | assumption) (by repeat' (first | exact List.nil_sublist _ | refine List.Sublist.cons_cons _ ?_ | refine List.Sublist.cons _ ?_)) ⟨_, (val_load rfl (hra _) rfl), ?_⟩
        refine h_two 8 9 (by kernel_rfl) rfl rfl ?_ ?_
        · refine r_alloc rfl (fun b3 => ?_)
          refine r_nn ?_
          refine h_kept hG (by first | exact Ghost.le_refl _ | assumption) (by repeat' (first | exact List.nil_sublist _ | refine List.Sublist.cons_cons _ ?_ | refine List.Sublist.cons _ ?_)) ?_
          refine h_one 9 (by kernel_rfl) rfl ?_
          refine r_alloc rfl (fun b4 => ?_)
          refine r_nn ?_
          refine h_kept hG (by first | exact Ghost.le_refl _ | assumption) (by repeat' (first | exact List.nil_sublist _ | refine List.Sublist.cons_cons _ ?_ | refine List.Sublist.cons _ ?_)) ?_
          refine h_one 10 (by kernel_rfl) rfl ?_
          refine r_storeA 1 rfl rfl rfl rfl (by rfl) (by repeat' (first | exact rfl | assumption | refine all_cons ?_ ?_)) rfl ?_; refine r_nn ?_
          refine h_kept hG (by first | exact Ghost.le_refl _ | assumption) (by repeat' (first | exact List.nil_sublist _ | refine List.Sublist.cons_cons _ ?_ | refine List.Sublist.cons _ ?_)) ?_
          refine h_one 11 (by kernel_rfl) rfl ?_
          refine r_storeA 0 rfl rfl rfl rfl (by rfl) (by repeat' (first | exact rfl | assumption | refine all_cons ?_ ?_)) rfl ?_; refine r_nn ?_
          refine h_kept hG (by first | exact Ghost.le_refl _ | assumption) (by repeat' (first | exact List.nil_sublist _ | refine List.Sublist.cons_cons _ ?_ | refine List.Sublist.cons _ ?_)) ?_
          refine h_done (by kernel_rfl) ?_
          refine r_then_normal ?_
          refine r_drop (own' := [_, _]) (.cons_cons _ (.cons_cons _ (.cons _ (List.Sublist.refl _)))) ?_
          exact hK (b3, b4) _ trivial ⟨rfl, rfl, trivial⟩
        · refine r_alloc rfl (fun b4 => ?_)
          refine r_nn ?_
          refine h_kept hG (by first | exact Ghost.le_refl _ | assumption) (by repeat' (first | exact List.nil_sublist _ | refine List.Sublist.cons_cons _ ?_ | refine List.Sublist.cons _ ?_)) ?_
          refine h_one 8 (by kernel_rfl) rfl ?_
          refine r_alloc rfl (fun b3 => ?_)
          refine r_nn ?_
          refine h_kept hG (by first | exact Ghost.le_refl _ | assumption) (by repeat' (first | exact List.nil_sublist _ | refine List.Sublist.cons_cons _ ?_ | refine List.Sublist.cons _ ?_)) ?_
          refine h_one 10 (by kernel_rfl) rfl ?_
          refine r_storeA 0 rfl rfl rfl rfl (by rfl) (by repeat' (first | exact rfl | assumption | refine all_cons ?_ ?_)) rfl ?_; refine r_nn ?_
          refine h_kept hG (by first | exact Ghost.le_refl _ | assumption) (by repeat' (first | exact List.nil_sublist _ | refine List.Sublist.cons_cons _ ?_ | refine List.Sublist.cons _ ?_)) ?_
          refine h_one 11 (by kernel_rfl) rfl ?_
          refine r_storeA 1 rfl rfl rfl rfl (by rfl) (by repeat' (first | exact rfl | assumption | refine all_cons ?_ ?_)) rfl ?_; refine r_nn ?_
          refine h_kept hG (by first | exact Ghost.le_refl _ | assumption) (by repeat' (first | exact List.nil_sublist _ | refine List.Sublist.cons_cons _ ?_ | refine List.Sublist.cons _ ?_)) ?_
          refine h_done (by kernel_rfl) ?_
          refine r_then_normal ?_
          refine r_perm (List.Perm.swap _ _ _) ?_
          refine r_drop (own' := [_, _]) (.cons_cons _ (.cons_cons _ (.cons _ (List.Sublist.refl _)))) ?_
          exact hK (b3, b4) _ trivial ⟨rfl, rfl, trivial⟩
    | bind k p n a b hk hn ha hb =>
      replace h1 : SlAt g 11 (.slice a1 2 c1) 2 xk := h1
      replace h2 : ExsAt g [a, b] xk := h2
      obtain ⟨b0, off, cap, hsl, hx⟩ := h1.held (show 0 < 2 by omega)
      cases hsl
      obtain ⟨ca, ka, hra⟩ := exs_rdA h2 hx (i := 0) (by simp)
      obtain ⟨cb, kb, hrb⟩ := exs_rdA h2 hx (i := 1) (by simp)
      replace ka : ExAt g a ca := ka
      replace kb : ExAt g b cb := kb
      have hsa : sizeE a < N := by simp [kidsE, sizeE, sizeEs] at h; omega
      have hsb : sizeE b < N := by simp [kidsE, sizeE, sizeEs] at h; omega
      have e3 : letB.length = 3 ∧ recB.length = 3 ∧ inB.length = 2 := by decide
      rcases hk with rfl | rfl
      · rw [showE_let] at hl ⊢
        simp only [List.length_append, List.length_cons, List.length_nil] at hl
        show Pure Tryz.prog 14 [.agg #[.int .i64 6, .int .i64 p, str n, .int .i64 0, .slice (some ⟨b0, off, none⟩) 2 c1, .slice a2 0 c2, .int .i64 0, str [], .int .i64 0, .int .i64 0, .slice a3 m3 c3]] g _
        refine spec_of_run Tryz.func14 rfl Tryz.ntmps14 rfl fun E hE => ?_
        refine r_sr ?_
        refine r_box rfl rfl rfl (fun b1 => ?_)
        refine r_ev rfl rfl ?_; refine r_nn ?_; refine r_seq ?_; refine r_sr ?_; refine r_fieldAddr rfl rfl ?_; refine r_loadB1 0 rfl rfl rfl rfl ?_; refine r_nn ?_; refine r_block ?_; refine r_seq ?_; refine r_sr ?_; refine r_ev rfl rfl ?_; refine r_ev rfl rfl ?_; refine r_nn ?_; refine r_cond_false rfl ?_; refine r_region ?_; refine r_ev rfl rfl ?_; refine r_ev rfl rfl ?_; refine r_nn ?_; refine r_cond_false rfl ?_; refine r_sr ?_; refine r_ev rfl rfl ?_; refine r_ev rfl rfl ?_; refine r_nn ?_; refine r_cond_false rfl ?_; refine r_sr ?_; refine r_ev rfl rfl ?_; refine r_ev rfl rfl ?_; refine r_nn ?_; refine r_cond_false rfl ?_; refine r_sr ?_; refine r_ev rfl rfl ?_; refine r_ev rfl rfl ?_; refine r_nn ?_; refine r_cond_false rfl ?_; refine r_sr ?_; refine r_ev rfl rfl ?_; refine r_ev rfl rfl ?_; refine r_nn ?_; refine r_cond_false rfl ?_; refine r_sr ?_; refine r_ev rfl rfl ?_; refine r_ev rfl rfl ?_; refine r_nn ?_; refine r_cond_true rfl ?_; refine r_seq ?_
        refine r_qregion mixed (by kernel_rfl) ?_
        refine q_v rfl (val_fieldAddr rfl) ?_; refine q_v rfl (val_loadB1 0 rfl rfl rfl) ?_
        refine q_v rfl (val_add_str rfl rfl (by simp; omega)) ?_
        refine q_v rfl (val_add_str rfl rfl (by simp; omega)) ?_
        refine q_v rfl (val_fieldAddr rfl) ?_; refine q_v rfl (val_loadB1 0 rfl rfl rfl) ?_; refine q_v rfl (val_indexAddr (j := 0) rfl rfl rfl (by omega)) ?_
        refine q_v rfl (val_load rfl (hra _) ka.one.1) ?_
        refine q_callP rfl rfl (ih a _ hsa ha (by omega) ⟨ca, rfl, ka⟩) ?_
        refine q_v rfl (val_add_str rfl rfl (by simp; omega)) ?_
        refine q_v rfl (val_add_str rfl rfl (by simp; omega)) ?_
        refine q_v rfl (val_fieldAddr rfl) ?_; refine q_v rfl (val_loadB1 0 rfl rfl rfl) ?_
        refine q_v rfl (val_indexAddr (j := 1) rfl rfl rfl (by omega)) ?_
        refine q_v rfl (val_load rfl (hrb _) kb.one.1) ?_
        refine q_callP rfl rfl (ih b _ hsb hb (by omega) ⟨cb, rfl, kb⟩) ?_
        refine q_v rfl (val_add_str rfl rfl (by simp; omega)) ?_
        refine q_ev rfl rfl ?_; refine q_end ?_; refine r_then_normal ?_; refine r_retc ?_; refine r_in_ret ?_; refine r_then_ret ?_
        exact r_ret1 [] rfl rfl (by simp) ⟨by simp [letB, inB], rfl, rfl⟩
      · rw [showE_rec] at hl ⊢
        simp only [List.length_append, List.length_cons, List.length_nil] at hl
        show Pure Tryz.prog 14 [.agg #[.int .i64 7, .int .i64 p, str n, .int .i64 0, .slice (some ⟨b0, off, none⟩) 2 c1, .slice a2 0 c2, .int .i64 0, str [], .int .i64 0, .int .i64 0, .slice a3 m3 c3]] g _
        refine spec_of_run Tryz.func14 rfl Tryz.ntmps14 rfl fun E hE => ?_
        refine r_sr ?_
        refine r_box rfl rfl rfl (fun b1 => ?_)
        refine r_ev rfl rfl ?_; refine r_nn ?_; refine r_seq ?_; refine r_sr ?_; refine r_fieldAddr rfl rfl ?_; refine r_loadB1 0 rfl rfl rfl rfl ?_; refine r_nn ?_; refine r_block ?_; refine r_seq ?_; refine r_sr ?_; refine r_ev rfl rfl ?_; refine r_ev rfl rfl ?_; refine r_nn ?_; refine r_cond_false rfl ?_; refine r_region ?_; refine r_ev rfl rfl ?_; refine r_ev rfl rfl ?_; refine r_nn ?_; refine r_cond_false rfl ?_; refine r_sr ?_; refine r_ev rfl rfl ?_; refine r_ev rfl rfl ?_; refine r_nn ?_; refine r_cond_false rfl ?_; refine r_sr ?_; refine r_ev rfl rfl ?_; refine r_ev rfl rfl ?_; refine r_nn ?_; refine r_cond_false rfl ?_; refine r_sr ?_; refine r_ev rfl rfl ?_; refine r_ev rfl rfl ?_; refine r_nn ?_; refine r_cond_false rfl ?_; refine r_sr ?_; refine r_ev rfl rfl ?_; refine r_ev rfl rfl ?_; refine r_nn ?_; refine r_cond_false rfl ?_; refine r_sr ?_; refine r_ev rfl rfl ?_; refine r_ev rfl rfl ?_; refine r_nn ?_; refine r_cond_false rfl ?_; refine r_sr ?_; refine r_ev rfl rfl ?_; refine r_ev rfl rfl ?_; refine r_nn ?_; refine r_cond_true rfl ?_; refine r_seq ?_
        refine r_qregion mixed (by kernel_rfl) ?_
        refine q_v rfl (val_fieldAddr rfl) ?_; refine q_v rfl (val_loadB1 0 rfl rfl rfl) ?_
        refine q_v rfl (val_add_str rfl rfl (by simp; omega)) ?_
        refine q_v rfl (val_add_str rfl rfl (by simp; omega)) ?_
        refine q_v rfl (val_fieldAddr rfl) ?_; refine q_v rfl (val_loadB1 0 rfl rfl rfl) ?_; refine q_v rfl (val_indexAddr (j := 0) rfl rfl rfl (by omega)) ?_
        refine q_v rfl (val_load rfl (hra _) ka.one.1) ?_
        refine q_callP rfl rfl (ih a _ hsa ha (by omega) ⟨ca, rfl, ka⟩) ?_
        refine q_v rfl (val_add_str rfl rfl (by simp; omega)) ?_
        refine q_v rfl (val_add_str rfl rfl (by simp; omega)) ?_
        refine q_v rfl (val_fieldAddr rfl) ?_; refine q_v rfl (val_loadB1 0 rfl rfl rfl) ?_
        refine q_v rfl (val_indexAddr (j := 1) rfl rfl rfl (by omega)) ?_
        refine q_v rfl (val_load rfl (hrb _) kb.one.1) ?_
        refine q_callP rfl rfl (ih b _ hsb hb (by omega) ⟨cb, rfl, kb⟩) ?_
        refine q_v rfl (val_add_str rfl rfl (by simp; omega)) ?_
        refine q_ev rfl rfl ?_; refine q_end ?_; refine r_then_normal ?_; refine r_retc ?_; refine r_in_ret ?_; refine r_then_ret ?_
        exact r_ret1 [] rfl rfl (by simp) ⟨by simp [letB, recB, inB], rfl, rfl⟩
    | ann p x t hx0 ht =>
      replace h1 : SlAt g 11 (.slice a1 1 c1) 1 xk := h1
      replace h2 : ExsAt g [x] xk := h2
      replace h5 : TyAt g t (tyCells t (.slice a3 m3 c3)) := h5
      obtain ⟨b0, off, cap, hsl, hx⟩ := h1.held (show 0 < 1 by omega)
      cases hsl
      obtain ⟨c, k1, hr⟩ := exs_rdA h2 hx (i := 0) (by simp)
      replace k1 : ExAt g x c := k1
      have hsz : sizeE x < N := by simp [annE, sizeE, sizeEs] at h; omega
      rw [showE_ann] at hl ⊢
      simp only [List.length_append, List.length_cons, List.length_nil] at hl
      show Pure Tryz.prog 14 [.agg #[.int .i64 9, .int .i64 p, str [], .int .i64 0, .slice (some ⟨b0, off, none⟩) 1 c1, .slice a2 0 c2, .int .i64 t.kind, str t.name, .int .i64 t.id, .int .i64 t.home, .slice a3 m3 c3]] g _
      refine spec_of_run Tryz.func14 rfl Tryz.ntmps14 rfl fun E hE => ?_
      refine r_sr ?_
      refine r_box rfl rfl rfl (fun b1 => ?_)
      refine r_ev rfl rfl ?_; refine r_nn ?_; refine r_seq ?_; refine r_sr ?_; refine r_fieldAddr rfl rfl ?_; refine r_loadB1 0 rfl rfl rfl rfl ?_; refine r_nn ?_; refine r_block ?_; refine r_seq ?_; refine r_sr ?_; refine r_ev rfl rfl ?_; refine r_ev rfl rfl ?_; refine r_nn ?_; refine r_cond_false rfl ?_; refine r_region ?_; refine r_ev rfl rfl ?_; refine r_ev rfl rfl ?_; refine r_nn ?_; refine r_cond_false rfl ?_; refine r_sr ?_; refine r_ev rfl rfl ?_; refine r_ev rfl rfl ?_; refine r_nn ?_; refine r_cond_false rfl ?_; refine r_sr ?_; refine r_ev rfl rfl ?_; refine r_ev rfl rfl ?_; refine r_nn ?_; refine r_cond_false rfl ?_; refine r_sr ?_; refine r_ev rfl rfl ?_; refine r_ev rfl rfl ?_; refine r_nn ?_; refine r_cond_false rfl ?_; refine r_sr ?_; refine r_ev rfl rfl ?_; refine r_ev rfl rfl ?_; refine r_nn ?_; refine r_cond_false rfl ?_; refine r_sr ?_; refine r_ev rfl rfl ?_; refine r_ev rfl rfl ?_; refine r_nn ?_; refine r_cond_false rfl ?_; refine r_sr ?_; refine r_ev rfl rfl ?_; refine r_ev rfl rfl ?_; refine r_nn ?_; refine r_cond_false rfl ?_; refine r_sr ?_; refine r_ev rfl rfl ?_; refine r_ev rfl rfl ?_; refine r_nn ?_; refine r_cond_true rfl ?_; refine r_seq ?_
      refine r_qregion mixed (by kernel_rfl) ?_
      refine q_v rfl (val_fieldAddr rfl) ?_; refine q_v rfl (val_loadB1 0 rfl rfl rfl) ?_; refine q_v rfl (val_indexAddr (j := 0) rfl rfl rfl (by omega)) ?_
      refine q_v rfl (val_load rfl (hr _) k1.one.1) ?_
      refine q_callP rfl rfl (ih x _ hsz hx0 (by omega) ⟨c, rfl, k1⟩) ?_
      refine q_v rfl (val_add_str rfl rfl (by simp; omega)) ?_
      refine q_v rfl (val_add_str rfl rfl (by simp; omega)) ?_
      refine q_v rfl (val_fieldAddr rfl) ?_; refine q_v rfl (val_loadB 0 rfl rfl (by rfl)) ?_
      refine q_callP rfl rfl (Type8_spec g t _ ht (by omega) ⟨_, rfl, h5⟩) ?_
      refine q_v rfl (val_add_str rfl rfl (by simp; omega)) ?_
      refine q_v rfl (val_add_str rfl rfl (by simp; omega)) ?_
      refine q_ev rfl rfl ?_; refine q_end ?_; refine r_then_normal ?_; refine r_retc ?_; refine r_in_ret ?_; refine r_then_ret ?_
      exact r_ret1 [] rfl rfl (by simp) ⟨by simp, rfl, rfl⟩
    | held p x hx0 =>
      replace h1 : SlAt g 11 (.slice a1 1 c1) 1 xk := h1
      replace h2 : ExsAt g [x] xk := h2
      obtain ⟨b0, off, cap, hsl, hx⟩ := h1.held (show 0 < 1 by omega)
      cases hsl
      obtain ⟨c, k1, hr⟩ := exs_rdA h2 hx (i := 0) (by simp)
      replace k1 : ExAt g x c := k1
      have hsz : sizeE x < N := by simp [kidsE, sizeE, sizeEs] at h; omega
      rw [showE_held] at hl ⊢
      simp only [List.length_append, List.length_cons, List.length_nil] at hl
      show Pure Tryz.prog 14 [.agg #[.int .i64 11, .int .i64 p, str [], .int .i64 0, .slice (some ⟨b0, off, none⟩) 1 c1, .slice a2 0 c2, .int .i64 0, str [], .int .i64 0, .int .i64 0, .slice a3 m3 c3]] g _
      refine spec_of_run Tryz.func14 rfl Tryz.ntmps14 rfl fun E hE => ?_
      refine r_sr ?_
      refine r_box rfl rfl rfl (fun b1 => ?_)
      refine r_ev rfl rfl ?_; refine r_nn ?_; refine r_seq ?_; refine r_sr ?_; refine r_fieldAddr rfl rfl ?_; refine r_loadB1 0 rfl rfl rfl rfl ?_; refine r_nn ?_; refine r_block ?_; refine r_seq ?_; refine r_sr ?_; refine r_ev rfl rfl ?_; refine r_ev rfl rfl ?_; refine r_nn ?_; refine r_cond_false rfl ?_; refine r_region ?_; refine r_ev rfl rfl ?_; refine r_ev rfl rfl ?_; refine r_nn ?_; refine r_cond_false rfl ?_; refine r_sr ?_; refine r_ev rfl rfl ?_; refine r_ev rfl rfl ?_; refine r_nn ?_; refine r_cond_false rfl ?_; refine r_sr ?_; refine r_ev rfl rfl ?_; refine r_ev rfl rfl ?_; refine r_nn ?_; refine r_cond_false rfl ?_; refine r_sr ?_; refine r_ev rfl rfl ?_; refine r_ev rfl rfl ?_; refine r_nn ?_; refine r_cond_false rfl ?_; refine r_sr ?_; refine r_ev rfl rfl ?_; refine r_ev rfl rfl ?_; refine r_nn ?_; refine r_cond_false rfl ?_; refine r_sr ?_; refine r_ev rfl rfl ?_; refine r_ev rfl rfl ?_; refine r_nn ?_; refine r_cond_false rfl ?_; refine r_sr ?_; refine r_ev rfl rfl ?_; refine r_ev rfl rfl ?_; refine r_nn ?_; refine r_cond_false rfl ?_; refine r_sr ?_; refine r_ev rfl rfl ?_; refine r_ev rfl rfl ?_; refine r_nn ?_; refine r_cond_false rfl ?_; refine r_sr ?_; refine r_ev rfl rfl ?_; refine r_ev rfl rfl ?_; refine r_nn ?_; refine r_cond_true rfl ?_; refine r_sr ?_; refine r_fieldAddr rfl rfl ?_; refine r_loadB1 0 rfl rfl rfl rfl ?_; refine r_indexAddr (j := 0) rfl rfl rfl rfl (by omega) ?_
      refine r_load rfl rfl (hr _) k1.one.1 ?_
      refine r_callP rfl rfl (ih x _ hsz hx0 (by omega) ⟨c, rfl, k1⟩) ?_
      refine r_add_str rfl rfl rfl (by simp; omega) ?_
      refine r_add_str rfl rfl rfl (by simp; omega) ?_
      refine r_ev rfl rfl ?_; refine r_nn ?_; refine r_retc ?_; refine r_in_ret ?_; refine r_then_ret ?_
      exact r_ret1 [] rfl rfl (by simp) ⟨by simp, rfl, rfl⟩
    | case p x aa hx0 hne hc ha => exact Expr8_case g N ih p x aa _ h hx0 ha hl hv
theorem Expr8_spec (g : Ghost) (e : Ex) (v : Value) (he : GoodE e) (hl : (showE e).length ≤ 100000) (hv : ExV g v e) : Pure Tryz.prog 14 [v] g (str (showE e)) := Expr8_aux g _ e v (Nat.lt_succ_self _) he hl hv
end Go.Proofs.YtcapgcohhgjngaaGreatDoor
-- sum 4bc22af792e81142
/- The walks of chapter 6's laws: mutated; ReadexprTexts. -/
namespace Go.Th
mutual
theorem size_eraseE : ∀ e : Ex, sizeE (eraseE e) = sizeE e
  | .mk _ _ _ _ ks ra _ => by simp only [eraseE, sizeE, size_eraseEs ks, size_eraseAs ra]
theorem size_eraseEs : ∀ l : List Ex, sizeEs (eraseEs l) = sizeEs l
  | [] => rfl
  | a :: r => by simp only [eraseEs, sizeEs, size_eraseE a, size_eraseEs r]
theorem size_eraseA : ∀ a : Ar, sizeA (eraseA a) = sizeA a
  | .mk _ _ _ b => by simp only [eraseA, sizeA, size_eraseE b]
theorem size_eraseAs : ∀ l : List Ar, sizeAs (eraseAs l) = sizeAs l
  | [] => rfl
  | a :: r => by simp only [eraseAs, sizeAs, size_eraseA a, size_eraseAs r]
end
theorem size_same {a b : Ex} (h : eraseE a = eraseE b) : sizeE a = sizeE b := by rw [← size_eraseE a, h, size_eraseE]
theorem flat_split {l : List Tok} {f : Tok → List Value} {k : Nat} (h : k < l.length) : l.flatMap f = (l.take k).flatMap f ++ (f l[k] ++ (l.drop (k + 1)).flatMap f) := by
  have e : l = l.take k ++ (l[k] :: l.drop (k + 1)) := by rw [← List.drop_eq_getElem_cons h, List.take_append_drop]
  have e2 := congrArg (List.flatMap f) e
  rw [List.flatMap_append, List.flatMap_cons] at e2
  exact e2
end Go.Th
namespace Go.Proofs.YtcapgcohhgjngaaGreatDoor
open Go Go.Eng Go.Th Go.Proofs
set_option maxRecDepth 10000
set_option maxHeartbeats 4000000
attribute [local irreducible] wpList Code.wp Run bodyPost Go.Eng.Ends Exit.then Exit.inBlock Again Wq Kq
theorem flat_len (l : List Tok) : (l.flatMap tokCells).length = l.length * 3 := by
  induction l with
  | nil => rfl
  | cons a r ih => rw [List.flatMap_cons, List.length_append, ih, List.length_cons, tokCells_len]; omega
theorem toks_oneV (l : List Tok) : ∀ u ∈ l.flatMap tokCells, oneC u = true := by
  intro u hu
  obtain ⟨t, _, h⟩ := List.mem_flatMap.1 hu
  simp only [tokCells, List.mem_cons, List.not_mem_nil, or_false] at h
  rcases h with rfl | rfl | rfl <;> rfl
theorem mutated_spec (g : Ghost) (v : Value) (l : List Tok) (hb : TB l) (hkw : KW l) (hs : ToksAt g v l) (at_ piece : Int) : SpecN Tryz.prog 16 [v, .int .i64 at_, .int .i64 piece] g fun w g' => ∃ m, ToksAt g' w m ∧ TB m ∧ KW m ∧ m.length = l.length := by
  have hb1 := hb.1
  have hone := toks_oneV l
  obtain ⟨la, lc, rfl⟩ := slForm2 hs
  refine spec_of_run Tryz.func16 rfl Tryz.ntmps16 rfl fun E hE => ?_
  refine r_sr ?_
  refine r_ev rfl rfl ?_; refine r_nn ?_; refine r_sr ?_; refine r_ev rfl rfl ?_
  refine r_nilRow 101 3 ?_
  refine r_appendAt 0 rfl rfl rfl rfl hs (by rfl) (by rfl) hone (by unfold maxLen; omega) (by omega) (fun v' _ => ?_)
  rw [Nat.zero_add, List.nil_append]
  refine r_rowLen 0 rfl ?_
  rintro ⟨va, vc, rfl⟩
  refine r_ev rfl rfl ?_; refine r_nn ?_; refine r_sr ?_; refine r_ev rfl rfl ?_
  refine r_buildSlice rfl rfl (by rfl) (by rfl) (by rfl) (by rfl) (by rfl) (fun b14 => ?_)
  refine r_publishRow (fun g1 hle1 hs1 => ?_)
  refine r_callN rfl rfl (words6_spec g1 _ [piece] (by simp) hs1) ?_
  rintro w g2 hw hle2
  have hTw := toksOf_TB (words6 [piece])
  have hKw := toksOf_KW (words6 [piece])
  generalize toksOf (words6 [piece]) = W at hw hTw hKw
  obtain ⟨wa, wc, rfl⟩ := slForm2 hw
  refine r_ev rfl rfl ?_; refine r_nn ?_; refine r_seq ?_; refine r_sr ?_; refine r_ev rfl rfl ?_; refine r_len_sl rfl rfl ?_; refine r_ev rfl rfl ?_; refine r_ev rfl rfl ?_
  refine r_gdec rfl rfl (fun h0 => ?_) (fun h0 => ?_)
  · have hl0 : l = [] := List.length_eq_zero_iff.1 (by omega)
    refine r_pass rfl rfl rfl ?_; refine r_pass rfl rfl rfl ?_; refine r_pass rfl rfl rfl ?_; refine r_ev rfl rfl ?_; refine r_nn ?_; refine r_cond_true rfl ?_; refine r_sr ?_; refine r_ev rfl rfl ?_; refine r_ev rfl rfl ?_; refine r_nn ?_; refine r_retc ?_; refine r_then_ret ?_
    refine r_publishRow (fun g3 hle3 hs3 => ?_)
    skip
    exact r_ret1 [] rfl rfl (by simp) ⟨⟨l, hs3, hb, hkw, rfl⟩, rfl⟩
  · have hl0 : 0 < l.length := by omega
    refine r_tev rfl rfl rfl ?_; refine r_take rfl ?_; refine r_len_sl rfl rfl ?_; refine r_tev rfl rfl rfl ?_; refine r_ev rfl rfl ?_; refine r_nn ?_
    refine r_cond rfl (fun hw0 => ?_) (fun hw0 => ?_)
    · refine r_publishRow (fun g3 hle3 hs3 => ?_)
      refine r_sr ?_; refine r_ev rfl rfl ?_; refine r_ev rfl rfl ?_; refine r_nn ?_; refine r_retc ?_; refine r_then_ret ?_
      exact r_ret1 [] rfl rfl (by simp) ⟨⟨l, hs3, hb, hkw, rfl⟩, rfl⟩
    · have hwl : 0 < W.length := by omega
      have hm : 0 ≤ modI at_ l.length ∧ modI at_ l.length < l.length := by
        unfold modI
        rw [if_neg (by omega)]
        exact ⟨Int.emod_nonneg _ (by omega), Int.emod_lt_of_pos _ (by omega)⟩
      refine r_skip ?_; refine r_then_normal ?_; refine r_sr ?_; refine r_ev rfl rfl ?_; refine r_ev rfl rfl ?_; refine r_len_sl rfl rfl ?_
      refine r_callP rfl rfl (Mod_spec g2 at_ l.length (by omega)) ?_
      obtain ⟨k, hk⟩ : ∃ k : Nat, modI at_ l.length = k := ⟨(modI at_ l.length).toNat, by omega⟩
      rw [hk] at hm ⊢
      have hkl : k < l.length := by omega
      refine r_rowSome 0 rfl hl0 ?_
      rintro ⟨rb, rc, hsl⟩
      cases hsl
      refine r_rowBlk (fun rest hc1 hc2 => ?_)
      have hspl : l.flatMap tokCells ++ rest = (l.take k).flatMap tokCells ++ (tokCells l[k] ++ ((l.drop (k + 1)).flatMap tokCells ++ rest)) := by
        rw [flat_split hkl]
        simp
      have hpl : ((l.take k).flatMap tokCells).length = k * 3 := by rw [flat_len, List.length_take]; congr 1; omega
      rw [hspl]
      have htk := hb.2 _ (List.getElem_mem hkl)
      have hkk := hkw _ (List.getElem_mem hkl)
      generalize hlk : l[k] = tk at htk hkk hspl
      generalize hpre : (l.take k).flatMap tokCells = pre at hpl
      generalize hpost : (l.drop (k + 1)).flatMap tokCells ++ rest = post
      obtain ⟨w0, W', rfl⟩ : ∃ w0 W', W = w0 :: W' := by cases W with
        | nil => simp at hwl
        | cons a r => exact ⟨a, r, rfl⟩
      have htw := hTw.2 w0 (List.mem_cons_self ..)
      have hkw0 := hKw w0 (List.mem_cons_self ..)
      obtain ⟨wb, wo, wc', hsl, hwx⟩ := hw.held hwl
      cases hsl
      have hrw : ∀ own, Rd g2 own wb (wo + 0 * 3) (tokCells w0) := fun own => rd_g fun j x hj => by
        rw [Nat.zero_mul, Nat.add_zero]
        refine hwx j x ?_
        rw [List.flatMap_cons, List.getElem?_append_left (List.getElem?_eq_some_iff.1 hj).1]
        exact hj
      refine r_ev rfl rfl ?_; refine r_nn ?_; refine r_sr ?_; refine r_ev rfl rfl ?_; refine r_ev rfl rfl ?_; refine r_indexAddr rfl rfl rfl rfl (by omega) ?_; refine r_fieldAddr rfl rfl ?_
      refine r_load1 rfl rfl (v := .int .i64 tk.pos) (rd_blkAt 0 rfl (fun j x hj => ?_)) ?_
      · have hj0 : j = 0 := by have := (List.getElem?_eq_some_iff.1 hj).1; simpa using this
        subst hj0
        rw [Nat.zero_add, Nat.add_zero, List.getElem?_append_right (by omega), hpl]
        rw [show k * 3 + 2 - k * 3 = 2 by omega]
        simpa [tokCells] using hj
      refine r_ev rfl rfl ?_; refine r_nn ?_; refine r_sr ?_; refine r_ev rfl rfl ?_; refine r_ev rfl rfl ?_; refine r_ev rfl rfl ?_; refine r_indexAddr (j := 0) rfl rfl rfl rfl (by omega) ?_
      refine r_load rfl rfl (hrw _) rfl ?_
      refine r_indexAddr rfl rfl rfl rfl (by omega) ?_
      refine r_storeA 0 rfl rfl rfl rfl (by rfl) rfl (splice_mid pre (tokCells tk) post (tokCells w0) _ (by rw [hpl, Nat.zero_add]) rfl) ?_
      refine r_nn ?_; refine r_sr ?_; refine r_ev rfl rfl ?_; refine r_ev rfl rfl ?_; refine r_ev rfl rfl ?_; refine r_indexAddr rfl rfl rfl rfl (by omega) ?_; refine r_fieldAddr rfl rfl ?_
      refine r_store1 0 rfl rfl rfl rfl rfl (cs' := (pre ++ [.int .i64 w0.kind, str w0.text]) ++ ([.int .i64 tk.pos] ++ post)) ?_ ?_
      · have e : pre ++ (tokCells w0 ++ post) = (pre ++ [.int .i64 w0.kind, str w0.text]) ++ ([.int .i64 w0.pos] ++ post) := by simp [tokCells]
        rw [e]
        exact splice_mid _ _ _ _ _ (by simp; omega) rfl
      refine r_publishBlk (fun g3 hle3 hs3 => ?_)
      refine r_nn ?_; refine r_sr ?_; refine r_ev rfl rfl ?_; refine r_ev rfl rfl ?_; refine r_nn ?_; refine r_retc ?_
      have hml : (l.take k ++ (⟨w0.kind, w0.text, tk.pos⟩ :: l.drop (k + 1))).length = l.length := by
        rw [List.length_append, List.length_cons, List.length_take, List.length_drop]; omega
      refine r_ret1 [] rfl rfl (by simp) ⟨⟨l.take k ++ (⟨w0.kind, w0.text, tk.pos⟩ :: l.drop (k + 1)), ?_, ?_, ?_, hml⟩, rfl⟩
      · refine ⟨by rw [flat_len], .inr ⟨rb, 0, vc, by rw [hml], by rw [hml]; exact hc1, hc2, fun j x hj => ?_⟩⟩
        rw [Nat.zero_add]
        refine hs3 j x ?_
        have e : (pre ++ [Value.int .i64 w0.kind, str w0.text]) ++ ([.int .i64 tk.pos] ++ post) = (l.take k ++ (⟨w0.kind, w0.text, tk.pos⟩ :: l.drop (k + 1))).flatMap tokCells ++ rest := by
          rw [← hpre, ← hpost]
          simp [tokCells]
        rw [e, List.getElem?_append_left (List.getElem?_eq_some_iff.1 hj).1]
        exact hj
      · refine ⟨by rw [hml]; exact hb1, fun t ht => ?_⟩
        rcases List.mem_append.1 ht with h | h
        · exact hb.2 t (List.mem_of_mem_take h)
        · rcases List.mem_cons.1 h with rfl | h
          · exact ⟨htk.1, htk.2.1, htw.2.2⟩
          · exact hb.2 t (List.mem_of_mem_drop h)
      · intro t ht
        rcases List.mem_append.1 ht with h | h
        · exact hkw t (List.mem_of_mem_take h)
        · rcases List.mem_cons.1 h with rfl | h
          · exact hkw0
          · exact hkw t (List.mem_of_mem_drop h)
theorem rwE_first {g2 : Ghost} {lc : List Int} {vc : Value} {ds : List Da} {dv : Value} (hs : SlAt g2 1 vc lc.length (ints lc)) (hc : lc.length ≤ 60) (hd : ∃ xd, SlAt g2 4 dv ds.length xd ∧ AllAt (DaAt g2) ds xd) (hn : ds.length ≤ 8) (hm : ∀ d ∈ ds, d ∈ allD) : RwE g2 lc vc ds dv :=
  ⟨hs, by omega, hd, hn, fun d h => ⟨allD_gd d (hm d h), allD_gc d (hm d h)⟩⟩
theorem ReadexprTexts_spec (g : Ghost) (hg : ErrT g) (bits : Int) (_hb : -9223372036854775808 ≤ bits ∧ bits ≤ 9223372036854775807) (vc : Value) (lc : List Int) (hsc : SlAt g 1 vc lc.length (ints lc)) (_hw : ∀ n ∈ lc, -9223372036854775808 ≤ n ∧ n ≤ 9223372036854775807)
    (at_ : Int) (_hat : -9223372036854775808 ≤ at_ ∧ at_ ≤ 9223372036854775807) (piece : Int) (_hp : -9223372036854775808 ≤ piece ∧ piece ≤ 9223372036854775807) : Pure Tryz.prog 3 [.int .i64 bits, vc, .int .i64 at_, .int .i64 piece] g (.bool true) := by
  refine spec_of_run Tryz.func3 rfl Tryz.ntmps3 rfl fun E hE => ?_
  refine r_sr ?_
  refine r_ev rfl rfl ?_; refine r_nn ?_; refine r_seq ?_; refine r_sr ?_
  refine r_callN rfl rfl (first6_spec g hg) ?_
  rintro _ g1 rfl hle1
  have hg1 := hg.mono hle1
  have hsc1 := hsc.mono hle1
  obtain ⟨ca, cc, rfl⟩ := slForm2 hsc
  refine r_ev rfl rfl ?_; refine r_nn ?_; refine r_cond_false rfl ?_; refine r_skip ?_; refine r_then_normal ?_; refine r_seq ?_; refine r_sr ?_; refine r_ev rfl rfl ?_
  refine r_callP rfl rfl (Few_spec g1 _ lc hsc1) ?_
  refine r_ev rfl rfl ?_; refine r_nn ?_
  refine r_condb rfl (fun h60 => ?_) (fun h60 => ?_)
  · refine r_shrink hE hle1 ?_
    refine r_sr ?_; refine r_ev rfl rfl ?_; refine r_nn ?_; refine r_retc ?_; refine r_then_ret ?_
    exact r_ret1 [] rfl rfl (by simp) ⟨rfl, rfl, rfl⟩
  have hlc : lc.length ≤ 60 := by simp at h60; omega
  refine r_skip ?_; refine r_then_normal ?_; refine r_sr ?_; refine r_ev rfl rfl ?_; refine r_build rfl rfl (by rfl) ?_
  refine r_box rfl rfl rfl (fun b29 => ?_)
  refine r_ev rfl rfl ?_; refine r_nn ?_; refine r_sr ?_; refine r_ev rfl rfl ?_; refine r_ev rfl rfl ?_
  refine r_callN rfl rfl (Datas_spec g1 bits) ?_
  rintro dv g2 ⟨ds, xd, hd1, hd2, hdn, hdm⟩ hle2
  obtain ⟨da, dc, rfl⟩ := slForm2 hd1
  have hE2 : RwE g2 lc (.slice ca lc.length cc) ds (.slice da ds.length dc) := rwE_first (hsc1.mono hle2) hlc ⟨xd, hd1, hd2⟩ hdn hdm
  refine r_callL 0 rfl rfl rfl (TRaw_spec lc b29 4 (by omega) g2 0 _ ds _ hE2 (Nat.zero_le _)) ?_
  rintro w g3 r' ⟨x, i', hx, gx, lx, rfl, _⟩ hle3
  have hlx : (showE x).length ≤ 2125 := Nat.le_trans lx (by decide)
  have hg3 := (hg1.mono hle2).mono hle3
  have hle13 := Ghost.le_trans hle1 (Ghost.le_trans hle2 hle3)
  obtain ⟨a1, a2, a3, a4, a5, a6, a7, a8, a9, rfl, hxt⟩ := hx.form
  skip
  refine r_alloc rfl (fun b10 => ?_)
  refine r_storeA 0 rfl rfl rfl rfl (by rfl) (by repeat' (first | exact rfl | assumption | refine all_cons ?_ ?_)) rfl ?_; refine r_nn ?_; refine r_sr ?_; refine r_loadB 0 rfl rfl rfl (by rfl) ?_
  refine r_callP rfl rfl (Expr8_spec g3 x _ gx (by omega) ⟨_, rfl, hxt⟩) ?_
  refine r_callN rfl rfl (scan6_spec g3 _ (by omega)) ?_
  rintro wl g4 hwl hle4
  have hg4 := hg3.mono hle4
  have hTl := toksOf_TB (showE x)
  have hKl := toksOf_KW (showE x)
  obtain ⟨y, hy1, hy2⟩ := showE_reads gx (by omega) (l := toksOf (showE x)) (r := []) (by simp) stopE_nil
  have hln := (toksOf_facts (showE x)).1
  have hsz := (eans_size (idxOf_le (toksOf (showE x)).length 0) (by omega)).1
  generalize toksOf (showE x) = l at hwl hTl hKl hy1 hln hsz
  obtain ⟨wa, wc, rfl⟩ := slForm2 hwl
  refine r_ev rfl rfl ?_; refine r_nn ?_; refine r_sr ?_; refine r_ev rfl rfl ?_
  refine r_callN rfl rfl (eExpr_spec hTl hKl g4 hg4 _ 0 hwl) ?_
  rw [hy1]
  rw [hy1] at hsz
  rintro _ g5 hans hle5
  obtain ⟨tv, rfl, hty⟩ := eans_ok hans
  replace hsz : sizeE y ≤ 1000000 := hsz
  have hsx : sizeE x ≤ 1000000 := by rw [← size_same hy2]; exact hsz
  have hg5 := hg4.mono hle5
  obtain ⟨c1, c2, c3, c4, c5, c6, c7, c8, c9, rfl, htyt⟩ := hty.form
  refine r_ev rfl rfl ?_; refine r_ev rfl rfl ?_; refine r_ev rfl rfl ?_; refine r_ev rfl rfl ?_
  refine r_alloc rfl (fun b12 => ?_)
  skip
  refine r_alloc rfl (fun b14 => ?_)
  refine r_storeA 1 rfl rfl rfl rfl (by rfl) (by repeat' (first | exact rfl | assumption | refine all_cons ?_ ?_)) rfl ?_; refine r_ev rfl rfl ?_; refine r_storeA 0 rfl rfl rfl rfl (by rfl) (by repeat' (first | exact rfl | assumption | refine all_cons ?_ ?_)) rfl ?_; refine r_nn ?_; refine r_sr ?_; refine r_ev rfl rfl ?_; refine r_ev rfl rfl ?_; refine r_ev rfl rfl ?_
  refine r_callN rfl rfl (mutated_spec g5 _ l hTl hKl (hwl.mono hle5) at_ piece) ?_
  rintro wm g6 ⟨m, hwm, hTm, hKm, hml⟩ hle6
  have hg6 := hg5.mono hle6
  obtain ⟨ma, mc, rfl⟩ := slForm2 hwm
  have hszm := (eans_size (idxOf_le m.length 0) (by omega)).1
  refine r_ev rfl rfl ?_; refine r_nn ?_; refine r_sr ?_; refine r_ev rfl rfl ?_
  refine r_callN rfl rfl (eExpr_spec hTm hKm g6 hg6 _ 0 hwm) ?_
  rintro _ g7 ⟨va, rfl, hva⟩ hle7
  obtain ⟨d1, d2, d3, d4, d5, d6, d7, d8, d9, rfl, hvat⟩ := hva.form
  refine r_ev rfl rfl ?_; refine r_ev rfl rfl ?_; refine r_ev rfl rfl ?_; refine r_ev rfl rfl ?_
  refine r_alloc rfl (fun b16 => ?_)
  skip
  refine r_alloc rfl (fun b18 => ?_)
  refine r_storeA 1 rfl rfl rfl rfl (by rfl) (by repeat' (first | exact rfl | assumption | refine all_cons ?_ ?_)) rfl ?_; refine r_ev rfl rfl ?_; refine r_storeA 0 rfl rfl rfl rfl (by rfl) (by repeat' (first | exact rfl | assumption | refine all_cons ?_ ?_)) rfl ?_; refine r_nn ?_; refine r_sr ?_; refine r_ev rfl rfl ?_
  refine r_callN rfl rfl (r6Expr_spec hTm hKm g7 _ 0 (hwm.mono hle7)) ?_
  rintro _ g8 ⟨vb, rfl, hvb⟩ hle8
  obtain ⟨e1, e2, e3, e4, e5, e6, e7, e8, e9, rfl, hvbt⟩ := hvb.form
  have hle38 := Ghost.le_trans hle4 (Ghost.le_trans hle5 (Ghost.le_trans hle6 (Ghost.le_trans hle7 hle8)))
  have hle58 := Ghost.le_trans hle6 (Ghost.le_trans hle7 hle8)
  refine r_ev rfl rfl ?_; refine r_ev rfl rfl ?_; refine r_ev rfl rfl ?_; refine r_ev rfl rfl ?_
  refine r_alloc rfl (fun b19 => ?_)
  skip
  refine r_alloc rfl (fun b21 => ?_)
  refine r_storeA 1 rfl rfl rfl rfl (by rfl) (by repeat' (first | exact rfl | assumption | refine all_cons ?_ ?_)) rfl ?_; refine r_ev rfl rfl ?_; refine r_storeA 0 rfl rfl rfl rfl (by rfl) (by repeat' (first | exact rfl | assumption | refine all_cons ?_ ?_)) rfl ?_; refine r_nn ?_; refine r_sr ?_; refine r_fieldAddr rfl rfl ?_; refine r_loadB1 4 rfl rfl rfl rfl ?_; refine r_ev rfl rfl ?_; refine r_ev rfl rfl ?_; refine r_tev rfl rfl rfl ?_; refine r_tev rfl rfl rfl ?_; refine r_take rfl ?_; refine r_len_sl rfl rfl ?_; refine r_tev rfl rfl rfl ?_; refine r_ev rfl rfl ?_; refine r_ev rfl rfl ?_
  try refine r_gdec rfl rfl (fun _ => ?_) (fun h => absurd rfl h)
  refine r_take rfl ?_; refine r_loadB 5 rfl rfl rfl (by rfl) ?_; refine r_take rfl ?_; refine r_loadB 6 rfl rfl rfl (by rfl) ?_; refine r_take rfl ?_
  try refine r_gdec rfl rfl (fun _ => ?_) (fun h => absurd rfl h)
  skip
  refine r_callP rfl rfl (Equal4_spec g8 y x _ _ hsz hsx hy2 ⟨_, rfl, ExAt.mono hle58 _ _ htyt⟩ ⟨_, rfl, ExAt.mono hle38 _ _ hxt⟩) ?_
  refine r_ev rfl rfl ?_; refine r_ev rfl rfl ?_; refine r_take rfl ?_; refine r_loadB 3 rfl rfl rfl (by rfl) ?_; refine r_take rfl ?_; refine r_loadB 1 rfl rfl rfl (by rfl) ?_; refine r_take rfl ?_
  refine r_callP rfl rfl (sameAll_spec g8 _ _ _ hszm (hva.mono hle8) hvb) ?_
  refine r_ev rfl rfl ?_; refine r_ev rfl rfl ?_; refine r_tev rfl rfl rfl ?_; refine r_tev rfl rfl rfl ?_; refine r_tev rfl rfl rfl ?_; refine r_ev rfl rfl ?_; refine r_ev rfl rfl ?_
  try refine r_gdec rfl rfl (fun _ => ?_) (fun h => absurd rfl h)
  refine r_take rfl ?_; refine r_loadB 2 rfl rfl rfl (by rfl) ?_; refine r_take rfl ?_; refine r_loadB 0 rfl rfl rfl (by rfl) ?_; refine r_take rfl ?_
  refine r_v rfl (val_eql_pair rfl rfl) ?_
  refine r_ev rfl rfl ?_; refine r_ev rfl rfl ?_; refine r_nn ?_; refine r_retc ?_
  refine r_shrink hE (Ghost.le_trans hle13 hle38) ?_
  exact r_ret1 [] rfl rfl (List.nil_sublist _) ⟨by simp, rfl, rfl⟩
end Go.Proofs.YtcapgcohhgjngaaGreatDoor
-- sum 153cd9f60dc74edb

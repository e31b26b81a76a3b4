/- Texts of expressions: the walks of typedholesref8.atom, closed and Expr. -/
import Derived.Test.YtpjehhnaojjanaaGreatDoorK13
import Derived.Test.YtpjehhnaojjanaaGreatDoorK16
import Derived.Test.YtpjehhnaojjanaaGreatDoorK10
import Derived.Test.YtpjehhnaojjanaaGreatDoorK19
import Derived.Test.YtpjehhnaojjanaaGreatDoorK15
namespace Go.Proofs.YtpjehhnaojjanaaGreatDoor
open Go Go.Eng Go.Th Go.Proofs
set_option maxRecDepth 10000
set_option maxHeartbeats 4000000
attribute [local irreducible] wpList Code.wp Run bodyPost Go.Eng.Ends Exit.then Exit.inBlock Again Wq Kq
theorem atom8_spec (g : Ghost) (e : Ex) (v : Value) (hv : ExV g v e) : Pure Tryz.prog 71 [v] g (.bool (atomK e.kind)) := by
 obtain ⟨a1, c1, a2, c2, a3, m3, c3, xk, xa, rfl, h1, h2, h3, h4, h5⟩ := hv.open
 refine spec_of_run Tryz.func71 rfl Tryz.ntmps71 rfl fun E hE => ?_
 refine r_sr ?_
 refine r_box rfl rfl rfl (fun b1 => ?_)
 generalize e.kind = k
 refine r_ev rfl rfl <| r_nn <| r_seq <| r_sr <| r_fieldAddr rfl rfl <| r_loadB1 0 rfl rfl rfl rfl <| r_nn <| r_block <| r_seq <| r_sr <| r_ev rfl rfl <| r_ev rfl rfl <| r_nn ?_
 refine r_dec 5 rfl (fun k1 => ?_) (fun k1 => ?_)
 ·refine r_cond_true rfl <| r_skip <| r_then_normal <| r_cond_true rfl <| r_sr <| r_ev rfl rfl <| r_nn <| r_retc <| r_in_ret <| r_then_ret ?_
  exact r_ret1 [] rfl rfl (by simp) ⟨by simp [atomK, k1], rfl, rfl⟩
 refine r_cond_false rfl <| r_sr <| r_ev rfl rfl <| r_ev rfl rfl <| r_nn ?_
 refine r_dec 5 rfl (fun k2 => ?_) (fun k2 => ?_)
 ·refine r_cond_true rfl <| r_skip <| r_then_normal <| r_cond_true rfl <| r_sr <| r_ev rfl rfl <| r_nn <| r_retc <| r_in_ret <| r_then_ret ?_
  exact r_ret1 [] rfl rfl (by simp) ⟨by simp [atomK, k2], rfl, rfl⟩
 refine r_cond_false rfl <| r_sr <| r_ev rfl rfl <| r_ev rfl rfl <| r_nn ?_
 refine r_dec 5 rfl (fun k3 => ?_) (fun k3 => ?_)
 ·refine r_cond_true rfl <| r_skip <| r_then_normal <| r_cond_true rfl <| r_sr <| r_ev rfl rfl <| r_nn <| r_retc <| r_in_ret <| r_then_ret ?_
  exact r_ret1 [] rfl rfl (by simp) ⟨by simp [atomK, k3], rfl, rfl⟩
 refine r_cond_false rfl <| r_sr <| r_ev rfl rfl <| r_ev rfl rfl <| r_nn ?_
 refine r_dec 5 rfl (fun k4 => ?_) (fun k4 => ?_)
 ·refine r_cond_true rfl <| r_skip <| r_then_normal <| r_cond_true rfl <| r_sr <| r_ev rfl rfl <| r_nn <| r_retc <| r_in_ret <| r_then_ret ?_
  exact r_ret1 [] rfl rfl (by simp) ⟨by simp [atomK, k4], rfl, rfl⟩
 refine r_cond_false rfl <| r_sr <| r_ev rfl rfl <| r_ev rfl rfl <| r_nn ?_
 refine r_dec 5 rfl (fun k5 => ?_) (fun k5 => ?_)
 ·refine r_cond_true rfl <| r_skip <| r_then_normal <| r_cond_true rfl <| r_sr <| r_ev rfl rfl <| r_nn <| r_retc <| r_in_ret <| r_then_ret ?_
  exact r_ret1 [] rfl rfl (by simp) ⟨by simp [atomK, k5], rfl, rfl⟩
 refine r_cond_false rfl <| r_region <| r_ev rfl rfl <| r_ev rfl rfl <| r_nn ?_
 refine r_dec 5 rfl (fun k6 => ?_) (fun k6 => ?_)
 ·refine r_cond_true rfl <| r_sr <| r_ev rfl rfl <| r_nn <| r_retc <| r_in_ret <| r_then_ret ?_
  exact r_ret1 [] rfl rfl (by simp) ⟨by simp [atomK, k6], rfl, rfl⟩
 refine r_cond_false rfl <| r_skip <| r_in_normal <| r_then_normal <| r_sr <| r_ev rfl rfl <| r_nn <| r_retc ?_
 exact r_ret1 [] rfl rfl (by simp) ⟨by simp [atomK, k1, k2, k3, k4, k5, k6], rfl, rfl⟩
theorem closed8_of (g : Ghost) (e : Ex) (v : Value) (p : Bool) (hl : (showE e).length ≤ 100000) (hv : ExV g v e) (hX : Pure Tryz.prog 26 [v] g (str (showE e))) : Pure Tryz.prog 70 [v, .bool p] g (str (if p then showE e else Go.Th.paren (showE e))) := by
 obtain ⟨a1, c1, a2, c2, a3, m3, c3, xk, xa, rfl, h1, h2, h3, h4, h5⟩ := hv.open
 refine spec_of_run Tryz.func70 rfl Tryz.ntmps70 rfl fun E hE => ?_
 refine r_sr ?_
 refine r_box rfl rfl rfl (fun b2 => ?_)
 cases p with
 | true =>
  refine r_ev rfl rfl <| r_nn <| r_seq <| r_sr <| r_ev rfl rfl <| r_nn <| r_cond_true rfl <| r_sr <| r_loadB 0 rfl rfl rfl (by rfl) ?_
  refine r_callP rfl rfl hX ?_
  refine r_ev rfl rfl <| r_nn <| r_retc <| r_then_ret ?_
  exact r_ret1 [] rfl rfl (by simp) ⟨rfl, rfl, rfl⟩
 | false =>
  refine r_ev rfl rfl <| r_nn <| r_seq <| r_sr <| r_ev rfl rfl <| r_nn <| r_cond_false rfl <| r_skip <| r_then_normal <| r_sr <| r_loadB 0 rfl rfl rfl (by rfl) ?_
  refine r_callP rfl rfl hX ?_
  refine r_add_str rfl rfl rfl (by simp; omega) ?_
  refine r_add_str rfl rfl rfl (by simp; omega) ?_
  refine r_ev rfl rfl <| r_nn <| r_retc ?_
  exact r_ret1 [] rfl rfl (by simp) ⟨rfl, rfl, rfl⟩
theorem Expr8_aux (g : Ghost) : ∀ (N : Nat) (e : Ex) (v : Value), sizeE e < N → GoodE e → (showE e).length ≤ 100000 → ExV g v e → Pure Tryz.prog 26 [v] g (str (showE e))
 | 0, _, _, h, _, _, _ => by omega
 | N + 1, e, v, h, he, hl, hv => by
  have ih := Expr8_aux g N
  obtain ⟨a1, c1, a2, c2, a3, m3, c3, xk, xa, rfl, h1, h2, h3, h4, h5⟩ := hv.open
  cases he with
  | var p n hn =>
   rw [showE_var]
   show Pure Tryz.prog 26 [.agg #[.int .i64 1, .int .i64 p, str n, .int .i64 0, .slice a1 0 c1, .slice a2 0 c2, .int .i64 0, str [], .int .i64 0, .int .i64 0, .slice a3 m3 c3]] g _
   refine spec_of_run Tryz.func26 rfl Tryz.ntmps26 rfl fun E hE => ?_
   refine r_sr ?_
   refine r_box rfl rfl rfl (fun b1 => ?_)
   refine r_ev rfl rfl <| r_nn <| r_seq <| r_sr <| r_fieldAddr rfl rfl <| r_loadB1 0 rfl rfl rfl rfl <| r_nn <| r_block <| r_seq <| r_sr <| r_ev rfl rfl <| r_ev rfl rfl <| r_nn <| r_cond_true rfl ?_; refine r_skip <| r_then_normal <| r_cond_true rfl <| r_sr <| r_fieldAddr rfl rfl <| r_loadB1 0 rfl rfl rfl rfl <| r_ev rfl rfl <| r_nn <| r_retc <| r_in_ret <| r_then_ret ?_
   exact r_ret1 [] rfl rfl (by simp) ⟨rfl, rfl, rfl⟩
  | con p n hn =>
   rw [showE_con]
   show Pure Tryz.prog 26 [.agg #[.int .i64 2, .int .i64 p, str n, .int .i64 0, .slice a1 0 c1, .slice a2 0 c2, .int .i64 0, str [], .int .i64 0, .int .i64 0, .slice a3 m3 c3]] g _
   refine spec_of_run Tryz.func26 rfl Tryz.ntmps26 rfl fun E hE => ?_
   refine r_sr ?_
   refine r_box rfl rfl rfl (fun b1 => ?_)
   refine r_ev rfl rfl <| r_nn <| r_seq <| r_sr <| r_fieldAddr rfl rfl <| r_loadB1 0 rfl rfl rfl rfl <| r_nn <| r_block <| r_seq <| r_sr <| r_ev rfl rfl <| r_ev rfl rfl <| r_nn <| r_cond_false rfl ?_; refine r_region <| r_ev rfl rfl <| r_ev rfl rfl <| r_nn <| r_cond_true rfl <| r_sr <| r_fieldAddr rfl rfl <| r_loadB1 0 rfl rfl rfl rfl <| r_ev rfl rfl <| r_nn <| r_retc <| r_in_ret <| r_then_ret ?_
   exact r_ret1 [] rfl rfl (by simp) ⟨rfl, rfl, rfl⟩
  | int p m hm =>
   rw [showE_int]
   show Pure Tryz.prog 26 [.agg #[.int .i64 3, .int .i64 p, str [], .int .i64 m, .slice a1 0 c1, .slice a2 0 c2, .int .i64 0, str [], .int .i64 0, .int .i64 0, .slice a3 m3 c3]] g _
   refine spec_of_run Tryz.func26 rfl Tryz.ntmps26 rfl fun E hE => ?_
   refine r_sr ?_
   refine r_box rfl rfl rfl (fun b1 => ?_)
   refine r_ev rfl rfl <| r_nn <| r_seq <| r_sr <| r_fieldAddr rfl rfl <| r_loadB1 0 rfl rfl rfl rfl <| r_nn <| r_block <| r_seq <| r_sr <| r_ev rfl rfl <| r_ev rfl rfl <| r_nn <| r_cond_false rfl ?_; refine r_region <| r_ev rfl rfl <| r_ev rfl rfl <| r_nn <| r_cond_false rfl <| r_sr <| r_ev rfl rfl <| r_ev rfl rfl <| r_nn <| r_cond_true rfl <| r_sr <| r_fieldAddr rfl rfl <| r_loadB1 0 rfl rfl rfl rfl ?_
   refine r_callP rfl rfl (Number1_spec g m hm) ?_
   refine r_ev rfl rfl <| r_nn <| r_retc <| r_in_ret <| r_then_ret ?_
   exact r_ret1 [] rfl rfl (by simp) ⟨rfl, rfl, rfl⟩
  | hole p =>
   rw [showE_hole]
   show Pure Tryz.prog 26 [.agg #[.int .i64 10, .int .i64 p, str [], .int .i64 0, .slice a1 0 c1, .slice a2 0 c2, .int .i64 0, str [], .int .i64 0, .int .i64 0, .slice a3 m3 c3]] g _
   refine spec_of_run Tryz.func26 rfl Tryz.ntmps26 rfl fun E hE => ?_
   refine r_sr ?_
   refine r_box rfl rfl rfl (fun b1 => ?_)
   refine r_ev rfl rfl <| r_nn <| r_seq <| r_sr <| r_fieldAddr rfl rfl <| r_loadB1 0 rfl rfl rfl rfl <| r_nn <| r_block <| r_seq <| r_sr <| r_ev rfl rfl <| r_ev rfl rfl <| r_nn <| r_cond_false rfl ?_; refine r_region <| r_ev rfl rfl <| r_ev rfl rfl <| r_nn <| r_cond_false rfl <| r_sr <| r_ev rfl rfl <| r_ev rfl rfl <| r_nn <| r_cond_false rfl <| r_sr <| r_ev rfl rfl <| r_ev rfl rfl <| r_nn ?_; refine r_cond_true rfl <| r_sr <| r_ev rfl rfl <| r_nn <| r_retc <| r_in_ret <| r_then_ret ?_
   exact r_ret1 [] rfl rfl (by simp) ⟨rfl, rfl, rfl⟩
  | lam p n b hn hb =>
   replace h1 : SlAt g 11 (.slice a1 1 c1) 1 xk := h1
   replace h2 : ExsAt g [b] xk := h2
   obtain ⟨b0, off, cap, hsl, hx⟩ := h1.held (show 0 < 1 by omega)
   cases hsl
   obtain ⟨c, k1, hr⟩ := exs_rdA h2 hx (i := 0) (by simp)
   replace k1 : ExAt g b c := k1
   have hsz : sizeE b < N := by simp [kidsE, sizeE, sizeEs] at h; omega
   rw [showE_lam] at hl ⊢
   simp only [List.length_append, List.length_cons, List.length_nil] at hl
   show Pure Tryz.prog 26 [.agg #[.int .i64 4, .int .i64 p, str n, .int .i64 0, .slice (some ⟨b0, off, none⟩) 1 c1, .slice a2 0 c2, .int .i64 0, str [], .int .i64 0, .int .i64 0, .slice a3 m3 c3]] g _
   refine spec_of_run Tryz.func26 rfl Tryz.ntmps26 rfl fun E hE => ?_
   refine r_sr ?_
   refine r_box rfl rfl rfl (fun b1 => ?_)
   refine r_ev rfl rfl <| r_nn <| r_seq <| r_sr <| r_fieldAddr rfl rfl <| r_loadB1 0 rfl rfl rfl rfl <| r_nn <| r_block <| r_seq <| r_sr <| r_ev rfl rfl <| r_ev rfl rfl <| r_nn <| r_cond_false rfl ?_; refine r_region <| r_ev rfl rfl <| r_ev rfl rfl <| r_nn <| r_cond_false rfl <| r_sr <| r_ev rfl rfl <| r_ev rfl rfl <| r_nn <| r_cond_false rfl <| r_sr <| r_ev rfl rfl <| r_ev rfl rfl <| r_nn ?_; refine r_cond_false rfl <| r_sr <| r_ev rfl rfl <| r_ev rfl rfl <| r_nn <| r_cond_true rfl <| r_seq ?_
   refine r_qregion mixed (by kernel_rfl) ?_
   refine q_v rfl (val_fieldAddr rfl) ?_; refine q_v rfl (val_loadB1 0 rfl rfl rfl) ?_
   refine q_v rfl (val_add_str rfl rfl (by simp; omega)) ?_
   refine q_v rfl (val_add_str rfl rfl (by simp; omega)) ?_
   refine q_v rfl (val_fieldAddr rfl) ?_; refine q_v rfl (val_loadB1 0 rfl rfl rfl) ?_; refine q_v rfl (val_indexAddr (j := 0) rfl rfl rfl (by omega)) ?_
   refine q_v rfl (val_load rfl (hr _) k1.one.1) ?_
   refine q_callP rfl rfl (ih b _ hsz hb (by omega) ⟨c, rfl, k1⟩) ?_
   refine q_v rfl (val_add_str rfl rfl (by simp; omega)) ?_
   refine q_ev rfl rfl <| q_end <| r_then_normal <| r_retc <| r_in_ret <| r_then_ret ?_
   exact r_ret1 [] rfl rfl (by simp) ⟨by simp, rfl, rfl⟩
  | app p f a hf ha =>
   replace h1 : SlAt g 11 (.slice a1 2 c1) 2 xk := h1
   replace h2 : ExsAt g [f, a] xk := h2
   obtain ⟨b0, off, cap, hsl, hx⟩ := h1.held (show 0 < 2 by omega)
   cases hsl
   obtain ⟨cf, kf, hrf⟩ := exs_rdA h2 hx (i := 0) (by simp)
   obtain ⟨ca, ka, hra⟩ := exs_rdA h2 hx (i := 1) (by simp)
   replace kf : ExAt g f cf := kf
   replace ka : ExAt g a ca := ka
   have hsf : sizeE f < N := by simp [kidsE, sizeE, sizeEs] at h; omega
   have hsa : sizeE a < N := by simp [kidsE, sizeE, sizeEs] at h; omega
   rw [showE_app] at hl ⊢
   simp only [List.length_append, List.length_cons, List.length_nil] at hl
   have hlf : (showE f).length ≤ (funS f).length := by
    unfold funS
    split
    ·exact Nat.le_refl _
    ·unfold Go.Th.paren; simp only [List.length_cons, List.length_append, List.length_nil]; omega
   have hla : (showE a).length ≤ (argS a).length := by
    unfold argS
    split
    ·exact Nat.le_refl _
    ·unfold Go.Th.paren; simp only [List.length_cons, List.length_append, List.length_nil]; omega
   have hVf : ExV g (.agg cf.toArray) f := ⟨cf, rfl, kf⟩
   have hVa : ExV g (.agg ca.toArray) a := ⟨ca, rfl, ka⟩
   have ihf := ih f _ hsf hf (by omega) hVf
   have iha := ih a _ hsa ha (by omega) hVa
   obtain ⟨f1, f2, f3, f4, f5, f6, f7, f8, f9, ef, _⟩ := hVf.form
   obtain ⟨e1, e2, e3, e4, e5, e6, e7, e8, e9, ea, _⟩ := hVa.form
   have hcf : cf = [.int .i64 f.kind, .int .i64 f.pos, str f.name, .int .i64 f.num, .slice f1 f2 f3, .slice f4 f5 f6, .int .i64 f.ty.kind, str f.ty.name, .int .i64 f.ty.id, .int .i64 f.ty.home, .slice f7 f8 f9] := by simpa using ef
   have hca : ca = [.int .i64 a.kind, .int .i64 a.pos, str a.name, .int .i64 a.num, .slice e1 e2 e3, .slice e4 e5 e6, .int .i64 a.ty.kind, str a.ty.name, .int .i64 a.ty.id, .int .i64 a.ty.home, .slice e7 e8 e9] := by simpa using ea
   subst hcf
   subst hca
   have atf := atom8_spec g f _ hVf
   have ata := atom8_spec g a _ hVa
   obtain ⟨k5, hk5⟩ : ∃ k : Int, k = 5 := ⟨_, rfl⟩
   show Pure Tryz.prog 26 [.agg #[.int .i64 5, .int .i64 p, str [], .int .i64 0, .slice (some ⟨b0, off, none⟩) 2 c1, .slice a2 0 c2, .int .i64 0, str [], .int .i64 0, .int .i64 0, .slice a3 m3 c3]] g _
   rw [← hk5]
   refine spec_of_run Tryz.func26 rfl Tryz.ntmps26 rfl fun E hE => ?_
   refine r_sr ?_
   refine r_box rfl rfl rfl (fun b1 => ?_)
   refine r_ev rfl rfl <| r_nn <| r_seq <| r_sr <| r_fieldAddr rfl rfl <| r_loadB1 0 rfl rfl rfl rfl <| r_nn <| r_block <| r_seq <| r_sr <| r_ev rfl rfl <| r_ev rfl rfl <| r_nn ?_
   refine r_dec 10 rfl (fun h => absurd h (by omega)) (fun _ => ?_)
   refine r_cond_false rfl <| r_region <| r_ev rfl rfl <| r_ev rfl rfl <| r_nn ?_
   refine r_dec 10 rfl (fun h => absurd h (by omega)) (fun _ => ?_)
   refine r_cond_false rfl <| r_sr <| r_ev rfl rfl <| r_ev rfl rfl <| r_nn ?_
   refine r_dec 15 rfl (fun h => absurd h (by omega)) (fun _ => ?_)
   refine r_cond_false rfl <| r_sr <| r_ev rfl rfl <| r_ev rfl rfl <| r_nn ?_
   refine r_dec 20 rfl (fun h => absurd h (by omega)) (fun _ => ?_)
   refine r_cond_false rfl <| r_sr <| r_ev rfl rfl <| r_ev rfl rfl <| r_nn ?_
   refine r_dec 22 rfl (fun h => absurd h (by omega)) (fun _ => ?_)
   refine r_cond_false rfl <| r_sr <| r_ev rfl rfl <| r_ev rfl rfl <| r_nn ?_
   refine r_dec 34 rfl (fun _ => ?_) (fun h => absurd hk5 h)
   refine r_cond_true rfl ?_
   refine r_cutG (ι := Nat × Nat) (fun p => [(3, ptr p.1 0), (4, ptr p.2 0)]) (fun _ => g)
    (fun p => [.blk p.2 51 [.int .i64 a.kind, .int .i64 a.pos, str a.name, .int .i64 a.num, .slice e1 e2 e3, .slice e4 e5 e6, .int .i64 a.ty.kind, str a.ty.name, .int .i64 a.ty.id, .int .i64 a.ty.home, .slice e7 e8 e9], .blk p.1 51 [.int .i64 f.kind, .int .i64 f.pos, str f.name, .int .i64 f.num, .slice f1 f2 f3, .slice f4 f5 f6, .int .i64 f.ty.kind, str f.ty.name, .int .i64 f.ty.id, .int .i64 f.ty.home, .slice f7 f8 f9]]) (fun _ => True) ?_ ?_
   ·rintro ⟨b3, b4⟩ -
    show Run E _ [(3, ptr b3 0), (4, ptr b4 0)] g [.blk b4 51 [.int .i64 a.kind, .int .i64 a.pos, str a.name, .int .i64 a.num, .slice e1 e2 e3, .slice e4 e5 e6, .int .i64 a.ty.kind, str a.ty.name, .int .i64 a.ty.id, .int .i64 a.ty.home, .slice e7 e8 e9], .blk b3 51 [.int .i64 f.kind, .int .i64 f.pos, str f.name, .int .i64 f.num, .slice f1 f2 f3, .slice f4 f5 f6, .int .i64 f.ty.kind, str f.ty.name, .int .i64 f.ty.id, .int .i64 f.ty.home, .slice f7 f8 f9]] _
    have key : ∀ p : Bool, p = funK f.kind → Pure Tryz.prog 70 [.agg #[.int .i64 f.kind, .int .i64 f.pos, str f.name, .int .i64 f.num, .slice f1 f2 f3, .slice f4 f5 f6, .int .i64 f.ty.kind, str f.ty.name, .int .i64 f.ty.id, .int .i64 f.ty.home, .slice f7 f8 f9], .bool p] g (str (funS f)) := fun p hp => by
     have := closed8_of g f _ p (by omega) hVf ihf
     subst hp
     exact this
    cases hk : atomK f.kind with
    | true =>
     rw [hk] at atf
     have kc := key true (by simp [funK, hk])
     refine r_seq ?_
     refine r_qregion mixed (by kernel_rfl) ?_
     refine q_v rfl (val_loadB 1 rfl rfl (by rfl)) ?_; refine q_v rfl (val_loadB 1 rfl rfl (by rfl)) ?_
     refine q_callP rfl rfl atf ?_
     refine q_ev rfl rfl <| q_pass rfl rfl rfl <| q_pass rfl rfl rfl <| q_pass rfl rfl rfl <| q_ev rfl rfl ?_
     refine q_callP rfl rfl kc ?_
     refine q_v rfl (val_add_str rfl rfl (by simp; omega)) ?_
     refine q_v rfl (val_loadB 0 rfl rfl (by rfl)) ?_; refine q_v rfl (val_loadB 0 rfl rfl (by rfl)) ?_
     refine q_callP rfl rfl ata ?_
     refine q_callP rfl rfl (closed8_of g a _ _ (by omega) hVa iha) ?_
     refine q_v rfl (val_add_str rfl rfl (by have : (if atomK a.kind = true then showE a else Go.Th.paren (showE a)).length = (argS a).length := rfl
                                             simp only [List.length_append, List.length_cons, List.length_nil]; omega)) ?_
     refine q_ev rfl rfl <| q_end <| r_then_normal <| r_retc <| r_in_ret <| r_then_ret ?_
     exact r_ret1 [] rfl rfl (by simp) ⟨by simp [argS], rfl, rfl⟩
    | false =>
     rw [hk] at atf
     have kc := key (decide (f.kind = 5)) (by simp [funK, hk])
     refine r_seq ?_
     refine r_qregion mixed (by kernel_rfl) ?_
     refine q_v rfl (val_loadB 1 rfl rfl (by rfl)) ?_; refine q_v rfl (val_loadB 1 rfl rfl (by rfl)) ?_
     refine q_callP rfl rfl atf ?_
     refine q_ev rfl rfl <| q_take rfl <| q_v rfl (val_fieldAddr rfl) ?_; refine q_take rfl <| q_v rfl (val_loadB1 1 rfl rfl rfl) ?_; refine q_tev rfl rfl rfl <| q_ev rfl rfl ?_
     refine q_callP rfl rfl kc ?_
     refine q_v rfl (val_add_str rfl rfl (by simp; omega)) ?_
     refine q_v rfl (val_loadB 0 rfl rfl (by rfl)) ?_; refine q_v rfl (val_loadB 0 rfl rfl (by rfl)) ?_
     refine q_callP rfl rfl ata ?_
     refine q_callP rfl rfl (closed8_of g a _ _ (by omega) hVa iha) ?_
     refine q_v rfl (val_add_str rfl rfl (by have : (if atomK a.kind = true then showE a else Go.Th.paren (showE a)).length = (argS a).length := rfl
                                             simp only [List.length_append, List.length_cons, List.length_nil]; omega)) ?_
     refine q_ev rfl rfl <| q_end <| r_then_normal <| r_retc <| r_in_ret <| r_then_ret ?_
     exact r_ret1 [] rfl rfl (by simp) ⟨by simp [argS], rfl, rfl⟩
   ·intro K hK
    refine h_beginE [] mixed (fun hG => ?_)
    refine h_takeXA 0 rfl (by kernel_rfl) rfl hG ?_; refine ⟨_, (val_fieldAddr rfl), ?_⟩; refine h_takeXA 1 rfl (by kernel_rfl) rfl hG ?_; refine ⟨_, (val_loadB1 0 rfl rfl rfl), ?_⟩
    refine h_takeXA 2 rfl (by kernel_rfl) rfl hG ⟨_, (val_indexAddr (j := 0) rfl rfl rfl (by omega)), ?_⟩
    refine h_takeXA 3 rfl (by kernel_rfl) rfl hG ⟨_, (val_load rfl (hrf _) rfl), ?_⟩
    refine h_takeXA 4 rfl (by kernel_rfl) rfl hG ?_; refine ⟨_, (val_fieldAddr rfl), ?_⟩; refine h_takeXA 5 rfl (by kernel_rfl) rfl hG ?_; refine ⟨_, (val_loadB1 0 rfl rfl rfl), ?_⟩
    refine h_takeXA 6 rfl (by kernel_rfl) rfl hG ⟨_, (val_indexAddr (j := 1) rfl rfl rfl (by omega)), ?_⟩
    refine h_takeXA 7 rfl (by kernel_rfl) rfl hG ⟨_, (val_load rfl (hra _) rfl), ?_⟩
    refine h_two 8 9 (by kernel_rfl) rfl rfl ?_ ?_
    ·refine r_alloc rfl (fun b3 => ?_)
     refine r_nn ?_
     refine h_keptA hG ?_
     refine h_one 9 (by kernel_rfl) rfl ?_
     refine r_alloc rfl (fun b4 => ?_)
     refine r_nn ?_
     refine h_keptA hG ?_
     refine h_one 10 (by kernel_rfl) rfl ?_
     refine r_storeA 1 rfl rfl rfl rfl (by rfl) (by repeat' (first | exact rfl | assumption | refine all_cons ?_ ?_)) rfl ?_; refine r_nn ?_
     refine h_keptA hG ?_
     refine h_one 11 (by kernel_rfl) rfl ?_
     refine r_storeA 0 rfl rfl rfl rfl (by rfl) (by repeat' (first | exact rfl | assumption | refine all_cons ?_ ?_)) rfl ?_; refine r_nn ?_
     refine h_keptA hG ?_
     refine h_done (by kernel_rfl) ?_
     refine r_then_normal ?_
     refine r_drop (own' := [_, _]) (.cons_cons _ (.cons_cons _ (.cons _ (List.Sublist.refl _)))) ?_
     exact hK (b3, b4) _ trivial ⟨rfl, rfl, trivial⟩
    ·refine r_alloc rfl (fun b4 => ?_)
     refine r_nn ?_
     refine h_keptA hG ?_
     refine h_one 8 (by kernel_rfl) rfl ?_
     refine r_alloc rfl (fun b3 => ?_)
     refine r_nn ?_
     refine h_keptA hG ?_
     refine h_one 10 (by kernel_rfl) rfl ?_
     refine r_storeA 0 rfl rfl rfl rfl (by rfl) (by repeat' (first | exact rfl | assumption | refine all_cons ?_ ?_)) rfl ?_; refine r_nn ?_
     refine h_keptA hG ?_
     refine h_one 11 (by kernel_rfl) rfl ?_
     refine r_storeA 1 rfl rfl rfl rfl (by rfl) (by repeat' (first | exact rfl | assumption | refine all_cons ?_ ?_)) rfl ?_; refine r_nn ?_
     refine h_keptA hG ?_
     refine h_done (by kernel_rfl) ?_
     refine r_then_normal ?_
     refine r_perm (List.Perm.swap _ _ _) ?_
     refine r_drop (own' := [_, _]) (.cons_cons _ (.cons_cons _ (.cons _ (List.Sublist.refl _)))) ?_
     exact hK (b3, b4) _ trivial ⟨rfl, rfl, trivial⟩
  | bind k p n a b hk hn ha hb =>
   replace h1 : SlAt g 11 (.slice a1 2 c1) 2 xk := h1
   replace h2 : ExsAt g [a, b] xk := h2
   obtain ⟨b0, off, cap, hsl, hx⟩ := h1.held (show 0 < 2 by omega)
   cases hsl
   obtain ⟨ca, ka, hra⟩ := exs_rdA h2 hx (i := 0) (by simp)
   obtain ⟨cb, kb, hrb⟩ := exs_rdA h2 hx (i := 1) (by simp)
   replace ka : ExAt g a ca := ka
   replace kb : ExAt g b cb := kb
   have hsa : sizeE a < N := by simp [kidsE, sizeE, sizeEs] at h; omega
   have hsb : sizeE b < N := by simp [kidsE, sizeE, sizeEs] at h; omega
   have e3 : letB.length = 3 ∧ recB.length = 3 ∧ inB.length = 2 := by decide
   rcases hk with rfl | rfl
   ·rw [showE_let] at hl ⊢
    simp only [List.length_append, List.length_cons, List.length_nil] at hl
    show Pure Tryz.prog 26 [.agg #[.int .i64 6, .int .i64 p, str n, .int .i64 0, .slice (some ⟨b0, off, none⟩) 2 c1, .slice a2 0 c2, .int .i64 0, str [], .int .i64 0, .int .i64 0, .slice a3 m3 c3]] g _
    refine spec_of_run Tryz.func26 rfl Tryz.ntmps26 rfl fun E hE => ?_
    refine r_sr ?_
    refine r_box rfl rfl rfl (fun b1 => ?_)
    refine r_ev rfl rfl <| r_nn <| r_seq <| r_sr <| r_fieldAddr rfl rfl <| r_loadB1 0 rfl rfl rfl rfl <| r_nn <| r_block <| r_seq <| r_sr <| r_ev rfl rfl <| r_ev rfl rfl <| r_nn <| r_cond_false rfl ?_; refine r_region <| r_ev rfl rfl <| r_ev rfl rfl <| r_nn <| r_cond_false rfl <| r_sr <| r_ev rfl rfl <| r_ev rfl rfl <| r_nn <| r_cond_false rfl <| r_sr <| r_ev rfl rfl <| r_ev rfl rfl <| r_nn ?_; refine r_cond_false rfl <| r_sr <| r_ev rfl rfl <| r_ev rfl rfl <| r_nn <| r_cond_false rfl <| r_sr <| r_ev rfl rfl <| r_ev rfl rfl <| r_nn <| r_cond_false rfl <| r_sr <| r_ev rfl rfl <| r_ev rfl rfl ?_; refine r_nn <| r_cond_true rfl <| r_seq ?_
    refine r_qregion mixed (by kernel_rfl) ?_
    refine q_v rfl (val_fieldAddr rfl) ?_; refine q_v rfl (val_loadB1 0 rfl rfl rfl) ?_
    refine q_v rfl (val_add_str rfl rfl (by simp; omega)) ?_
    refine q_v rfl (val_add_str rfl rfl (by simp; omega)) ?_
    refine q_v rfl (val_fieldAddr rfl) ?_; refine q_v rfl (val_loadB1 0 rfl rfl rfl) ?_; refine q_v rfl (val_indexAddr (j := 0) rfl rfl rfl (by omega)) ?_
    refine q_v rfl (val_load rfl (hra _) ka.one.1) ?_
    refine q_callP rfl rfl (ih a _ hsa ha (by omega) ⟨ca, rfl, ka⟩) ?_
    refine q_v rfl (val_add_str rfl rfl (by simp; omega)) ?_
    refine q_v rfl (val_add_str rfl rfl (by simp; omega)) ?_
    refine q_v rfl (val_fieldAddr rfl) ?_; refine q_v rfl (val_loadB1 0 rfl rfl rfl) ?_
    refine q_v rfl (val_indexAddr (j := 1) rfl rfl rfl (by omega)) ?_
    refine q_v rfl (val_load rfl (hrb _) kb.one.1) ?_
    refine q_callP rfl rfl (ih b _ hsb hb (by omega) ⟨cb, rfl, kb⟩) ?_
    refine q_v rfl (val_add_str rfl rfl (by simp; omega)) ?_
    refine q_ev rfl rfl <| q_end <| r_then_normal <| r_retc <| r_in_ret <| r_then_ret ?_
    exact r_ret1 [] rfl rfl (by simp) ⟨by simp [letB, inB], rfl, rfl⟩
   ·rw [showE_rec] at hl ⊢
    simp only [List.length_append, List.length_cons, List.length_nil] at hl
    show Pure Tryz.prog 26 [.agg #[.int .i64 7, .int .i64 p, str n, .int .i64 0, .slice (some ⟨b0, off, none⟩) 2 c1, .slice a2 0 c2, .int .i64 0, str [], .int .i64 0, .int .i64 0, .slice a3 m3 c3]] g _
    refine spec_of_run Tryz.func26 rfl Tryz.ntmps26 rfl fun E hE => ?_
    refine r_sr ?_
    refine r_box rfl rfl rfl (fun b1 => ?_)
    refine r_ev rfl rfl <| r_nn <| r_seq <| r_sr <| r_fieldAddr rfl rfl <| r_loadB1 0 rfl rfl rfl rfl <| r_nn <| r_block <| r_seq <| r_sr <| r_ev rfl rfl <| r_ev rfl rfl <| r_nn <| r_cond_false rfl ?_; refine r_region <| r_ev rfl rfl <| r_ev rfl rfl <| r_nn <| r_cond_false rfl <| r_sr <| r_ev rfl rfl <| r_ev rfl rfl <| r_nn <| r_cond_false rfl <| r_sr <| r_ev rfl rfl <| r_ev rfl rfl <| r_nn ?_; refine r_cond_false rfl <| r_sr <| r_ev rfl rfl <| r_ev rfl rfl <| r_nn <| r_cond_false rfl <| r_sr <| r_ev rfl rfl <| r_ev rfl rfl <| r_nn <| r_cond_false rfl <| r_sr <| r_ev rfl rfl <| r_ev rfl rfl ?_; refine r_nn <| r_cond_false rfl <| r_sr <| r_ev rfl rfl <| r_ev rfl rfl <| r_nn <| r_cond_true rfl <| r_seq ?_
    refine r_qregion mixed (by kernel_rfl) ?_
    refine q_v rfl (val_fieldAddr rfl) ?_; refine q_v rfl (val_loadB1 0 rfl rfl rfl) ?_
    refine q_v rfl (val_add_str rfl rfl (by simp; omega)) ?_
    refine q_v rfl (val_add_str rfl rfl (by simp; omega)) ?_
    refine q_v rfl (val_fieldAddr rfl) ?_; refine q_v rfl (val_loadB1 0 rfl rfl rfl) ?_; refine q_v rfl (val_indexAddr (j := 0) rfl rfl rfl (by omega)) ?_
    refine q_v rfl (val_load rfl (hra _) ka.one.1) ?_
    refine q_callP rfl rfl (ih a _ hsa ha (by omega) ⟨ca, rfl, ka⟩) ?_
    refine q_v rfl (val_add_str rfl rfl (by simp; omega)) ?_
    refine q_v rfl (val_add_str rfl rfl (by simp; omega)) ?_
    refine q_v rfl (val_fieldAddr rfl) ?_; refine q_v rfl (val_loadB1 0 rfl rfl rfl) ?_
    refine q_v rfl (val_indexAddr (j := 1) rfl rfl rfl (by omega)) ?_
    refine q_v rfl (val_load rfl (hrb _) kb.one.1) ?_
    refine q_callP rfl rfl (ih b _ hsb hb (by omega) ⟨cb, rfl, kb⟩) ?_
    refine q_v rfl (val_add_str rfl rfl (by simp; omega)) ?_
    refine q_ev rfl rfl <| q_end <| r_then_normal <| r_retc <| r_in_ret <| r_then_ret ?_
    exact r_ret1 [] rfl rfl (by simp) ⟨by simp [letB, recB, inB], rfl, rfl⟩
  | ann p x t hx0 ht =>
   replace h1 : SlAt g 11 (.slice a1 1 c1) 1 xk := h1
   replace h2 : ExsAt g [x] xk := h2
   replace h5 : TyAt g t (tyCells t (.slice a3 m3 c3)) := h5
   obtain ⟨b0, off, cap, hsl, hx⟩ := h1.held (show 0 < 1 by omega)
   cases hsl
   obtain ⟨c, k1, hr⟩ := exs_rdA h2 hx (i := 0) (by simp)
   replace k1 : ExAt g x c := k1
   have hsz : sizeE x < N := by simp [annE, sizeE, sizeEs] at h; omega
   rw [showE_ann] at hl ⊢
   simp only [List.length_append, List.length_cons, List.length_nil] at hl
   show Pure Tryz.prog 26 [.agg #[.int .i64 9, .int .i64 p, str [], .int .i64 0, .slice (some ⟨b0, off, none⟩) 1 c1, .slice a2 0 c2, .int .i64 t.kind, str t.name, .int .i64 t.id, .int .i64 t.home, .slice a3 m3 c3]] g _
   refine spec_of_run Tryz.func26 rfl Tryz.ntmps26 rfl fun E hE => ?_
   refine r_sr ?_
   refine r_box rfl rfl rfl (fun b1 => ?_)
   refine r_ev rfl rfl <| r_nn <| r_seq <| r_sr <| r_fieldAddr rfl rfl <| r_loadB1 0 rfl rfl rfl rfl <| r_nn <| r_block <| r_seq <| r_sr <| r_ev rfl rfl <| r_ev rfl rfl <| r_nn <| r_cond_false rfl ?_; refine r_region <| r_ev rfl rfl <| r_ev rfl rfl <| r_nn <| r_cond_false rfl <| r_sr <| r_ev rfl rfl <| r_ev rfl rfl <| r_nn <| r_cond_false rfl <| r_sr <| r_ev rfl rfl <| r_ev rfl rfl <| r_nn ?_; refine r_cond_false rfl <| r_sr <| r_ev rfl rfl <| r_ev rfl rfl <| r_nn <| r_cond_false rfl <| r_sr <| r_ev rfl rfl <| r_ev rfl rfl <| r_nn <| r_cond_false rfl <| r_sr <| r_ev rfl rfl <| r_ev rfl rfl ?_; refine r_nn <| r_cond_false rfl <| r_sr <| r_ev rfl rfl <| r_ev rfl rfl <| r_nn <| r_cond_false rfl <| r_sr <| r_ev rfl rfl <| r_ev rfl rfl <| r_nn <| r_cond_true rfl <| r_seq ?_
   refine r_qregion mixed (by kernel_rfl) ?_
   refine q_v rfl (val_fieldAddr rfl) ?_; refine q_v rfl (val_loadB1 0 rfl rfl rfl) ?_; refine q_v rfl (val_indexAddr (j := 0) rfl rfl rfl (by omega)) ?_
   refine q_v rfl (val_load rfl (hr _) k1.one.1) ?_
   refine q_callP rfl rfl (ih x _ hsz hx0 (by omega) ⟨c, rfl, k1⟩) ?_
   refine q_v rfl (val_add_str rfl rfl (by simp; omega)) ?_
   refine q_v rfl (val_add_str rfl rfl (by simp; omega)) ?_
   refine q_v rfl (val_fieldAddr rfl) ?_; refine q_v rfl (val_loadB 0 rfl rfl (by rfl)) ?_
   refine q_callP rfl rfl (Type8_spec g t _ ht (by omega) ⟨_, rfl, h5⟩) ?_
   refine q_v rfl (val_add_str rfl rfl (by simp; omega)) ?_
   refine q_v rfl (val_add_str rfl rfl (by simp; omega)) ?_
   refine q_ev rfl rfl <| q_end <| r_then_normal <| r_retc <| r_in_ret <| r_then_ret ?_
   exact r_ret1 [] rfl rfl (by simp) ⟨by simp, rfl, rfl⟩
  | held p x hx0 =>
   replace h1 : SlAt g 11 (.slice a1 1 c1) 1 xk := h1
   replace h2 : ExsAt g [x] xk := h2
   obtain ⟨b0, off, cap, hsl, hx⟩ := h1.held (show 0 < 1 by omega)
   cases hsl
   obtain ⟨c, k1, hr⟩ := exs_rdA h2 hx (i := 0) (by simp)
   replace k1 : ExAt g x c := k1
   have hsz : sizeE x < N := by simp [kidsE, sizeE, sizeEs] at h; omega
   rw [showE_held] at hl ⊢
   simp only [List.length_append, List.length_cons, List.length_nil] at hl
   show Pure Tryz.prog 26 [.agg #[.int .i64 11, .int .i64 p, str [], .int .i64 0, .slice (some ⟨b0, off, none⟩) 1 c1, .slice a2 0 c2, .int .i64 0, str [], .int .i64 0, .int .i64 0, .slice a3 m3 c3]] g _
   refine spec_of_run Tryz.func26 rfl Tryz.ntmps26 rfl fun E hE => ?_
   refine r_sr ?_
   refine r_box rfl rfl rfl (fun b1 => ?_)
   refine r_ev rfl rfl <| r_nn <| r_seq <| r_sr <| r_fieldAddr rfl rfl <| r_loadB1 0 rfl rfl rfl rfl <| r_nn <| r_block <| r_seq <| r_sr <| r_ev rfl rfl <| r_ev rfl rfl <| r_nn <| r_cond_false rfl ?_; refine r_region <| r_ev rfl rfl <| r_ev rfl rfl <| r_nn <| r_cond_false rfl <| r_sr <| r_ev rfl rfl <| r_ev rfl rfl <| r_nn <| r_cond_false rfl <| r_sr <| r_ev rfl rfl <| r_ev rfl rfl <| r_nn ?_; refine r_cond_false rfl <| r_sr <| r_ev rfl rfl <| r_ev rfl rfl <| r_nn <| r_cond_false rfl <| r_sr <| r_ev rfl rfl <| r_ev rfl rfl <| r_nn <| r_cond_false rfl <| r_sr <| r_ev rfl rfl <| r_ev rfl rfl ?_; refine r_nn <| r_cond_false rfl <| r_sr <| r_ev rfl rfl <| r_ev rfl rfl <| r_nn <| r_cond_false rfl <| r_sr <| r_ev rfl rfl <| r_ev rfl rfl <| r_nn <| r_cond_false rfl <| r_sr <| r_ev rfl rfl ?_; refine r_ev rfl rfl <| r_nn <| r_cond_true rfl <| r_sr <| r_fieldAddr rfl rfl <| r_loadB1 0 rfl rfl rfl rfl <| r_indexAddr (j := 0) rfl rfl rfl rfl (by omega) ?_
   refine r_load rfl rfl (hr _) k1.one.1 ?_
   refine r_callP rfl rfl (ih x _ hsz hx0 (by omega) ⟨c, rfl, k1⟩) ?_
   refine r_add_str rfl rfl rfl (by simp; omega) ?_
   refine r_add_str rfl rfl rfl (by simp; omega) ?_
   refine r_ev rfl rfl <| r_nn <| r_retc <| r_in_ret <| r_then_ret ?_
   exact r_ret1 [] rfl rfl (by simp) ⟨by simp, rfl, rfl⟩
  | case p x aa hx0 hne hc ha => exact Expr8_case g N ih p x aa _ h hx0 ha hl hv
theorem Expr8_spec (g : Ghost) (e : Ex) (v : Value) (he : GoodE e) (hl : (showE e).length ≤ 100000) (hv : ExV g v e) : Pure Tryz.prog 26 [v] g (str (showE e)) := Expr8_aux g _ e v (Nat.lt_succ_self _) he hl hv
end Go.Proofs.YtpjehhnaojjanaaGreatDoor
-- sum 4bc22af792e81142


/- The walks of chapter 6's laws: mutated; ReadexprTexts. -/
namespace Go.Th
mutual
theorem size_eraseE : ∀ e : Ex, sizeE (eraseE e) = sizeE e
 | .mk _ _ _ _ ks ra _ => by simp only [eraseE, sizeE, size_eraseEs ks, size_eraseAs ra]
theorem size_eraseEs : ∀ l : List Ex, sizeEs (eraseEs l) = sizeEs l
 | [] => rfl
 | a :: r => by simp only [eraseEs, sizeEs, size_eraseE a, size_eraseEs r]
theorem size_eraseA : ∀ a : Ar, sizeA (eraseA a) = sizeA a
 | .mk _ _ _ b => by simp only [eraseA, sizeA, size_eraseE b]
theorem size_eraseAs : ∀ l : List Ar, sizeAs (eraseAs l) = sizeAs l
 | [] => rfl
 | a :: r => by simp only [eraseAs, sizeAs, size_eraseA a, size_eraseAs r]
end
theorem size_same {a b : Ex} (h : eraseE a = eraseE b) : sizeE a = sizeE b := by rw [← size_eraseE a, h, size_eraseE]
end Go.Th
namespace Go.Proofs.YtpjehhnaojjanaaGreatDoor
open Go Go.Eng Go.Th Go.Proofs
set_option maxRecDepth 10000
set_option maxHeartbeats 4000000
attribute [local irreducible] wpList Code.wp Run bodyPost Go.Eng.Ends Exit.then Exit.inBlock Again Wq Kq
end Go.Proofs.YtpjehhnaojjanaaGreatDoor
-- sum 153cd9f60dc74edb

/- Nested expressions, their texts and what is read of them: plain. -/
namespace Go.Th
def nestS (w : Nat) (e : Ex) : Ex := if w = 0 then kidsE 4 0 [120] [e] else if w = 1 then kidsE 5 0 [] [e, leafE 3 0 [] 1] else if w = 2 then caseE 0 (leafE 10 0 [] 0) [.mk 0 [65] [] e] else kidsE 6 0 [121] [e, leafE 10 0 [] 0]
def nestE (w : Nat) : Nat → Ex
 | 0 => leafE 1 0 [120] 0
 | n + 1 => nestS w (nestE w n)
def arrN : Nat → Ty
 | 0 => intT
 | n + 1 => arrowT intT (arrN n)
def annN (n : Nat) : Ex := annE 0 (leafE 10 0 [] 0) (arrN n)
theorem intT_good : GoodT intT := .con _ _ (by decide) (fun _ h => by cases h)
theorem arrN_good : ∀ n, GoodT (arrN n)
 | 0 => intT_good
 | n + 1 => .arrow _ _ intT_good (arrN_good n)
theorem annN_good (n : Nat) : GoodE (annN n) := .ann _ _ _ (.hole 0) (arrN_good n)
theorem nestS_good (w : Nat) {e : Ex} (h : GoodE e) : GoodE (nestS w e) := by
 unfold nestS
 split
 ·exact .lam _ _ _ (by decide) h
 ·split
  ·exact .app _ _ _ h (.int 0 1 (by decide))
  ·split
   ·exact .case _ _ _ (.hole 0) (by simp) (fun a ha => by
     rw [List.mem_singleton.1 ha]
     exact ⟨rfl, fun v hv => by cases hv⟩) (fun a ha => by
     rw [List.mem_singleton.1 ha]
     exact h)
   ·exact .bind _ _ _ _ _ (.inl rfl) (by decide) h (.hole 0)
theorem nestE_good (w : Nat) : ∀ n, GoodE (nestE w n)
 | 0 => .var _ _ (by decide)
 | n + 1 => nestS_good w (nestE_good w n)
end Go.Th
namespace Go.Proofs.YtpjehhnaojjanaaGreatDoor
open Go Go.Eng Go.Th Go.Proofs
def letS (s : Bytes) : Bytes := [108, 101, 116, 32, 120, 32, 61, 32, 49, 59, 32, 108, 101, 116, 32, 121, 32, 61, 32] ++ s ++ [59]
def deepC (e : Ex) (i : Nat) : Bool := decide ((showE e).length ≤ 3900) && (resF (parseE (showE e)) == if i < 3 then (0, 0) else (4, 0)) && (resF (parseR (letS (showE e))) == if i < 3 then (0, 0) else (4, 11))
structure DeepOk (e : Ex) (i : Nat) : Prop where
 g : GoodE e
 l : (showE e).length ≤ 3900
 f : resF (parseE (showE e)) = if i < 3 then (0, 0) else (4, 0)
 p : resF (parseR (letS (showE e))) = if i < 3 then (0, 0) else (4, 11)
theorem deepOk_of {e : Ex} {i : Nat} (hg : GoodE e) (h : deepC e i = true) : DeepOk e i := by
 simp only [deepC, Bool.and_eq_true, decide_eq_true_eq, beq_iff_eq] at h
 exact ⟨hg, h.1.1, h.1.2, h.2⟩
theorem nc00 : deepC (nestE 0 38) 0 = true := by kernel_rfl
theorem nc01 : deepC (nestE 0 39) 1 = true := by kernel_rfl
theorem nc02 : deepC (nestE 0 40) 2 = true := by kernel_rfl
theorem nc03 : deepC (nestE 0 41) 3 = true := by kernel_rfl
theorem nc04 : deepC (nestE 0 42) 4 = true := by kernel_rfl
theorem nc10 : deepC (nestE 1 38) 0 = true := by kernel_rfl
theorem nc11 : deepC (nestE 1 39) 1 = true := by kernel_rfl
theorem nc12 : deepC (nestE 1 40) 2 = true := by kernel_rfl
theorem nc13 : deepC (nestE 1 41) 3 = true := by kernel_rfl
theorem nc14 : deepC (nestE 1 42) 4 = true := by kernel_rfl
theorem nc20 : deepC (nestE 2 38) 0 = true := by kernel_rfl
theorem nc21 : deepC (nestE 2 39) 1 = true := by kernel_rfl
theorem nc22 : deepC (nestE 2 40) 2 = true := by kernel_rfl
theorem nc23 : deepC (nestE 2 41) 3 = true := by kernel_rfl
theorem nc24 : deepC (nestE 2 42) 4 = true := by kernel_rfl
theorem nc30 : deepC (nestE 3 38) 0 = true := by kernel_rfl
theorem nc31 : deepC (nestE 3 39) 1 = true := by kernel_rfl
theorem nc32 : deepC (nestE 3 40) 2 = true := by kernel_rfl
theorem nc33 : deepC (nestE 3 41) 3 = true := by kernel_rfl
theorem nc34 : deepC (nestE 3 42) 4 = true := by kernel_rfl
theorem ac0 : deepC (annN 38) 0 = true := by kernel_rfl
theorem tc0 : resF (parseT (showT (arrN 38))) = if 0 < 3 then (0, 0) else (4, 0) := by kernel_rfl
theorem tl0 : (showT (arrN 38)).length = 269 := by kernel_rfl
theorem ac1 : deepC (annN 39) 1 = true := by kernel_rfl
theorem tc1 : resF (parseT (showT (arrN 39))) = if 1 < 3 then (0, 0) else (4, 0) := by kernel_rfl
theorem tl1 : (showT (arrN 39)).length = 276 := by kernel_rfl
theorem ac2 : deepC (annN 40) 2 = true := by kernel_rfl
theorem tc2 : resF (parseT (showT (arrN 40))) = if 2 < 3 then (0, 0) else (4, 0) := by kernel_rfl
theorem tl2 : (showT (arrN 40)).length = 283 := by kernel_rfl
theorem ac3 : deepC (annN 41) 3 = true := by kernel_rfl
theorem tc3 : resF (parseT (showT (arrN 41))) = if 3 < 3 then (0, 0) else (4, 0) := by kernel_rfl
theorem tl3 : (showT (arrN 41)).length = 290 := by kernel_rfl
theorem ac4 : deepC (annN 42) 4 = true := by kernel_rfl
theorem tc4 : resF (parseT (showT (arrN 42))) = if 4 < 3 then (0, 0) else (4, 0) := by kernel_rfl
theorem tl4 : (showT (arrN 42)).length = 297 := by kernel_rfl
theorem nest_ok {w i : Nat} (hw : w < 4) (hi : i < 5) : DeepOk (nestE w (38 + i)) i := by
 refine deepOk_of (nestE_good w _) ?_
 match w, i, hw, hi with
 | 0, 0, _, _ => exact nc00
 | 0, 1, _, _ => exact nc01
 | 0, 2, _, _ => exact nc02
 | 0, 3, _, _ => exact nc03
 | 0, 4, _, _ => exact nc04
 | 1, 0, _, _ => exact nc10
 | 1, 1, _, _ => exact nc11
 | 1, 2, _, _ => exact nc12
 | 1, 3, _, _ => exact nc13
 | 1, 4, _, _ => exact nc14
 | 2, 0, _, _ => exact nc20
 | 2, 1, _, _ => exact nc21
 | 2, 2, _, _ => exact nc22
 | 2, 3, _, _ => exact nc23
 | 2, 4, _, _ => exact nc24
 | 3, 0, _, _ => exact nc30
 | 3, 1, _, _ => exact nc31
 | 3, 2, _, _ => exact nc32
 | 3, 3, _, _ => exact nc33
 | 3, 4, _, _ => exact nc34
theorem ann_ok {i : Nat} (hi : i < 5) : DeepOk (annN (38 + i)) i ∧ (showT (arrN (38 + i))).length ≤ 3900 ∧ resF (parseT (showT (arrN (38 + i)))) = if i < 3 then (0, 0) else (4, 0) := by
 match i, hi with
 | 0, _ => exact ⟨deepOk_of (annN_good _) ac0, by rw [tl0]; decide, tc0⟩
 | 1, _ => exact ⟨deepOk_of (annN_good _) ac1, by rw [tl1]; decide, tc1⟩
 | 2, _ => exact ⟨deepOk_of (annN_good _) ac2, by rw [tl2]; decide, tc2⟩
 | 3, _ => exact ⟨deepOk_of (annN_good _) ac3, by rw [tl3]; decide, tc3⟩
 | 4, _ => exact ⟨deepOk_of (annN_good _) ac4, by rw [tl4]; decide, tc4⟩
theorem deep_same {e : Ex} {i : Nat} (h : DeepOk e i) (hi : i < 3) : eraseE (resE (parseE (showE e))) = eraseE e ∧ sizeE e ≤ 1000000 ∧ sizeE (resE (parseE (showE e))) ≤ 1000000 := by
 have he := h.f
 rw [if_pos hi] at he
 obtain ⟨y, hy1, hy2⟩ := showE_reads h.g (by have := h.l; omega) (l := toksOf (showE e)) (r := []) (by simp) stopE_nil
 rw [show idxOf (toksOf (showE e)).length 0 = 0 by unfold idxOf; rw [if_neg (by omega)]; simp] at hy1
 have hb4 := (toksOf_facts (showE e)).1
 have hsz := eread_size _ _ .expr 0 y _ (Nat.lt_succ_self _) hy1
 have hpar : parseE (showE e) = .ok y := by
  unfold parseE at he ⊢
  cases hsc : scan (showE e) with
  | bad c p =>
   rw [hsc] at he
   exact absurd (congrArg Prod.fst he) (scan_code hsc)
  | ok l =>
   rw [hsc] at he
   rw [show toksOf (showE e) = l by unfold toksOf; rw [hsc]] at hy1
   simp only [hy1] at he ⊢
   rw [if_neg (by omega)] at he ⊢
   unfold exprO at he ⊢
   split
   ·rename_i hd; rw [if_pos hd] at he; exact absurd (congrArg Prod.fst he) (by decide)
   ·rename_i hd
    rw [if_neg hd] at he
    split
    ·rename_i q hq; rw [hq] at he; exact absurd (show (5 : Int) = 0 from congrArg Prod.fst he) (by decide)
    ·rfl
 simp only at hsz
 rw [hpar]
 refine ⟨hy2, ?_, ?_⟩
 ·rw [← size_same hy2]; omega
 ·simp only [resE]; omega
end Go.Proofs.YtpjehhnaojjanaaGreatDoor
-- sum ff3dda5e9675489c

/- The walks of typedholesref4.EqualProgram and of law 7's places. -/
namespace Go.Proofs.YtpjehhnaojjanaaGreatDoor
open Go Go.Eng Go.Th Go.Proofs
set_option maxRecDepth 10000
set_option maxHeartbeats 4000000
attribute [local irreducible] wpList Code.wp Run bodyPost Go.Eng.Ends Exit.then Exit.inBlock Again Wq Kq
structure SameP (p q : Pg) : Prop where
 dl : p.datas.length = q.datas.length
 bl : p.binds.length = q.binds.length
 d : ∀ i (h : i < p.datas.length) (h' : i < q.datas.length), p.datas[i].name = q.datas[i].name ∧ p.datas[i].params = q.datas[i].params ∧ p.datas[i].cons.length = q.datas[i].cons.length ∧
  ∀ k (h1 : k < p.datas[i].cons.length) (h2 : k < q.datas[i].cons.length), p.datas[i].cons[k].name = q.datas[i].cons[k].name ∧ p.datas[i].cons[k].fields = q.datas[i].cons[k].fields
 b : ∀ i (h : i < p.binds.length) (h' : i < q.binds.length), p.binds[i].isRec = q.binds[i].isRec ∧ p.binds[i].name = q.binds[i].name ∧ p.binds[i].hasSig = q.binds[i].hasSig ∧ p.binds[i].sig = q.binds[i].sig ∧ eraseE p.binds[i].body = eraseE q.binds[i].body ∧ sizeE p.binds[i].body ≤ 1000000 ∧ sizeE q.binds[i].body ≤ 1000000
theorem SameP.refl {p : Pg} (h : ∀ b ∈ p.binds, sizeE b.body ≤ 1000000) : SameP p p :=
 ⟨rfl, rfl, fun _ _ _ => ⟨rfl, rfl, rfl, fun _ _ _ => ⟨rfl, rfl⟩⟩, fun i h1 _ => ⟨rfl, rfl, rfl, rfl, rfl, h _ (List.getElem_mem h1), h _ (List.getElem_mem h1)⟩⟩
end Go.Proofs.YtpjehhnaojjanaaGreatDoor
-- sum 2f948454bee7f3b4

/- The walk of typedholesref4.EqualProgram. -/
namespace Go.Proofs.YtpjehhnaojjanaaGreatDoor
open Go Go.Eng Go.Th Go.Proofs
set_option maxRecDepth 10000
set_option maxHeartbeats 4000000
attribute [local irreducible] wpList Code.wp Run bodyPost Go.Eng.Ends Exit.then Exit.inBlock Again Wq Kq
end Go.Proofs.YtpjehhnaojjanaaGreatDoor
-- sum 9b5f67ccae9c4968


/- Texts of expressions: the walks of typedholesref8.atom, closed and Expr. -/
import Derived.Test.YtpjehhnaojjanaaGreatDoorK18
import Derived.Test.YtpjehhnaojjanaaGreatDoorK21
import Derived.Test.YtpjehhnaojjanaaGreatDoorK14
import Derived.Test.YtpjehhnaojjanaaGreatDoorPgL
import Derived.Test.YtpjehhnaojjanaaGreatDoorK15
import Derived.Test.YtpjehhnaojjanaaGreatDoorK25
import Derived.Test.YtpjehhnaojjanaaGreatDoorK16
import Derived.Test.YtpjehhnaojjanaaGreatDoorRows
import Derived.LaidSub
import Derived.LaidLaws
import Derived.LaidHandle
import Derived.Stop.Joined
import Derived.Lay
namespace Go.Proofs.YtpjehhnaojjanaaGreatDoor
open Go Go.Eng Go.Th Go.Proofs
set_option maxRecDepth 10000
set_option maxHeartbeats 4000000
attribute [local irreducible] wpList Code.wp Run bodyPost Go.Eng.Ends Exit.then Exit.inBlock Again Wq Kq
theorem atom8_spec (g : Ghost) (e : Ex) (v : Value) (hv : ExV g v e) : Pure Tryz.prog 71 [v] g (.bool (atomK e.kind)) := by
 obtain ⟨a1, c1, a2, c2, a3, m3, c3, xk, xa, rfl, h1, h2, h3, h4, h5⟩ := hv.open
 refine spec_of_run Tryz.func71 rfl Tryz.ntmps71 rfl fun E hE => ?_
 refine r_sr ?_
 refine r_box rfl rfl rfl (fun b1 => ?_)
 generalize e.kind = k
 refine r_ev rfl rfl <| r_nn <| r_seq <| r_sr <| r_fieldAddr rfl rfl <| r_loadB1 0 rfl rfl rfl rfl <| r_nn <| r_block <| r_seq <| r_sr <| r_ev rfl rfl <| r_ev rfl rfl <| r_nn ?_
 refine r_dec 5 rfl (fun k1 => ?_) (fun k1 => ?_)
 ·refine r_cond_true rfl <| r_skip <| r_then_normal <| r_cond_true rfl <| r_sr <| r_ev rfl rfl <| r_nn <| r_retc <| r_in_ret <| r_then_ret ?_
  exact r_ret1 [] rfl rfl (by simp) ⟨by simp [atomK, k1], rfl, rfl⟩
 refine r_cond_false rfl <| r_sr <| r_ev rfl rfl <| r_ev rfl rfl <| r_nn ?_
 refine r_dec 5 rfl (fun k2 => ?_) (fun k2 => ?_)
 ·refine r_cond_true rfl <| r_skip <| r_then_normal <| r_cond_true rfl <| r_sr <| r_ev rfl rfl <| r_nn <| r_retc <| r_in_ret <| r_then_ret ?_
  exact r_ret1 [] rfl rfl (by simp) ⟨by simp [atomK, k2], rfl, rfl⟩
 refine r_cond_false rfl <| r_sr <| r_ev rfl rfl <| r_ev rfl rfl <| r_nn ?_
 refine r_dec 5 rfl (fun k3 => ?_) (fun k3 => ?_)
 ·refine r_cond_true rfl <| r_skip <| r_then_normal <| r_cond_true rfl <| r_sr <| r_ev rfl rfl <| r_nn <| r_retc <| r_in_ret <| r_then_ret ?_
  exact r_ret1 [] rfl rfl (by simp) ⟨by simp [atomK, k3], rfl, rfl⟩
 refine r_cond_false rfl <| r_sr <| r_ev rfl rfl <| r_ev rfl rfl <| r_nn ?_
 refine r_dec 5 rfl (fun k4 => ?_) (fun k4 => ?_)
 ·refine r_cond_true rfl <| r_skip <| r_then_normal <| r_cond_true rfl <| r_sr <| r_ev rfl rfl <| r_nn <| r_retc <| r_in_ret <| r_then_ret ?_
  exact r_ret1 [] rfl rfl (by simp) ⟨by simp [atomK, k4], rfl, rfl⟩
 refine r_cond_false rfl <| r_sr <| r_ev rfl rfl <| r_ev rfl rfl <| r_nn ?_
 refine r_dec 5 rfl (fun k5 => ?_) (fun k5 => ?_)
 ·refine r_cond_true rfl <| r_skip <| r_then_normal <| r_cond_true rfl <| r_sr <| r_ev rfl rfl <| r_nn <| r_retc <| r_in_ret <| r_then_ret ?_
  exact r_ret1 [] rfl rfl (by simp) ⟨by simp [atomK, k5], rfl, rfl⟩
 refine r_cond_false rfl <| r_region <| r_ev rfl rfl <| r_ev rfl rfl <| r_nn ?_
 refine r_dec 5 rfl (fun k6 => ?_) (fun k6 => ?_)
 ·refine r_cond_true rfl <| r_sr <| r_ev rfl rfl <| r_nn <| r_retc <| r_in_ret <| r_then_ret ?_
  exact r_ret1 [] rfl rfl (by simp) ⟨by simp [atomK, k6], rfl, rfl⟩
 refine r_cond_false rfl <| r_skip <| r_in_normal <| r_then_normal <| r_sr <| r_ev rfl rfl <| r_nn <| r_retc ?_
 exact r_ret1 [] rfl rfl (by simp) ⟨by simp [atomK, k1, k2, k3, k4, k5, k6], rfl, rfl⟩
theorem closed8_of (g : Ghost) (e : Ex) (v : Value) (p : Bool) (hl : (showE e).length ≤ 100000) (hv : ExV g v e) (hX : Pure Tryz.prog 26 [v] g (str (showE e))) : Pure Tryz.prog 70 [v, .bool p] g (str (if p then showE e else Go.Th.paren (showE e))) := by
 obtain ⟨a1, c1, a2, c2, a3, m3, c3, xk, xa, rfl, h1, h2, h3, h4, h5⟩ := hv.open
 refine spec_of_run Tryz.func70 rfl Tryz.ntmps70 rfl fun E hE => ?_
 refine r_sr ?_
 refine r_box rfl rfl rfl (fun b2 => ?_)
 cases p with
 | true =>
  refine r_ev rfl rfl <| r_nn <| r_seq <| r_sr <| r_ev rfl rfl <| r_nn <| r_cond_true rfl <| r_sr <| r_loadB 0 rfl rfl rfl (by rfl) ?_
  refine r_callP rfl rfl hX ?_
  refine r_ev rfl rfl <| r_nn <| r_retc <| r_then_ret ?_
  exact r_ret1 [] rfl rfl (by simp) ⟨rfl, rfl, rfl⟩
 | false =>
  refine r_ev rfl rfl <| r_nn <| r_seq <| r_sr <| r_ev rfl rfl <| r_nn <| r_cond_false rfl <| r_skip <| r_then_normal <| r_sr <| r_loadB 0 rfl rfl rfl (by rfl) ?_
  refine r_callP rfl rfl hX ?_
  refine r_add_str rfl rfl rfl (by simp; omega) ?_
  refine r_add_str rfl rfl rfl (by simp; omega) ?_
  refine r_ev rfl rfl <| r_nn <| r_retc ?_
  exact r_ret1 [] rfl rfl (by simp) ⟨rfl, rfl, rfl⟩
theorem Expr8_aux (g : Ghost) : ∀ (N : Nat) (e : Ex) (v : Value), sizeE e < N → GoodE e → (showE e).length ≤ 100000 → ExV g v e → Pure Tryz.prog 26 [v] g (str (showE e))
 | 0, _, _, h, _, _, _ => by omega
 | N + 1, e, v, h, he, hl, hv => by
  have ih := Expr8_aux g N
  obtain ⟨a1, c1, a2, c2, a3, m3, c3, xk, xa, rfl, h1, h2, h3, h4, h5⟩ := hv.open
  cases he with
  | var p n hn =>
   rw [showE_var]
   show Pure Tryz.prog 26 [.agg #[.int .i64 1, .int .i64 p, str n, .int .i64 0, .slice a1 0 c1, .slice a2 0 c2, .int .i64 0, str [], .int .i64 0, .int .i64 0, .slice a3 m3 c3]] g _
   refine spec_of_run Tryz.func26 rfl Tryz.ntmps26 rfl fun E hE => ?_
   refine r_sr ?_
   refine r_box rfl rfl rfl (fun b1 => ?_)
   refine r_ev rfl rfl <| r_nn <| r_seq <| r_sr <| r_fieldAddr rfl rfl <| r_loadB1 0 rfl rfl rfl rfl <| r_nn <| r_block <| r_seq <| r_sr <| r_ev rfl rfl <| r_ev rfl rfl <| r_nn <| r_cond_true rfl ?_; refine r_skip <| r_then_normal <| r_cond_true rfl <| r_sr <| r_fieldAddr rfl rfl <| r_loadB1 0 rfl rfl rfl rfl <| r_ev rfl rfl <| r_nn <| r_retc <| r_in_ret <| r_then_ret ?_
   exact r_ret1 [] rfl rfl (by simp) ⟨rfl, rfl, rfl⟩
  | con p n hn =>
   rw [showE_con]
   show Pure Tryz.prog 26 [.agg #[.int .i64 2, .int .i64 p, str n, .int .i64 0, .slice a1 0 c1, .slice a2 0 c2, .int .i64 0, str [], .int .i64 0, .int .i64 0, .slice a3 m3 c3]] g _
   refine spec_of_run Tryz.func26 rfl Tryz.ntmps26 rfl fun E hE => ?_
   refine r_sr ?_
   refine r_box rfl rfl rfl (fun b1 => ?_)
   refine r_ev rfl rfl <| r_nn <| r_seq <| r_sr <| r_fieldAddr rfl rfl <| r_loadB1 0 rfl rfl rfl rfl <| r_nn <| r_block <| r_seq <| r_sr <| r_ev rfl rfl <| r_ev rfl rfl <| r_nn <| r_cond_false rfl ?_; refine r_region <| r_ev rfl rfl <| r_ev rfl rfl <| r_nn <| r_cond_true rfl <| r_sr <| r_fieldAddr rfl rfl <| r_loadB1 0 rfl rfl rfl rfl <| r_ev rfl rfl <| r_nn <| r_retc <| r_in_ret <| r_then_ret ?_
   exact r_ret1 [] rfl rfl (by simp) ⟨rfl, rfl, rfl⟩
  | int p m hm =>
   rw [showE_int]
   show Pure Tryz.prog 26 [.agg #[.int .i64 3, .int .i64 p, str [], .int .i64 m, .slice a1 0 c1, .slice a2 0 c2, .int .i64 0, str [], .int .i64 0, .int .i64 0, .slice a3 m3 c3]] g _
   refine spec_of_run Tryz.func26 rfl Tryz.ntmps26 rfl fun E hE => ?_
   refine r_sr ?_
   refine r_box rfl rfl rfl (fun b1 => ?_)
   refine r_ev rfl rfl <| r_nn <| r_seq <| r_sr <| r_fieldAddr rfl rfl <| r_loadB1 0 rfl rfl rfl rfl <| r_nn <| r_block <| r_seq <| r_sr <| r_ev rfl rfl <| r_ev rfl rfl <| r_nn <| r_cond_false rfl ?_; refine r_region <| r_ev rfl rfl <| r_ev rfl rfl <| r_nn <| r_cond_false rfl <| r_sr <| r_ev rfl rfl <| r_ev rfl rfl <| r_nn <| r_cond_true rfl <| r_sr <| r_fieldAddr rfl rfl <| r_loadB1 0 rfl rfl rfl rfl ?_
   refine r_callP rfl rfl (Number1_spec g m hm) ?_
   refine r_ev rfl rfl <| r_nn <| r_retc <| r_in_ret <| r_then_ret ?_
   exact r_ret1 [] rfl rfl (by simp) ⟨rfl, rfl, rfl⟩
  | hole p =>
   rw [showE_hole]
   show Pure Tryz.prog 26 [.agg #[.int .i64 10, .int .i64 p, str [], .int .i64 0, .slice a1 0 c1, .slice a2 0 c2, .int .i64 0, str [], .int .i64 0, .int .i64 0, .slice a3 m3 c3]] g _
   refine spec_of_run Tryz.func26 rfl Tryz.ntmps26 rfl fun E hE => ?_
   refine r_sr ?_
   refine r_box rfl rfl rfl (fun b1 => ?_)
   refine r_ev rfl rfl <| r_nn <| r_seq <| r_sr <| r_fieldAddr rfl rfl <| r_loadB1 0 rfl rfl rfl rfl <| r_nn <| r_block <| r_seq <| r_sr <| r_ev rfl rfl <| r_ev rfl rfl <| r_nn <| r_cond_false rfl ?_; refine r_region <| r_ev rfl rfl <| r_ev rfl rfl <| r_nn <| r_cond_false rfl <| r_sr <| r_ev rfl rfl <| r_ev rfl rfl <| r_nn <| r_cond_false rfl <| r_sr <| r_ev rfl rfl <| r_ev rfl rfl <| r_nn ?_; refine r_cond_true rfl <| r_sr <| r_ev rfl rfl <| r_nn <| r_retc <| r_in_ret <| r_then_ret ?_
   exact r_ret1 [] rfl rfl (by simp) ⟨rfl, rfl, rfl⟩
  | lam p n b hn hb =>
   replace h1 : SlAt g 11 (.slice a1 1 c1) 1 xk := h1
   replace h2 : ExsAt g [b] xk := h2
   obtain ⟨b0, off, cap, hsl, hx⟩ := h1.held (show 0 < 1 by omega)
   cases hsl
   obtain ⟨c, k1, hr⟩ := exs_rdA h2 hx (i := 0) (by simp)
   replace k1 : ExAt g b c := k1
   have hsz : sizeE b < N := by simp [kidsE, sizeE, sizeEs] at h; omega
   rw [showE_lam] at hl ⊢
   simp only [List.length_append, List.length_cons, List.length_nil] at hl
   show Pure Tryz.prog 26 [.agg #[.int .i64 4, .int .i64 p, str n, .int .i64 0, .slice (some ⟨b0, off, none⟩) 1 c1, .slice a2 0 c2, .int .i64 0, str [], .int .i64 0, .int .i64 0, .slice a3 m3 c3]] g _
   refine spec_of_run Tryz.func26 rfl Tryz.ntmps26 rfl fun E hE => ?_
   refine r_sr ?_
   refine r_box rfl rfl rfl (fun b1 => ?_)
   refine r_ev rfl rfl <| r_nn <| r_seq <| r_sr <| r_fieldAddr rfl rfl <| r_loadB1 0 rfl rfl rfl rfl <| r_nn <| r_block <| r_seq <| r_sr <| r_ev rfl rfl <| r_ev rfl rfl <| r_nn <| r_cond_false rfl ?_; refine r_region <| r_ev rfl rfl <| r_ev rfl rfl <| r_nn <| r_cond_false rfl <| r_sr <| r_ev rfl rfl <| r_ev rfl rfl <| r_nn <| r_cond_false rfl <| r_sr <| r_ev rfl rfl <| r_ev rfl rfl <| r_nn ?_; refine r_cond_false rfl <| r_sr <| r_ev rfl rfl <| r_ev rfl rfl <| r_nn <| r_cond_true rfl <| r_seq ?_
   refine r_qregion mixed (by kernel_rfl) ?_
   refine q_v rfl (val_fieldAddr rfl) ?_; refine q_v rfl (val_loadB1 0 rfl rfl rfl) ?_
   refine q_v rfl (val_add_str rfl rfl (by simp; omega)) ?_
   refine q_v rfl (val_add_str rfl rfl (by simp; omega)) ?_
   refine q_v rfl (val_fieldAddr rfl) ?_; refine q_v rfl (val_loadB1 0 rfl rfl rfl) ?_; refine q_v rfl (val_indexAddr (j := 0) rfl rfl rfl (by omega)) ?_
   refine q_v rfl (val_load rfl (hr _) k1.one.1) ?_
   refine q_callP rfl rfl (ih b _ hsz hb (by omega) ⟨c, rfl, k1⟩) ?_
   refine q_v rfl (val_add_str rfl rfl (by simp; omega)) ?_
   refine q_ev rfl rfl <| q_end <| r_then_normal <| r_retc <| r_in_ret <| r_then_ret ?_
   exact r_ret1 [] rfl rfl (by simp) ⟨by simp, rfl, rfl⟩
  | app p f a hf ha =>
   replace h1 : SlAt g 11 (.slice a1 2 c1) 2 xk := h1
   replace h2 : ExsAt g [f, a] xk := h2
   obtain ⟨b0, off, cap, hsl, hx⟩ := h1.held (show 0 < 2 by omega)
   cases hsl
   obtain ⟨cf, kf, hrf⟩ := exs_rdA h2 hx (i := 0) (by simp)
   obtain ⟨ca, ka, hra⟩ := exs_rdA h2 hx (i := 1) (by simp)
   replace kf : ExAt g f cf := kf
   replace ka : ExAt g a ca := ka
   have hsf : sizeE f < N := by simp [kidsE, sizeE, sizeEs] at h; omega
   have hsa : sizeE a < N := by simp [kidsE, sizeE, sizeEs] at h; omega
   rw [showE_app] at hl ⊢
   simp only [List.length_append, List.length_cons, List.length_nil] at hl
   have hlf : (showE f).length ≤ (funS f).length := by
    unfold funS
    split
    ·exact Nat.le_refl _
    ·unfold Go.Th.paren; simp only [List.length_cons, List.length_append, List.length_nil]; omega
   have hla : (showE a).length ≤ (argS a).length := by
    unfold argS
    split
    ·exact Nat.le_refl _
    ·unfold Go.Th.paren; simp only [List.length_cons, List.length_append, List.length_nil]; omega
   have hVf : ExV g (.agg cf.toArray) f := ⟨cf, rfl, kf⟩
   have hVa : ExV g (.agg ca.toArray) a := ⟨ca, rfl, ka⟩
   have ihf := ih f _ hsf hf (by omega) hVf
   have iha := ih a _ hsa ha (by omega) hVa
   obtain ⟨f1, f2, f3, f4, f5, f6, f7, f8, f9, ef, _⟩ := hVf.form
   obtain ⟨e1, e2, e3, e4, e5, e6, e7, e8, e9, ea, _⟩ := hVa.form
   have hcf : cf = [.int .i64 f.kind, .int .i64 f.pos, str f.name, .int .i64 f.num, .slice f1 f2 f3, .slice f4 f5 f6, .int .i64 f.ty.kind, str f.ty.name, .int .i64 f.ty.id, .int .i64 f.ty.home, .slice f7 f8 f9] := by simpa using ef
   have hca : ca = [.int .i64 a.kind, .int .i64 a.pos, str a.name, .int .i64 a.num, .slice e1 e2 e3, .slice e4 e5 e6, .int .i64 a.ty.kind, str a.ty.name, .int .i64 a.ty.id, .int .i64 a.ty.home, .slice e7 e8 e9] := by simpa using ea
   subst hcf
   subst hca
   have atf := atom8_spec g f _ hVf
   have ata := atom8_spec g a _ hVa
   obtain ⟨k5, hk5⟩ : ∃ k : Int, k = 5 := ⟨_, rfl⟩
   show Pure Tryz.prog 26 [.agg #[.int .i64 5, .int .i64 p, str [], .int .i64 0, .slice (some ⟨b0, off, none⟩) 2 c1, .slice a2 0 c2, .int .i64 0, str [], .int .i64 0, .int .i64 0, .slice a3 m3 c3]] g _
   rw [← hk5]
   refine spec_of_run Tryz.func26 rfl Tryz.ntmps26 rfl fun E hE => ?_
   refine r_sr ?_
   refine r_box rfl rfl rfl (fun b1 => ?_)
   refine r_ev rfl rfl <| r_nn <| r_seq <| r_sr <| r_fieldAddr rfl rfl <| r_loadB1 0 rfl rfl rfl rfl <| r_nn <| r_block <| r_seq <| r_sr <| r_ev rfl rfl <| r_ev rfl rfl <| r_nn ?_
   refine r_dec 10 rfl (fun h => absurd h (by omega)) (fun _ => ?_)
   refine r_cond_false rfl <| r_region <| r_ev rfl rfl <| r_ev rfl rfl <| r_nn ?_
   refine r_dec 10 rfl (fun h => absurd h (by omega)) (fun _ => ?_)
   refine r_cond_false rfl <| r_sr <| r_ev rfl rfl <| r_ev rfl rfl <| r_nn ?_
   refine r_dec 15 rfl (fun h => absurd h (by omega)) (fun _ => ?_)
   refine r_cond_false rfl <| r_sr <| r_ev rfl rfl <| r_ev rfl rfl <| r_nn ?_
   refine r_dec 20 rfl (fun h => absurd h (by omega)) (fun _ => ?_)
   refine r_cond_false rfl <| r_sr <| r_ev rfl rfl <| r_ev rfl rfl <| r_nn ?_
   refine r_dec 22 rfl (fun h => absurd h (by omega)) (fun _ => ?_)
   refine r_cond_false rfl <| r_sr <| r_ev rfl rfl <| r_ev rfl rfl <| r_nn ?_
   refine r_dec 34 rfl (fun _ => ?_) (fun h => absurd hk5 h)
   refine r_cond_true rfl ?_
   refine r_cutG (ι := Nat × Nat) (fun p => [(3, ptr p.1 0), (4, ptr p.2 0)]) (fun _ => g)
    (fun p => [.blk p.2 51 [.int .i64 a.kind, .int .i64 a.pos, str a.name, .int .i64 a.num, .slice e1 e2 e3, .slice e4 e5 e6, .int .i64 a.ty.kind, str a.ty.name, .int .i64 a.ty.id, .int .i64 a.ty.home, .slice e7 e8 e9], .blk p.1 51 [.int .i64 f.kind, .int .i64 f.pos, str f.name, .int .i64 f.num, .slice f1 f2 f3, .slice f4 f5 f6, .int .i64 f.ty.kind, str f.ty.name, .int .i64 f.ty.id, .int .i64 f.ty.home, .slice f7 f8 f9]]) (fun _ => True) ?_ ?_
   ·rintro ⟨b3, b4⟩ -
    show Run E _ [(3, ptr b3 0), (4, ptr b4 0)] g [.blk b4 51 [.int .i64 a.kind, .int .i64 a.pos, str a.name, .int .i64 a.num, .slice e1 e2 e3, .slice e4 e5 e6, .int .i64 a.ty.kind, str a.ty.name, .int .i64 a.ty.id, .int .i64 a.ty.home, .slice e7 e8 e9], .blk b3 51 [.int .i64 f.kind, .int .i64 f.pos, str f.name, .int .i64 f.num, .slice f1 f2 f3, .slice f4 f5 f6, .int .i64 f.ty.kind, str f.ty.name, .int .i64 f.ty.id, .int .i64 f.ty.home, .slice f7 f8 f9]] _
    have key : ∀ p : Bool, p = funK f.kind → Pure Tryz.prog 70 [.agg #[.int .i64 f.kind, .int .i64 f.pos, str f.name, .int .i64 f.num, .slice f1 f2 f3, .slice f4 f5 f6, .int .i64 f.ty.kind, str f.ty.name, .int .i64 f.ty.id, .int .i64 f.ty.home, .slice f7 f8 f9], .bool p] g (str (funS f)) := fun p hp => by
     have := closed8_of g f _ p (by omega) hVf ihf
     subst hp
     exact this
    cases hk : atomK f.kind with
    | true =>
     rw [hk] at atf
     have kc := key true (by simp [funK, hk])
     refine r_seq ?_
     refine r_qregion mixed (by kernel_rfl) ?_
     refine q_v rfl (val_loadB 1 rfl rfl (by rfl)) ?_; refine q_v rfl (val_loadB 1 rfl rfl (by rfl)) ?_
     refine q_callP rfl rfl atf ?_
     refine q_ev rfl rfl <| q_pass rfl rfl rfl <| q_pass rfl rfl rfl <| q_pass rfl rfl rfl <| q_ev rfl rfl ?_
     refine q_callP rfl rfl kc ?_
     refine q_v rfl (val_add_str rfl rfl (by simp; omega)) ?_
     refine q_v rfl (val_loadB 0 rfl rfl (by rfl)) ?_; refine q_v rfl (val_loadB 0 rfl rfl (by rfl)) ?_
     refine q_callP rfl rfl ata ?_
     refine q_callP rfl rfl (closed8_of g a _ _ (by omega) hVa iha) ?_
     refine q_v rfl (val_add_str rfl rfl (by have : (if atomK a.kind = true then showE a else Go.Th.paren (showE a)).length = (argS a).length := rfl
                                             simp only [List.length_append, List.length_cons, List.length_nil]; omega)) ?_
     refine q_ev rfl rfl <| q_end <| r_then_normal <| r_retc <| r_in_ret <| r_then_ret ?_
     exact r_ret1 [] rfl rfl (by simp) ⟨by simp [argS], rfl, rfl⟩
    | false =>
     rw [hk] at atf
     have kc := key (decide (f.kind = 5)) (by simp [funK, hk])
     refine r_seq ?_
     refine r_qregion mixed (by kernel_rfl) ?_
     refine q_v rfl (val_loadB 1 rfl rfl (by rfl)) ?_; refine q_v rfl (val_loadB 1 rfl rfl (by rfl)) ?_
     refine q_callP rfl rfl atf ?_
     refine q_ev rfl rfl <| q_take rfl <| q_v rfl (val_fieldAddr rfl) ?_; refine q_take rfl <| q_v rfl (val_loadB1 1 rfl rfl rfl) ?_; refine q_tev rfl rfl rfl <| q_ev rfl rfl ?_
     refine q_callP rfl rfl kc ?_
     refine q_v rfl (val_add_str rfl rfl (by simp; omega)) ?_
     refine q_v rfl (val_loadB 0 rfl rfl (by rfl)) ?_; refine q_v rfl (val_loadB 0 rfl rfl (by rfl)) ?_
     refine q_callP rfl rfl ata ?_
     refine q_callP rfl rfl (closed8_of g a _ _ (by omega) hVa iha) ?_
     refine q_v rfl (val_add_str rfl rfl (by have : (if atomK a.kind = true then showE a else Go.Th.paren (showE a)).length = (argS a).length := rfl
                                             simp only [List.length_append, List.length_cons, List.length_nil]; omega)) ?_
     refine q_ev rfl rfl <| q_end <| r_then_normal <| r_retc <| r_in_ret <| r_then_ret ?_
     exact r_ret1 [] rfl rfl (by simp) ⟨by simp [argS], rfl, rfl⟩
   ·intro K hK
    refine h_beginE [] mixed (fun hG => ?_)
    refine h_takeXA 0 rfl (by kernel_rfl) rfl hG ?_; refine ⟨_, (val_fieldAddr rfl), ?_⟩; refine h_takeXA 1 rfl (by kernel_rfl) rfl hG ?_; refine ⟨_, (val_loadB1 0 rfl rfl rfl), ?_⟩
    refine h_takeXA 2 rfl (by kernel_rfl) rfl hG ⟨_, (val_indexAddr (j := 0) rfl rfl rfl (by omega)), ?_⟩
    refine h_takeXA 3 rfl (by kernel_rfl) rfl hG ⟨_, (val_load rfl (hrf _) rfl), ?_⟩
    refine h_takeXA 4 rfl (by kernel_rfl) rfl hG ?_; refine ⟨_, (val_fieldAddr rfl), ?_⟩; refine h_takeXA 5 rfl (by kernel_rfl) rfl hG ?_; refine ⟨_, (val_loadB1 0 rfl rfl rfl), ?_⟩
    refine h_takeXA 6 rfl (by kernel_rfl) rfl hG ⟨_, (val_indexAddr (j := 1) rfl rfl rfl (by omega)), ?_⟩
    refine h_takeXA 7 rfl (by kernel_rfl) rfl hG ⟨_, (val_load rfl (hra _) rfl), ?_⟩
    refine h_two 8 9 (by kernel_rfl) rfl rfl ?_ ?_
    ·refine r_alloc rfl (fun b3 => ?_)
     refine r_nn ?_
     refine h_keptA hG ?_
     refine h_one 9 (by kernel_rfl) rfl ?_
     refine r_alloc rfl (fun b4 => ?_)
     refine r_nn ?_
     refine h_keptA hG ?_
     refine h_one 10 (by kernel_rfl) rfl ?_
     refine r_storeA 1 rfl rfl rfl rfl (by rfl) (by repeat' (first | exact rfl | assumption | refine all_cons ?_ ?_)) rfl ?_; refine r_nn ?_
     refine h_keptA hG ?_
     refine h_one 11 (by kernel_rfl) rfl ?_
     refine r_storeA 0 rfl rfl rfl rfl (by rfl) (by repeat' (first | exact rfl | assumption | refine all_cons ?_ ?_)) rfl ?_; refine r_nn ?_
     refine h_keptA hG ?_
     refine h_done (by kernel_rfl) ?_
     refine r_then_normal ?_
     refine r_drop (own' := [_, _]) (.cons_cons _ (.cons_cons _ (.cons _ (List.Sublist.refl _)))) ?_
     exact hK (b3, b4) _ trivial ⟨rfl, rfl, trivial⟩
    ·refine r_alloc rfl (fun b4 => ?_)
     refine r_nn ?_
     refine h_keptA hG ?_
     refine h_one 8 (by kernel_rfl) rfl ?_
     refine r_alloc rfl (fun b3 => ?_)
     refine r_nn ?_
     refine h_keptA hG ?_
     refine h_one 10 (by kernel_rfl) rfl ?_
     refine r_storeA 0 rfl rfl rfl rfl (by rfl) (by repeat' (first | exact rfl | assumption | refine all_cons ?_ ?_)) rfl ?_; refine r_nn ?_
     refine h_keptA hG ?_
     refine h_one 11 (by kernel_rfl) rfl ?_
     refine r_storeA 1 rfl rfl rfl rfl (by rfl) (by repeat' (first | exact rfl | assumption | refine all_cons ?_ ?_)) rfl ?_; refine r_nn ?_
     refine h_keptA hG ?_
     refine h_done (by kernel_rfl) ?_
     refine r_then_normal ?_
     refine r_perm (List.Perm.swap _ _ _) ?_
     refine r_drop (own' := [_, _]) (.cons_cons _ (.cons_cons _ (.cons _ (List.Sublist.refl _)))) ?_
     exact hK (b3, b4) _ trivial ⟨rfl, rfl, trivial⟩
  | bind k p n a b hk hn ha hb =>
   replace h1 : SlAt g 11 (.slice a1 2 c1) 2 xk := h1
   replace h2 : ExsAt g [a, b] xk := h2
   obtain ⟨b0, off, cap, hsl, hx⟩ := h1.held (show 0 < 2 by omega)
   cases hsl
   obtain ⟨ca, ka, hra⟩ := exs_rdA h2 hx (i := 0) (by simp)
   obtain ⟨cb, kb, hrb⟩ := exs_rdA h2 hx (i := 1) (by simp)
   replace ka : ExAt g a ca := ka
   replace kb : ExAt g b cb := kb
   have hsa : sizeE a < N := by simp [kidsE, sizeE, sizeEs] at h; omega
   have hsb : sizeE b < N := by simp [kidsE, sizeE, sizeEs] at h; omega
   have e3 : letB.length = 3 ∧ recB.length = 3 ∧ inB.length = 2 := by decide
   rcases hk with rfl | rfl
   ·rw [showE_let] at hl ⊢
    simp only [List.length_append, List.length_cons, List.length_nil] at hl
    show Pure Tryz.prog 26 [.agg #[.int .i64 6, .int .i64 p, str n, .int .i64 0, .slice (some ⟨b0, off, none⟩) 2 c1, .slice a2 0 c2, .int .i64 0, str [], .int .i64 0, .int .i64 0, .slice a3 m3 c3]] g _
    refine spec_of_run Tryz.func26 rfl Tryz.ntmps26 rfl fun E hE => ?_
    refine r_sr ?_
    refine r_box rfl rfl rfl (fun b1 => ?_)
    refine r_ev rfl rfl <| r_nn <| r_seq <| r_sr <| r_fieldAddr rfl rfl <| r_loadB1 0 rfl rfl rfl rfl <| r_nn <| r_block <| r_seq <| r_sr <| r_ev rfl rfl <| r_ev rfl rfl <| r_nn <| r_cond_false rfl ?_; refine r_region <| r_ev rfl rfl <| r_ev rfl rfl <| r_nn <| r_cond_false rfl <| r_sr <| r_ev rfl rfl <| r_ev rfl rfl <| r_nn <| r_cond_false rfl <| r_sr <| r_ev rfl rfl <| r_ev rfl rfl <| r_nn ?_; refine r_cond_false rfl <| r_sr <| r_ev rfl rfl <| r_ev rfl rfl <| r_nn <| r_cond_false rfl <| r_sr <| r_ev rfl rfl <| r_ev rfl rfl <| r_nn <| r_cond_false rfl <| r_sr <| r_ev rfl rfl <| r_ev rfl rfl ?_; refine r_nn <| r_cond_true rfl <| r_seq ?_
    refine r_qregion mixed (by kernel_rfl) ?_
    refine q_v rfl (val_fieldAddr rfl) ?_; refine q_v rfl (val_loadB1 0 rfl rfl rfl) ?_
    refine q_v rfl (val_add_str rfl rfl (by simp; omega)) ?_
    refine q_v rfl (val_add_str rfl rfl (by simp; omega)) ?_
    refine q_v rfl (val_fieldAddr rfl) ?_; refine q_v rfl (val_loadB1 0 rfl rfl rfl) ?_; refine q_v rfl (val_indexAddr (j := 0) rfl rfl rfl (by omega)) ?_
    refine q_v rfl (val_load rfl (hra _) ka.one.1) ?_
    refine q_callP rfl rfl (ih a _ hsa ha (by omega) ⟨ca, rfl, ka⟩) ?_
    refine q_v rfl (val_add_str rfl rfl (by simp; omega)) ?_
    refine q_v rfl (val_add_str rfl rfl (by simp; omega)) ?_
    refine q_v rfl (val_fieldAddr rfl) ?_; refine q_v rfl (val_loadB1 0 rfl rfl rfl) ?_
    refine q_v rfl (val_indexAddr (j := 1) rfl rfl rfl (by omega)) ?_
    refine q_v rfl (val_load rfl (hrb _) kb.one.1) ?_
    refine q_callP rfl rfl (ih b _ hsb hb (by omega) ⟨cb, rfl, kb⟩) ?_
    refine q_v rfl (val_add_str rfl rfl (by simp; omega)) ?_
    refine q_ev rfl rfl <| q_end <| r_then_normal <| r_retc <| r_in_ret <| r_then_ret ?_
    exact r_ret1 [] rfl rfl (by simp) ⟨by simp [letB, inB], rfl, rfl⟩
   ·rw [showE_rec] at hl ⊢
    simp only [List.length_append, List.length_cons, List.length_nil] at hl
    show Pure Tryz.prog 26 [.agg #[.int .i64 7, .int .i64 p, str n, .int .i64 0, .slice (some ⟨b0, off, none⟩) 2 c1, .slice a2 0 c2, .int .i64 0, str [], .int .i64 0, .int .i64 0, .slice a3 m3 c3]] g _
    refine spec_of_run Tryz.func26 rfl Tryz.ntmps26 rfl fun E hE => ?_
    refine r_sr ?_
    refine r_box rfl rfl rfl (fun b1 => ?_)
    refine r_ev rfl rfl <| r_nn <| r_seq <| r_sr <| r_fieldAddr rfl rfl <| r_loadB1 0 rfl rfl rfl rfl <| r_nn <| r_block <| r_seq <| r_sr <| r_ev rfl rfl <| r_ev rfl rfl <| r_nn <| r_cond_false rfl ?_; refine r_region <| r_ev rfl rfl <| r_ev rfl rfl <| r_nn <| r_cond_false rfl <| r_sr <| r_ev rfl rfl <| r_ev rfl rfl <| r_nn <| r_cond_false rfl <| r_sr <| r_ev rfl rfl <| r_ev rfl rfl <| r_nn ?_; refine r_cond_false rfl <| r_sr <| r_ev rfl rfl <| r_ev rfl rfl <| r_nn <| r_cond_false rfl <| r_sr <| r_ev rfl rfl <| r_ev rfl rfl <| r_nn <| r_cond_false rfl <| r_sr <| r_ev rfl rfl <| r_ev rfl rfl ?_; refine r_nn <| r_cond_false rfl <| r_sr <| r_ev rfl rfl <| r_ev rfl rfl <| r_nn <| r_cond_true rfl <| r_seq ?_
    refine r_qregion mixed (by kernel_rfl) ?_
    refine q_v rfl (val_fieldAddr rfl) ?_; refine q_v rfl (val_loadB1 0 rfl rfl rfl) ?_
    refine q_v rfl (val_add_str rfl rfl (by simp; omega)) ?_
    refine q_v rfl (val_add_str rfl rfl (by simp; omega)) ?_
    refine q_v rfl (val_fieldAddr rfl) ?_; refine q_v rfl (val_loadB1 0 rfl rfl rfl) ?_; refine q_v rfl (val_indexAddr (j := 0) rfl rfl rfl (by omega)) ?_
    refine q_v rfl (val_load rfl (hra _) ka.one.1) ?_
    refine q_callP rfl rfl (ih a _ hsa ha (by omega) ⟨ca, rfl, ka⟩) ?_
    refine q_v rfl (val_add_str rfl rfl (by simp; omega)) ?_
    refine q_v rfl (val_add_str rfl rfl (by simp; omega)) ?_
    refine q_v rfl (val_fieldAddr rfl) ?_; refine q_v rfl (val_loadB1 0 rfl rfl rfl) ?_
    refine q_v rfl (val_indexAddr (j := 1) rfl rfl rfl (by omega)) ?_
    refine q_v rfl (val_load rfl (hrb _) kb.one.1) ?_
    refine q_callP rfl rfl (ih b _ hsb hb (by omega) ⟨cb, rfl, kb⟩) ?_
    refine q_v rfl (val_add_str rfl rfl (by simp; omega)) ?_
    refine q_ev rfl rfl <| q_end <| r_then_normal <| r_retc <| r_in_ret <| r_then_ret ?_
    exact r_ret1 [] rfl rfl (by simp) ⟨by simp [letB, recB, inB], rfl, rfl⟩
  | ann p x t hx0 ht =>
   replace h1 : SlAt g 11 (.slice a1 1 c1) 1 xk := h1
   replace h2 : ExsAt g [x] xk := h2
   replace h5 : TyAt g t (tyCells t (.slice a3 m3 c3)) := h5
   obtain ⟨b0, off, cap, hsl, hx⟩ := h1.held (show 0 < 1 by omega)
   cases hsl
   obtain ⟨c, k1, hr⟩ := exs_rdA h2 hx (i := 0) (by simp)
   replace k1 : ExAt g x c := k1
   have hsz : sizeE x < N := by simp [annE, sizeE, sizeEs] at h; omega
   rw [showE_ann] at hl ⊢
   simp only [List.length_append, List.length_cons, List.length_nil] at hl
   show Pure Tryz.prog 26 [.agg #[.int .i64 9, .int .i64 p, str [], .int .i64 0, .slice (some ⟨b0, off, none⟩) 1 c1, .slice a2 0 c2, .int .i64 t.kind, str t.name, .int .i64 t.id, .int .i64 t.home, .slice a3 m3 c3]] g _
   refine spec_of_run Tryz.func26 rfl Tryz.ntmps26 rfl fun E hE => ?_
   refine r_sr ?_
   refine r_box rfl rfl rfl (fun b1 => ?_)
   refine r_ev rfl rfl <| r_nn <| r_seq <| r_sr <| r_fieldAddr rfl rfl <| r_loadB1 0 rfl rfl rfl rfl <| r_nn <| r_block <| r_seq <| r_sr <| r_ev rfl rfl <| r_ev rfl rfl <| r_nn <| r_cond_false rfl ?_; refine r_region <| r_ev rfl rfl <| r_ev rfl rfl <| r_nn <| r_cond_false rfl <| r_sr <| r_ev rfl rfl <| r_ev rfl rfl <| r_nn <| r_cond_false rfl <| r_sr <| r_ev rfl rfl <| r_ev rfl rfl <| r_nn ?_; refine r_cond_false rfl <| r_sr <| r_ev rfl rfl <| r_ev rfl rfl <| r_nn <| r_cond_false rfl <| r_sr <| r_ev rfl rfl <| r_ev rfl rfl <| r_nn <| r_cond_false rfl <| r_sr <| r_ev rfl rfl <| r_ev rfl rfl ?_; refine r_nn <| r_cond_false rfl <| r_sr <| r_ev rfl rfl <| r_ev rfl rfl <| r_nn <| r_cond_false rfl <| r_sr <| r_ev rfl rfl <| r_ev rfl rfl <| r_nn <| r_cond_true rfl <| r_seq ?_
   refine r_qregion mixed (by kernel_rfl) ?_
   refine q_v rfl (val_fieldAddr rfl) ?_; refine q_v rfl (val_loadB1 0 rfl rfl rfl) ?_; refine q_v rfl (val_indexAddr (j := 0) rfl rfl rfl (by omega)) ?_
   refine q_v rfl (val_load rfl (hr _) k1.one.1) ?_
   refine q_callP rfl rfl (ih x _ hsz hx0 (by omega) ⟨c, rfl, k1⟩) ?_
   refine q_v rfl (val_add_str rfl rfl (by simp; omega)) ?_
   refine q_v rfl (val_add_str rfl rfl (by simp; omega)) ?_
   refine q_v rfl (val_fieldAddr rfl) ?_; refine q_v rfl (val_loadB 0 rfl rfl (by rfl)) ?_
   refine q_callP rfl rfl (Type8_spec g t _ ht (by omega) ⟨_, rfl, h5⟩) ?_
   refine q_v rfl (val_add_str rfl rfl (by simp; omega)) ?_
   refine q_v rfl (val_add_str rfl rfl (by simp; omega)) ?_
   refine q_ev rfl rfl <| q_end <| r_then_normal <| r_retc <| r_in_ret <| r_then_ret ?_
   exact r_ret1 [] rfl rfl (by simp) ⟨by simp, rfl, rfl⟩
  | held p x hx0 =>
   replace h1 : SlAt g 11 (.slice a1 1 c1) 1 xk := h1
   replace h2 : ExsAt g [x] xk := h2
   obtain ⟨b0, off, cap, hsl, hx⟩ := h1.held (show 0 < 1 by omega)
   cases hsl
   obtain ⟨c, k1, hr⟩ := exs_rdA h2 hx (i := 0) (by simp)
   replace k1 : ExAt g x c := k1
   have hsz : sizeE x < N := by simp [kidsE, sizeE, sizeEs] at h; omega
   rw [showE_held] at hl ⊢
   simp only [List.length_append, List.length_cons, List.length_nil] at hl
   show Pure Tryz.prog 26 [.agg #[.int .i64 11, .int .i64 p, str [], .int .i64 0, .slice (some ⟨b0, off, none⟩) 1 c1, .slice a2 0 c2, .int .i64 0, str [], .int .i64 0, .int .i64 0, .slice a3 m3 c3]] g _
   refine spec_of_run Tryz.func26 rfl Tryz.ntmps26 rfl fun E hE => ?_
   refine r_sr ?_
   refine r_box rfl rfl rfl (fun b1 => ?_)
   refine r_ev rfl rfl <| r_nn <| r_seq <| r_sr <| r_fieldAddr rfl rfl <| r_loadB1 0 rfl rfl rfl rfl <| r_nn <| r_block <| r_seq <| r_sr <| r_ev rfl rfl <| r_ev rfl rfl <| r_nn <| r_cond_false rfl ?_; refine r_region <| r_ev rfl rfl <| r_ev rfl rfl <| r_nn <| r_cond_false rfl <| r_sr <| r_ev rfl rfl <| r_ev rfl rfl <| r_nn <| r_cond_false rfl <| r_sr <| r_ev rfl rfl <| r_ev rfl rfl <| r_nn ?_; refine r_cond_false rfl <| r_sr <| r_ev rfl rfl <| r_ev rfl rfl <| r_nn <| r_cond_false rfl <| r_sr <| r_ev rfl rfl <| r_ev rfl rfl <| r_nn <| r_cond_false rfl <| r_sr <| r_ev rfl rfl <| r_ev rfl rfl ?_; refine r_nn <| r_cond_false rfl <| r_sr <| r_ev rfl rfl <| r_ev rfl rfl <| r_nn <| r_cond_false rfl <| r_sr <| r_ev rfl rfl <| r_ev rfl rfl <| r_nn <| r_cond_false rfl <| r_sr <| r_ev rfl rfl ?_; refine r_ev rfl rfl <| r_nn <| r_cond_true rfl <| r_sr <| r_fieldAddr rfl rfl <| r_loadB1 0 rfl rfl rfl rfl <| r_indexAddr (j := 0) rfl rfl rfl rfl (by omega) ?_
   refine r_load rfl rfl (hr _) k1.one.1 ?_
   refine r_callP rfl rfl (ih x _ hsz hx0 (by omega) ⟨c, rfl, k1⟩) ?_
   refine r_add_str rfl rfl rfl (by simp; omega) ?_
   refine r_add_str rfl rfl rfl (by simp; omega) ?_
   refine r_ev rfl rfl <| r_nn <| r_retc <| r_in_ret <| r_then_ret ?_
   exact r_ret1 [] rfl rfl (by simp) ⟨by simp, rfl, rfl⟩
  | case p x aa hx0 hne hc ha => exact Expr8_case g N ih p x aa _ h hx0 ha hl hv
theorem Expr8_spec (g : Ghost) (e : Ex) (v : Value) (he : GoodE e) (hl : (showE e).length ≤ 100000) (hv : ExV g v e) : Pure Tryz.prog 26 [v] g (str (showE e)) := Expr8_aux g _ e v (Nat.lt_succ_self _) he hl hv
end Go.Proofs.YtpjehhnaojjanaaGreatDoor
-- sum 4bc22af792e81142


/- The walks of chapter 6's laws: mutated; ReadexprTexts. -/
namespace Go.Th
end Go.Th
namespace Go.Proofs.YtpjehhnaojjanaaGreatDoor
open Go Go.Eng Go.Th Go.Proofs
set_option maxRecDepth 10000
set_option maxHeartbeats 4000000
attribute [local irreducible] wpList Code.wp Run bodyPost Go.Eng.Ends Exit.then Exit.inBlock Again Wq Kq
theorem rwE_first {g2 : Ghost} {lc : List Int} {vc : Value} {ds : List Da} {dv : Value} (hs : SlAt g2 1 vc lc.length (ints lc)) (hc : lc.length ≤ 60) (hd : ∃ xd, SlAt g2 4 dv ds.length xd ∧ AllAt (DaAt g2) ds xd) (hn : ds.length ≤ 8) (hm : ∀ d ∈ ds, d ∈ allD) : RwE g2 lc vc ds dv :=
 ⟨hs, by omega, hd, hn, fun d h => ⟨allD_gd d (hm d h), allD_gc d (hm d h)⟩⟩
end Go.Proofs.YtpjehhnaojjanaaGreatDoor
-- sum 153cd9f60dc74edb

/- The walk of ReadprogramExpr. -/
namespace Go.Proofs.YtpjehhnaojjanaaGreatDoor
open Go Go.Eng Go.Th Go.Proofs
set_option maxRecDepth 10000
set_option maxHeartbeats 4000000
attribute [local irreducible] wpList Code.wp Run bodyPost Go.Eng.Ends Exit.then Exit.inBlock Again Wq Kq
theorem parseE_size (s : Bytes) : sizeE (resE (parseE s)) ≤ 1000000 := by
 unfold parseE
 cases hsc : scan s with
 | bad e p => simp [resE, noE, sizeE, sizeEs, sizeAs]
 | ok l =>
  have hb4 : l.length ≤ 4000 := by
   have := (toksOf_facts s).1
   rwa [show toksOf s = l by unfold toksOf; rw [hsc]] at this
  simp only []
  cases hq : eread l .expr 0 with
  | error p => simp [resE, noE, sizeE, sizeEs, sizeAs]
  | ok x =>
   obtain ⟨e, j⟩ := x
   have hsz := eread_size l _ .expr 0 e j (Nat.lt_succ_self _) hq
   have hbn := eread_bnd l _ .expr 0 e j (Nat.lt_succ_self _) (Nat.zero_le _) hq
   simp only [] at hbn ⊢
   split
   ·simp [resE, noE, sizeE, sizeEs, sizeAs]
   ·unfold exprO
    split
    ·simp [resE, noE, sizeE, sizeEs, sizeAs]
    ·split
     ·simp [resE, noE, sizeE, sizeEs, sizeAs]
     ·simp only [resE]
      omega
theorem nil_rwE {g : Ghost} {lc : List Int} {vc : Value} (hs : SlAt g 1 vc lc.length (ints lc)) (hc : lc.length ≤ 60) : RwE g lc vc [] (.slice none 0 0) :=
 ⟨hs, by omega, ⟨[], slNil g 4, rfl⟩, by simp, fun d h => by cases h⟩
theorem ReadprogramExpr_spec (g : Ghost) (hg : ErrT g) (s : Bytes) (hs0 : s.length ≤ 9223372036854775807) (bits : Int) (_hb : -9223372036854775808 ≤ bits ∧ bits ≤ 9223372036854775807) (vc : Value) (lc : List Int) (hsc : SlAt g 1 vc lc.length (ints lc)) (_hw : ∀ n ∈ lc, -9223372036854775808 ≤ n ∧ n ≤ 9223372036854775807)
  (v : Value) (l : List Int) (hsl : SlAt g 1 v l.length (ints l)) (_hw2 : ∀ n ∈ l, -9223372036854775808 ≤ n ∧ n ≤ 9223372036854775807) : Pure Tryz.prog 7 [str s, .int .i64 bits, vc, v] g (.bool true) := by
 have hle0 := hsl.le
 refine spec_of_run Tryz.func7 rfl Tryz.ntmps7 rfl fun E hE => ?_
 refine r_sr ?_
 refine r_ev rfl rfl <| r_nn <| r_seq <| r_sr ?_
 refine r_callN rfl rfl (first7_spec g hg) ?_
 rintro _ g1 rfl hle1
 have hg1 := hg.mono hle1
 have hsc1 := hsc.mono hle1
 have hsl1 := hsl.mono hle1
 obtain ⟨ca, cc, rfl⟩ := slForm2 hsc
 obtain ⟨la, lk, rfl⟩ := slForm2 hsl
 refine r_ev rfl rfl <| r_nn <| r_cond_false rfl <| r_skip <| r_then_normal <| r_seq <| r_sr <| r_ev rfl rfl <| r_len_str rfl rfl <| r_ev rfl rfl <| r_ev rfl rfl ?_
 refine r_gdec rfl rfl (fun h200 => ?_) (fun h200 => ?_)
 ·refine r_shrink hE hle1 ?_
  refine r_pass rfl rfl rfl <| r_pass rfl rfl rfl <| r_pass rfl rfl rfl <| r_ev rfl rfl <| r_ev rfl rfl <| r_pass rfl rfl rfl <| r_pass rfl rfl rfl <| r_pass rfl rfl rfl <| r_ev rfl rfl <| r_nn <| r_cond_true rfl <| r_sr <| r_ev rfl rfl <| r_nn ?_; refine r_retc <| r_then_ret ?_
  exact r_ret1 [] rfl rfl (by simp) ⟨rfl, rfl, rfl⟩
 refine r_tev rfl rfl rfl <| r_take rfl ?_
 refine r_callP rfl rfl (Few_spec g1 _ lc hsc1) ?_
 refine r_tev rfl rfl rfl <| r_ev rfl rfl <| r_ev rfl rfl ?_
 refine r_gbool rfl rfl (fun h60 => ?_) (fun h60 => ?_)
 ·refine r_shrink hE hle1 ?_
  refine r_pass rfl rfl rfl <| r_pass rfl rfl rfl <| r_pass rfl rfl rfl <| r_ev rfl rfl <| r_nn <| r_cond_true rfl <| r_sr <| r_ev rfl rfl <| r_nn <| r_retc <| r_then_ret ?_
  exact r_ret1 [] rfl rfl (by simp) ⟨rfl, rfl, rfl⟩
 have hlc : lc.length ≤ 60 := by simp at h60; omega
 refine r_tev rfl rfl rfl <| r_take rfl <| r_len_sl rfl rfl <| r_tev rfl rfl rfl <| r_ev rfl rfl <| r_nn ?_
 refine r_cond rfl (fun h30 => ?_) (fun h30 => ?_)
 ·refine r_shrink hE hle1 ?_
  refine r_sr <| r_ev rfl rfl <| r_nn <| r_retc <| r_then_ret ?_
  exact r_ret1 [] rfl rfl (by simp) ⟨rfl, rfl, rfl⟩
 refine r_skip <| r_then_normal <| r_sr <| r_ev rfl rfl <| r_build rfl rfl (by rfl) ?_
 refine r_box rfl rfl rfl (fun b37 => ?_)
 refine r_ev rfl rfl <| r_nn <| r_seq <| r_sr <| r_ev rfl rfl <| r_ev rfl rfl ?_
 refine r_callP rfl rfl (words7_spec g1 _ l (by omega) hsl1) ?_
 have hwl := words7_len l
 refine r_ev rfl rfl <| r_ev rfl rfl ?_
 refine r_callN rfl rfl (Datas_spec g1 bits) ?_
 rintro dv g2 ⟨ds, xd, hd1, hd2, hdn, hdm⟩ hle2
 obtain ⟨da, dc, rfl⟩ := slForm2 hd1
 have hE2 : RwE g2 lc (.slice ca lc.length cc) ds (.slice da ds.length dc) := rwE_first (hsc1.mono hle2) hlc ⟨xd, hd1, hd2⟩ hdn hdm
 refine r_callL 0 rfl rfl rfl (TRaw_spec lc b37 3 (by omega) g2 0 _ ds _ hE2 (Nat.zero_le _)) ?_
 rintro w g3 r' ⟨x, i3, hx, gx, lx, rfl, hi3⟩ hle3
 have hlx : (showE x).length ≤ 2125 := Nat.le_trans lx (by decide)
 obtain ⟨a1, a2, a3, a4, a5, a6, a7, a8, a9, rfl, hxt⟩ := hx.form
 skip
 refine r_callP rfl rfl (Expr8_spec g3 x _ gx (by omega) ⟨_, rfl, hxt⟩) ?_
 generalize showE x = s1 at hlx
 refine r_ev rfl rfl <| r_ev rfl rfl ?_
 refine r_callN rfl rfl (Datas_spec g3 bits) ?_
 rintro dv2 g4 ⟨ds2, xd2, hd21, hd22, hdn2, hdm2⟩ hle4
 obtain ⟨da2, dc2, rfl⟩ := slForm2 hd21
 refine r_callN rfl rfl (Named_spec g4) ?_
 rintro fv g5 ⟨xl, hf1, hf2⟩ hle5
 obtain ⟨fa, fc, rfl⟩ := slForm2 hf1
 have hsc5 := (((hsc1.mono hle2).mono hle3).mono hle4).mono hle5
 have hE5 : TpE g5 lc (.slice ca lc.length cc) ds2 (.slice da2 ds2.length dc2) abc (.slice fa 3 fc) := tpE_first hsc5 hlc ⟨xd2, hd21.mono hle5, das_mono hle5 hd22⟩ hdn2 hdm2 ⟨xl, hf1, hf2⟩
 refine r_callL 0 rfl rfl rfl (TType_spec lc b37 3 (by omega) g5 i3 _ ds2 _ abc _ hE5 hi3) ?_
 rintro w g6 r' ⟨t, i6, ht, gt, lt, rfl, hi6⟩ hle6
 have hlt : (showT t).length ≤ 200 := Nat.le_trans lt (by decide)
 obtain ⟨ya, ym, yc, rfl, hta⟩ := ht.cells5
 skip
 refine r_callP rfl rfl (Type8_spec g6 t _ gt (by omega) ⟨_, rfl, hta⟩) ?_
 generalize showT t = s2 at hlt
 refine r_ev rfl rfl ?_
 refine r_callL 0 rfl rfl rfl (TRaw_spec lc b37 1 (by omega) g6 i6 _ [] _ (nil_rwE (hsc5.mono hle6) hlc) hi6) ?_
 rintro w g7 r' ⟨y, i7, hy, gy, ly, rfl, hi7⟩ hle7
 have hly : (showE y).length ≤ 2125 := Nat.le_trans ly (by decide)
 obtain ⟨c1, c2, c3, c4, c5, c6, c7, c8, c9, rfl, hyt⟩ := hy.form
 have hle17 := Ghost.le_trans hle1 (Ghost.le_trans hle2 (Ghost.le_trans hle3 (Ghost.le_trans hle4 (Ghost.le_trans hle5 (Ghost.le_trans hle6 hle7)))))
 have hg7 := hg.mono hle17
 skip
 refine r_callP rfl rfl (Expr8_spec g7 y _ gy (by omega) ⟨_, rfl, hyt⟩) ?_
 generalize showE y = s3 at hly
 refine r_ev rfl rfl ?_
 refine r_add_str rfl rfl rfl (by first | omega | (simp; omega)) ?_
 skip
 refine r_buildSlice rfl rfl (by rfl) (by rfl) (by rfl) (by rfl) (by rfl) (fun b => ?_)
 refine r_len_sl rfl rfl <| r_ev rfl rfl <| r_nn <| r_block ?_
 refine r_drop (own' := [_]) (.cons_cons _ (.cons _ (List.Sublist.refl _))) ?_
 refine r_loop (ι := Nat × Ghost) (fun o => [(57, .slice (some ⟨b, 0, none⟩) 5 5), (58, .int .i64 5), (59, .int .i64 o.1)]) (fun o => o.2) (fun _ => [.row 9 1 (.slice (some ⟨b, 0, none⟩) 5 5) 5 [str s, str (words7 l), str s1, str s2, str (s3 ++ s)]]) (fun o => o.1 ≤ 5 ∧ Ghost.le g7 o.2) (fun o => 5 - o.1) (0, g7) ⟨by omega, Ghost.le_refl _⟩ ⟨rfl, rfl, rfl, trivial⟩ rfl rfl ?_
 rintro ⟨i, h0⟩ ⟨hi, hle⟩
 simp only at hi hle
 show Run E _ [(57, .slice (some ⟨b, 0, none⟩) 5 5), (58, .int .i64 5), (59, .int .i64 i)] h0 [.row 9 1 (.slice (some ⟨b, 0, none⟩) 5 5) 5 [str s, str (words7 l), str s1, str s2, str (s3 ++ s)]] _
 have hgh := hg7.mono hle
 refine r_sr <| r_ev rfl rfl <| r_nn <| r_seq ?_
 refine r_cond rfl (fun hlt5 => ?_) (fun hlt5 => ?_)
 ·have hlt' : i < 5 := by omega
  obtain ⟨z, hz, hzl⟩ : ∃ z, [str s, str (words7 l), str s1, str s2, str (s3 ++ s)][i]? = some (str z) ∧ z.length ≤ 2400 := by
   rcases i with _ | _ | _ | _ | _ | i
   ·exact ⟨_, rfl, by omega⟩
   ·exact ⟨_, rfl, by omega⟩
   ·exact ⟨_, rfl, by omega⟩
   ·exact ⟨_, rfl, by omega⟩
   ·exact ⟨_, rfl, by simp; omega⟩
   ·omega
  refine r_skip <| r_then_normal <| r_seq <| r_block <| r_sr <| r_indexAddr rfl rfl rfl rfl (by omega) ?_
  refine r_load1 rfl rfl (v := str z) (rd_row1 0 rfl (by rw [show 0 + i * 1 = i by omega]; exact hz)) ?_
  have hsm := parseE_size z
  obtain ⟨⟨fe, fp⟩, hF⟩ : ∃ x : Int × Int, resF (parseE z) = x := ⟨_, rfl⟩
  obtain ⟨⟨fe2, fp2⟩, hF2⟩ : ∃ x : Int × Int, resF (parseT z) = x := ⟨_, rfl⟩
  refine r_ev rfl rfl <| r_nn <| r_sr <| r_ev rfl rfl ?_
  refine r_callN rfl rfl (ParseExpr_spec h0 hgh z (by omega)) ?_
  unfold postEx
  rw [hF]
  rintro _ h1 ⟨pv, rfl, hV⟩ hk1
  obtain ⟨e1, e2, e3, e4, e5, e6, e7, e8, e9, rfl, hVt⟩ := hV.form
  unfold fltV
  refine r_ev rfl rfl <| r_ev rfl rfl <| r_ev rfl rfl ?_
  refine r_alloc rfl (fun b12 => ?_)
  skip
  refine r_alloc rfl (fun b13 => ?_)
  refine r_storeA 1 rfl rfl rfl rfl (by rfl) (by repeat' (first | exact rfl | assumption | refine all_cons ?_ ?_)) rfl ?_; refine r_storeA 0 rfl rfl rfl rfl (by rfl) (by repeat' (first | exact rfl | assumption | refine all_cons ?_ ?_)) rfl ?_; refine r_nn <| r_sr <| r_ev rfl rfl ?_
  refine r_callN rfl rfl (ParseExpr7_spec h1 z (by omega)) ?_
  unfold postEx
  rw [hF]
  rintro _ h2 ⟨pv, rfl, hW⟩ hk2
  obtain ⟨k1, k2, k3, k4, k5, k6, k7, k8, k9, rfl, hWt⟩ := hW.form
  unfold fltV
  refine r_ev rfl rfl <| r_ev rfl rfl <| r_ev rfl rfl ?_
  refine r_alloc rfl (fun b14 => ?_)
  skip
  refine r_alloc rfl (fun b15 => ?_)
  refine r_storeA 1 rfl rfl rfl rfl (by rfl) (by repeat' (first | exact rfl | assumption | refine all_cons ?_ ?_)) rfl ?_; refine r_storeA 0 rfl rfl rfl rfl (by rfl) (by repeat' (first | exact rfl | assumption | refine all_cons ?_ ?_)) rfl ?_; refine r_nn <| r_sr <| r_ev rfl rfl ?_
  refine r_callN rfl rfl (ParseType_spec h2 ((hgh.mono hk1).mono hk2) z (by omega)) ?_
  unfold postTy
  rw [hF2]
  rintro _ h3 ⟨pv, rfl, hT⟩ hk3
  obtain ⟨ta, tm, tc, rfl, hTt⟩ := hT.cells5
  unfold fltV
  refine r_ev rfl rfl <| r_ev rfl rfl <| r_ev rfl rfl ?_
  refine r_alloc rfl (fun b16 => ?_)
  skip
  refine r_alloc rfl (fun b17 => ?_)
  refine r_storeA 1 rfl rfl rfl rfl (by rfl) (by repeat' (first | exact rfl | assumption | refine all_cons ?_ ?_)) rfl ?_; refine r_storeA 0 rfl rfl rfl rfl (by rfl) (by repeat' (first | exact rfl | assumption | refine all_cons ?_ ?_)) rfl ?_; refine r_nn <| r_sr <| r_ev rfl rfl ?_
  refine r_callN rfl rfl (ParseType7_spec h3 z (by omega)) ?_
  unfold postTy
  rw [hF2]
  rintro _ h4 ⟨pv, rfl, hU⟩ hk4
  obtain ⟨ua, um, uc, rfl, hUt⟩ := hU.cells5
  unfold fltV
  refine r_ev rfl rfl <| r_ev rfl rfl <| r_ev rfl rfl ?_
  refine r_alloc rfl (fun b18 => ?_)
  skip
  refine r_alloc rfl (fun b19 => ?_)
  refine r_storeA 1 rfl rfl rfl rfl (by rfl) (by repeat' (first | exact rfl | assumption | refine all_cons ?_ ?_)) rfl ?_; refine r_storeA 0 rfl rfl rfl rfl (by rfl) (by repeat' (first | exact rfl | assumption | refine all_cons ?_ ?_)) rfl ?_; refine r_nn <| r_sr <| r_loadB 6 rfl rfl rfl (by rfl) ?_; refine r_loadB 4 rfl rfl rfl (by rfl) ?_
  refine r_v rfl (val_neq_pair rfl rfl) ?_
  refine r_ev rfl rfl ?_
  refine r_gdec rfl rfl (fun h => absurd h (by simp)) (fun _ => ?_)
  refine r_take rfl ?_
  refine r_loadB 7 rfl rfl rfl (by rfl) ?_
  refine r_take rfl <| r_loadB 5 rfl rfl rfl (by rfl) ?_; refine r_take rfl ?_
  refine r_callP rfl rfl (Equal4_spec h4 _ _ _ _ hsm hsm rfl ⟨_, rfl, ExAt.mono hk4 _ _ (ExAt.mono hk3 _ _ (ExAt.mono hk2 _ _ hVt))⟩ ⟨_, rfl, ExAt.mono hk4 _ _ (ExAt.mono hk3 _ _ hWt)⟩) ?_
  refine r_tev rfl rfl rfl <| r_ev rfl rfl <| r_ev rfl rfl <| r_take rfl <| r_fieldAddr rfl rfl <| r_take rfl ?_
  refine r_loadB1 7 rfl rfl rfl rfl ?_
  refine r_take rfl <| r_fieldAddr rfl rfl <| r_take rfl <| r_loadB1 5 rfl rfl rfl rfl <| r_tev rfl rfl rfl <| r_ev rfl rfl <| r_ev rfl rfl ?_
  refine r_gdec rfl rfl (fun h => absurd rfl h) (fun _ => ?_)
  refine r_take rfl <| r_loadB 2 rfl rfl rfl (by rfl) ?_; refine r_take rfl <| r_loadB 0 rfl rfl rfl (by rfl) ?_; refine r_take rfl ?_
  refine r_v rfl (val_neq_pair rfl rfl) ?_
  refine r_ev rfl rfl <| r_ev rfl rfl ?_
  refine r_gdec rfl rfl (fun h => absurd h (by simp)) (fun _ => ?_)
  refine r_take rfl <| r_loadB 3 rfl rfl rfl (by rfl) ?_; refine r_take rfl <| r_loadB 1 rfl rfl rfl (by rfl) ?_; refine r_take rfl ?_
  refine r_callP rfl rfl (Equal_spec h4 _ _ _ ⟨_, rfl, TyAt.mono hk4 _ _ hTt⟩ ⟨_, rfl, hUt⟩) ?_
  refine r_tev rfl rfl rfl <| r_ev rfl rfl <| r_nn <| r_cond_false rfl <| r_skip <| r_in_normal <| r_then_normal <| r_region <| r_add rfl rfl rfl (by omega) ?_; refine r_ev rfl rfl <| r_nn ?_
  refine r_drop (own' := [_]) (.cons _ (.cons _ (.cons _ (.cons _ (.cons _ (.cons _ (.cons _ (.cons _ (List.Sublist.refl _))))))))) ?_
  exact r_again (i + 1, h4) ⟨by omega, Ghost.le_trans hle (Ghost.le_trans hk1 (Ghost.le_trans hk2 (Ghost.le_trans hk3 hk4)))⟩ (by simp only; omega) ⟨rfl, rfl, rfl, trivial⟩ rfl rfl
 ·refine r_exit <| r_then_exit <| r_then_exit <| r_in_exit <| r_then_normal <| r_sr <| r_ev rfl rfl <| r_nn <| r_retc ?_
  refine r_shrink hE (Ghost.le_trans hle17 hle) ?_
  skip
  exact r_ret1 [] rfl rfl (by simp) ⟨rfl, rfl, rfl⟩
end Go.Proofs.YtpjehhnaojjanaaGreatDoor
-- sum edfcb43ca270f375

/- The library's variable errors.errorType: from the rows' condition to what the walks need, and a world that meets it. -/
namespace Go.Proofs.YtpjehhnaojjanaaGreatDoor
open Go Go.Eng Go.Proofs Go.RowKit
theorem eT_g : Tryz.prog.globalNamed "errors.errorType" = some 0 := by kernel_rfl
theorem eT_rt : (Tryz.prog.cutTypes.find? (·.1 == "internal/reflectlite.rtype")).map (·.2) = some 253 := by kernel_rfl
theorem eT_row : ((List.range Tryz.prog.types.size).filter fun t => Tryz.prog.rowNamed t [101, 114, 114, 111, 114]) = [153] := by kernel_rfl
theorem errT_of {W : World} {L : List (String × DataW Unit)} (h : laidMetH Tryz.prog L W) (hm : ("errors.errorType", Rows.laid_errors_errorType) ∈ L) : ErrT (worldGhost W) := by
 obtain ⟨name, u, ty, e1, e2, e3, e4, e5⟩ := (laidMetH_iff.1 h).2 _ (List.mem_filter.2 ⟨hm, rfl⟩)
 have en : name = [101, 114, 114, 111, 114] := (Option.some.inj e1).symm
 subst en
 obtain rfl := Option.some.inj (eT_rt.symm.trans e2)
 have hm : ty ∈ (List.range Tryz.prog.types.size).filter fun t => Tryz.prog.rowNamed t [101, 114, 114, 111, 114] := List.mem_filter.2 ⟨List.mem_range.2 e3, e4⟩
 rw [eT_row] at hm
 obtain rfl := List.mem_singleton.1 hm
 show W.cell? _ = _
 simpa using World.var?_cell eT_g e5 0
noncomputable def laidWorldH (os : Os) : World :=
 let w0 := World.holding Tryz.prog os ⟨#[], #[], []⟩
 { w0 with heap := w0.heap.modify 0 fun
   | .cells _ t frozen => .cells #[rty 153] t frozen
   | o => o }
noncomputable def laidWorldA (os : Os) (L : List (String × DataW Unit)) : World := (laidWorldH os).layVars Tryz.prog L
theorem laidWorldA_os (os : Os) (L : List (String × DataW Unit)) : (laidWorldA os L).os = os := World.layVars_os _ _ _
theorem laidMetA {os : Os} {L : List (String × DataW Unit)} (args : Array Value) (hf : (laidWorldH os).layFits Tryz.prog L [] = true) (hi : (laidWorldH os).layIfaces Tryz.prog L (laidWorldA os L) = true) :
  laidMet Tryz.prog L ((laidWorldA os L).forCall (fun _ _ => 0) ⟨#[], args, []⟩).memory := by
 have e1 : (L.filter fun x => (L.map (·.1)).contains x.1) = L := List.filter_eq_self.2 fun x hx => List.contains_iff_mem.2 (List.mem_map.2 ⟨x, hx, rfl⟩)
 have e2 : (L.filter fun x => !(L.map (·.1)).contains x.1) = [] := List.filter_eq_nil_iff.2 fun x hx => by rw [List.contains_iff_mem.2 (List.mem_map.2 ⟨x, hx, rfl⟩)]; simp
 have h : laidMet Tryz.prog L (laidWorldA os L) := laidMet_layVars (w0 := laidWorldH os) (L.map (·.1)) [] (by rw [e1]; rfl) (by rw [e1]; exact hf) (by rw [e1]; exact hi) (by rw [e2]; exact LaidIn.none)
 exact h.of_heap (by simp [World.memory, World.forCall, Input.heap])
end Go.Proofs.YtpjehhnaojjanaaGreatDoor
-- sum 15bbee09bf3712fc


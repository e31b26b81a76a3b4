/- How deep a type is: the walk of typedholesref3.Depth. -/
import Derived.Test.YtblbbjhbigpgnaaDoorTypC
import Derived.Test.YtblbbjhbigpgnaaDoorTypG
import Derived.Test.YtblbbjhbigpgnaaDoorK3
import Derived.Test.YtblbbjhbigpgnaaDoorOpsJ
import Derived.Test.YtblbbjhbigpgnaaDoorRefD
import Derived.Test.YtblbbjhbigpgnaaDoorPlainD
namespace Go.Th
mutual
def depthT : Ty → Nat
  | .mk _ _ _ _ ta => depthTs ta
def depthTs : List Ty → Nat
  | [] => 0
  | a :: r => max (1 + depthT a) (depthTs r)
end
theorem depthTs_app : ∀ (x y : List Ty), depthTs (x ++ y) = max (depthTs x) (depthTs y)
  | [], y => by simp [depthTs]
  | a :: x, y => by simp only [List.cons_append, depthTs, depthTs_app x y]; omega
theorem depthT_eq (t : Ty) : depthT t = depthTs t.args := by cases t; simp only [depthT, Ty.args]
theorem depthTs_mem : ∀ {l : List Ty} {a : Ty}, a ∈ l → 1 + depthT a ≤ depthTs l
  | b :: r, a, h => by
    simp only [depthTs]
    rcases List.mem_cons.1 h with rfl | h
    · omega
    · have := depthTs_mem h; omega
theorem depthTs_succ {l : List Ty} {i : Nat} (h : i < l.length) : depthTs (l.take (i + 1)) = max (depthTs (l.take i)) (1 + depthT l[i]) := by
  rw [List.take_succ_eq_append_getElem h, depthTs_app]
  simp [depthTs]
end Go.Th
namespace Go.Proofs.YtblbbjhbigpgnaaDoor
open Go Go.Eng Go.Th Go.Proofs
set_option maxRecDepth 10000
set_option maxHeartbeats 4000000
attribute [local irreducible] wpList Code.wp Run bodyPost Go.Eng.Ends Exit.then Exit.inBlock Again Wq Kq
theorem Depth3_aux (g : Ghost) : ∀ (N : Nat) (t : Ty) (v : Value), SizeOf.sizeOf t < N → depthT t ≤ 1000000 → TyV g v t → Pure Tryd.prog 80 [v] g (.int .i64 (depthT t))
  | 0, _, _, h, _, _ => by omega
  | N + 1, t, v, h, hd, hv => by
    have ih := Depth3_aux g N
    obtain ⟨sl, rfl, h1⟩ := hv
    obtain ⟨xs, hs1, ht1⟩ := h1.args
    obtain ⟨a, c, rfl⟩ := slForm2 hs1
    have hle := hs1.le
    rw [depthT_eq] at hd ⊢
    refine spec_of_run Tryd.func80 rfl Tryd.ntmps80 rfl fun E hE => ?_
    refine r_sr ?_
    refine r_box rfl rfl rfl (fun b1 => ?_)
    refine r_ev rfl rfl ?_; refine r_nn ?_; refine r_sr ?_; refine r_ev rfl rfl ?_; refine r_nn ?_; refine r_seq ?_; refine r_sr ?_; refine r_ev rfl rfl ?_; refine r_nn ?_; refine r_block ?_
    refine r_loop (ι := Nat) (fun i => [(1, ptr b1 0), (3, .int .i64 (depthTs (t.args.take i))), (4, .int .i64 i)]) (fun _ => g) (fun _ => [.blk b1 30 (tyCells t (.slice a t.args.length c))]) (fun i => i ≤ t.args.length) (fun i => t.args.length - i) 0 (Nat.zero_le _) ⟨rfl, rfl, rfl, trivial⟩ rfl rfl ?_
    intro i hi
    refine r_seq ?_; refine r_sr ?_; refine r_ev rfl rfl ?_; refine r_fieldAddr rfl rfl ?_; refine r_loadB1 0 rfl rfl rfl rfl ?_; refine r_len_sl rfl rfl ?_; refine r_ev rfl rfl ?_; refine r_nn ?_
    refine r_cond rfl (fun hlt => ?_) (fun hlt => ?_)
    · have hlt' : i < t.args.length := by omega
      obtain ⟨b, off, cap, hsl, hx⟩ := hs1.held hlt'
      cases hsl
      obtain ⟨sl', h2, hr⟩ := ht1.rd (own := [.blk b1 30 (tyCells t (.slice (some ⟨b, off, none⟩) t.args.length c))]) hx hlt'
      have hm := depthTs_mem (List.getElem_mem hlt')
      have hsz : SizeOf.sizeOf t.args[i] < N := by
        have := List.sizeOf_lt_of_mem (List.getElem_mem hlt')
        cases t with
        | mk k n i hh ta => simp only [Ty.args] at this ⊢; simp at h; omega
      have hsu := depthTs_succ hlt'
      have hdi : depthTs (t.args.take i) ≤ depthTs t.args := by
        have := depthTs_app (t.args.take i) (t.args.drop i)
        rw [List.take_append_drop] at this
        omega
      refine r_skip ?_; refine r_then_normal ?_; refine r_seq ?_; refine r_block ?_; refine r_region ?_; refine r_ev rfl rfl ?_; refine r_fieldAddr rfl rfl ?_; refine r_loadB1 0 rfl rfl rfl rfl ?_; refine r_ev rfl rfl ?_; refine r_indexAddr rfl rfl rfl rfl (by omega) ?_
      refine r_load rfl rfl hr rfl ?_
      refine r_callP rfl rfl (ih t.args[i] _ hsz (by omega) ⟨sl', rfl, h2⟩) ?_
      refine r_add rfl rfl rfl (by omega) ?_; refine r_max rfl rfl rfl ?_; refine r_ev rfl rfl ?_; refine r_nil ?_; refine r_in_normal ?_; refine r_then_normal ?_; refine r_region ?_; refine r_ev rfl rfl ?_; refine r_add rfl rfl rfl (by omega) ?_; refine r_ev rfl rfl ?_; refine r_nn ?_
      refine r_again (i + 1) (by omega) (by omega) ⟨rfl, ?_, rfl, trivial⟩ rfl rfl
      rw [hsu]
      show _ = some (Value.int .i64 ((max (depthTs (t.args.take i)) (1 + depthT t.args[i]) : Nat) : Int))
      refine lkInt rfl ?_
      omega
    · have hil : i = t.args.length := by omega
      subst hil
      refine r_exit ?_; refine r_then_exit ?_; refine r_then_exit ?_; refine r_in_exit ?_; refine r_then_normal ?_; refine r_sr ?_; refine r_ev rfl rfl ?_; refine r_ev rfl rfl ?_; refine r_nn ?_; refine r_retc ?_
      exact r_ret1 [] rfl rfl (by simp) ⟨by rw [List.take_length], rfl, rfl⟩
theorem Depth3_spec (g : Ghost) (t : Ty) (v : Value) (hd : depthT t ≤ 1000000) (hv : TyV g v t) : Pure Tryd.prog 80 [v] g (.int .i64 (depthT t)) := Depth3_aux g _ t v (Nat.lt_succ_self _) hd hv
end Go.Proofs.YtblbbjhbigpgnaaDoor
-- sum 9a79a47a94535d16
/- The walk of typedholesref7.Deep at a program of declarations within the limits. -/
namespace Go.Proofs.YtblbbjhbigpgnaaDoor
open Go Go.Eng Go.Th Go.Proofs
set_option maxRecDepth 10000
set_option maxHeartbeats 4000000
attribute [local irreducible] wpList Code.wp Run bodyPost Go.Eng.Ends Exit.then Exit.inBlock Again Wq Kq
def okC (c : Cn) : Prop := c.fields.length ≤ 4 ∧ ∀ t ∈ c.fields, depthT t ≤ 40
def okD (d : Da) : Prop := d.params.length ≤ 4 ∧ d.cons.length ≤ 6 ∧ ∀ c ∈ d.cons, okC c
theorem all_rd {α : Type} {R : α → List Value → Prop} {g : Ghost} {sz : Nat} (hR : ∀ a c, R a c → c.length = sz) {l : List α} {xs : List Value} {b off : Nat} (ht : AllAt R l xs) (hx : ∀ k x, xs[k]? = some x → g b (off + k) = some x) {i : Nat} (h : i < l.length) :
    ∃ c, R l[i] c ∧ ∀ own, Rd g own b (off + i * sz) c := by
  obtain ⟨c, h1, h2⟩ := AllAt.get hR ht i h
  exact ⟨c, h1, fun own => rd_g fun j x hj => by rw [Nat.add_assoc]; exact hx _ _ (h2 j x hj)⟩
theorem tys_rdA {g : Ghost} {ta : List Ty} {xs : List Value} {b off : Nat} (ht : TysAt g ta xs) (hx : ∀ k x, xs[k]? = some x → g b (off + k) = some x) {i : Nat} (h : i < ta.length) :
    ∃ sl, TyAt g ta[i] (tyCells ta[i] sl) ∧ ∀ own, Rd g own b (off + i * 5) (tyCells ta[i] sl) := by
  obtain ⟨c, h1, h2⟩ := ht.get i h
  obtain ⟨sl, rfl⟩ := h1.cells
  exact ⟨sl, h1, fun own => rd_g fun j x hj => by rw [Nat.add_assoc]; exact hx _ _ (h2 j x hj)⟩
theorem CnAt.form {g : Ghost} {c : Cn} {cs : List Value} (h : CnAt g c cs) : ∃ (a : Option Addr) (k : Nat) (xf : List Value), cs = [.int .i64 c.pos, str c.name, .slice a c.fields.length k] ∧ SlAt g 5 (.slice a c.fields.length k) c.fields.length xf ∧ TysAt g c.fields xf := by
  obtain ⟨sf, xf, rfl, h2, h3⟩ := h
  obtain ⟨a, k, rfl⟩ := slForm2 h2
  exact ⟨a, k, xf, rfl, h2, h3⟩
theorem Deep7_datas (g : Ghost) (p : Pg) (v : Value) (hv : PgV g v p) (hb : p.binds = []) (hn : p.datas.length ≤ 8) (hok : ∀ d ∈ p.datas, okD d) : Pure Tryd.prog 67 [v] g (.agg #[.int .i64 0, .int .i64 0]) := by
  obtain ⟨cs, rfl, sd, xd, sb, xb, rfl, h1, h2, h3, h4⟩ := hv
  rw [hb] at h3
  obtain ⟨da, dc, rfl⟩ := slForm2 h1
  obtain ⟨ba, bc, rfl⟩ := slForm2 h3
  refine spec_of_run Tryd.func67 rfl Tryd.ntmps67 rfl fun E hE => ?_
  refine r_sr ?_
  refine r_box rfl rfl rfl (fun b1 => ?_)
  refine r_alloc rfl (fun b2 => ?_)
  refine r_nn ?_; refine r_seq ?_; refine r_sr ?_; refine r_ev rfl rfl ?_; refine r_nn ?_; refine r_block ?_
  refine r_loop (ι := Nat) (fun i => [(1, ptr b1 0), (2, ptr b2 0), (3, .int .i64 i)]) (fun _ => g) (fun _ => [.blk b2 40 [.int .i64 0, .int .i64 0], .blk b1 83 [.slice da p.datas.length dc, .slice ba 0 bc]]) (fun i => i ≤ p.datas.length) (fun i => p.datas.length - i) 0 (Nat.zero_le _) ⟨rfl, rfl, rfl, trivial⟩ rfl rfl ?_
  intro i hi
  refine r_seq ?_; refine r_sr ?_; refine r_ev rfl rfl ?_; refine r_fieldAddr rfl rfl ?_; refine r_loadB1 1 rfl rfl rfl rfl ?_; refine r_len_sl rfl rfl ?_; refine r_ev rfl rfl ?_; refine r_nn ?_
  refine r_cond rfl (fun hlt => ?_) (fun hlt => ?_)
  · have hlt' : i < p.datas.length := by omega
    obtain ⟨o1, o2, o3⟩ := hok _ (List.getElem_mem hlt')
    obtain ⟨b, off, cap, hsl, hx⟩ := h1.held hlt'
    cases hsl
    obtain ⟨c, e1, hr⟩ := all_rd (fun _ _ h => h.one.1) h2 hx hlt'
    obtain ⟨a1, c1, a2, c2, xc, rfl, e2, e3, e4⟩ := e1.form
    refine r_skip ?_; refine r_then_normal ?_; refine r_seq ?_; refine r_block ?_; refine r_sr ?_; refine r_fieldAddr rfl rfl ?_; refine r_loadB1 1 rfl rfl rfl rfl ?_; refine r_ev rfl rfl ?_; refine r_indexAddr rfl rfl rfl rfl (by omega) ?_
    refine r_load rfl rfl (hr _) rfl ?_
    refine r_alloc rfl (fun b4 => ?_)
    refine r_storeA 0 rfl rfl rfl rfl (by rfl) (by repeat' (first | exact rfl | assumption | refine all_cons ?_ ?_)) rfl ?_; refine r_nn ?_; refine r_seq ?_; refine r_sr ?_; refine r_ev rfl rfl ?_; refine r_ev rfl rfl ?_; refine r_ev rfl rfl ?_
    refine r_gdec rfl rfl (fun h => absurd h (by omega)) (fun _ => ?_)
    refine r_take rfl ?_; refine r_fieldAddr rfl rfl ?_; refine r_take rfl ?_; refine r_loadB1 0 rfl rfl rfl rfl ?_; refine r_take rfl ?_; refine r_len_sl rfl rfl ?_; refine r_tev rfl rfl rfl ?_; refine r_ev rfl rfl ?_; refine r_ev rfl rfl ?_
    refine r_gdec rfl rfl (fun h => absurd h (by omega)) (fun _ => ?_)
    refine r_take rfl ?_; refine r_fieldAddr rfl rfl ?_; refine r_take rfl ?_; refine r_loadB1 0 rfl rfl rfl rfl ?_; refine r_take rfl ?_; refine r_len_sl rfl rfl ?_; refine r_tev rfl rfl rfl ?_; refine r_ev rfl rfl ?_; refine r_nn ?_
    refine r_cond rfl (fun h => absurd h (by omega)) (fun _ => ?_)
    refine r_skip ?_; refine r_then_normal ?_; refine r_sr ?_; refine r_ev rfl rfl ?_; refine r_nn ?_; refine r_block ?_
    refine r_loop (ι := Nat) (fun k => [(1, ptr b1 0), (2, ptr b2 0), (3, .int .i64 i), (4, ptr b4 0), (5, .int .i64 k)]) (fun _ => g) (fun _ => [.blk b4 62 [.int .i64 p.datas[i].pos, str p.datas[i].name, .slice a1 p.datas[i].params.length c1, .slice a2 p.datas[i].cons.length c2], .blk b2 40 [.int .i64 0, .int .i64 0], .blk b1 83 [.slice (some ⟨b, off, none⟩) p.datas.length dc, .slice ba 0 bc]]) (fun k => k ≤ p.datas[i].cons.length) (fun k => p.datas[i].cons.length - k) 0 (Nat.zero_le _) ⟨rfl, rfl, rfl, rfl, rfl, trivial⟩ rfl rfl ?_
    intro k hk
    refine r_seq ?_; refine r_sr ?_; refine r_ev rfl rfl ?_; refine r_fieldAddr rfl rfl ?_; refine r_loadB1 0 rfl rfl rfl rfl ?_; refine r_len_sl rfl rfl ?_; refine r_ev rfl rfl ?_; refine r_nn ?_
    refine r_cond rfl (fun hlt2 => ?_) (fun hlt2 => ?_)
    · have hlt2' : k < p.datas[i].cons.length := by omega
      obtain ⟨q1, q2⟩ := o3 _ (List.getElem_mem hlt2')
      obtain ⟨b', off', cap', hsl', hx'⟩ := e3.held hlt2'
      cases hsl'
      obtain ⟨cc, f1, hr'⟩ := all_rd (fun _ _ h => h.one.1) e4 hx' hlt2'
      obtain ⟨a3, c3, xf, rfl, f2, f3⟩ := f1.form
      refine r_skip ?_; refine r_then_normal ?_; refine r_seq ?_; refine r_block ?_; refine r_sr ?_; refine r_fieldAddr rfl rfl ?_; refine r_loadB1 0 rfl rfl rfl rfl ?_; refine r_ev rfl rfl ?_; refine r_indexAddr rfl rfl rfl rfl (by omega) ?_; refine r_fieldAddr rfl rfl ?_
      refine r_load1 rfl rfl ((hr' _).at1 2 rfl) ?_
      refine r_len_sl rfl rfl ?_; refine r_ev rfl rfl ?_; refine r_nn ?_
      refine r_cond rfl (fun h => absurd h (by omega)) (fun _ => ?_)
      refine r_skip ?_; refine r_in_normal ?_; refine r_then_normal ?_; refine r_region ?_; refine r_ev rfl rfl ?_; refine r_add rfl rfl rfl (by omega) ?_; refine r_ev rfl rfl ?_; refine r_nn ?_
      exact r_again (k + 1) (by omega) (by omega) ⟨rfl, rfl, rfl, rfl, rfl, trivial⟩ rfl rfl
    · refine r_exit ?_; refine r_then_exit ?_; refine r_then_exit ?_; refine r_in_exit ?_; refine r_in_normal ?_; refine r_then_normal ?_; refine r_region ?_; refine r_ev rfl rfl ?_; refine r_add rfl rfl rfl (by omega) ?_; refine r_ev rfl rfl ?_; refine r_nn ?_
      refine r_drop (own' := [_, _]) (.cons _ (List.Sublist.refl _)) ?_
      exact r_again (i + 1) (by omega) (by omega) ⟨rfl, rfl, rfl, trivial⟩ rfl rfl
  · refine r_exit ?_; refine r_then_exit ?_; refine r_then_exit ?_; refine r_in_exit ?_; refine r_then_normal ?_; refine r_seq ?_; refine r_sr ?_; refine r_fieldAddr rfl rfl ?_; refine r_loadB1 1 rfl rfl rfl rfl ?_; refine r_len_sl rfl rfl ?_; refine r_ev rfl rfl ?_; refine r_nn ?_; refine r_cond_false rfl ?_; refine r_skip ?_; refine r_then_normal ?_; refine r_seq ?_; refine r_sr ?_; refine r_ev rfl rfl ?_; refine r_nn ?_; refine r_block ?_
    refine r_loop (ι := Nat) (fun i => [(1, ptr b1 0), (2, ptr b2 0), (6, .int .i64 i)]) (fun _ => g) (fun _ => [.blk b2 40 [.int .i64 0, .int .i64 0], .blk b1 83 [.slice da p.datas.length dc, .slice ba 0 bc]]) (fun i => i ≤ p.datas.length) (fun i => p.datas.length - i) 0 (Nat.zero_le _) ⟨rfl, rfl, rfl, trivial⟩ rfl rfl ?_
    intro i hi
    refine r_seq ?_; refine r_sr ?_; refine r_ev rfl rfl ?_; refine r_fieldAddr rfl rfl ?_; refine r_loadB1 1 rfl rfl rfl rfl ?_; refine r_len_sl rfl rfl ?_; refine r_ev rfl rfl ?_; refine r_nn ?_
    refine r_cond rfl (fun hlt => ?_) (fun hlt => ?_)
    · have hlt' : i < p.datas.length := by omega
      obtain ⟨o1, o2, o3⟩ := hok _ (List.getElem_mem hlt')
      obtain ⟨b, off, cap, hsl, hx⟩ := h1.held hlt'
      cases hsl
      obtain ⟨c, e1, hr⟩ := all_rd (fun _ _ h => h.one.1) h2 hx hlt'
      obtain ⟨a1, c1, a2, c2, xc, rfl, e2, e3, e4⟩ := e1.form
      refine r_skip ?_; refine r_then_normal ?_; refine r_seq ?_; refine r_block ?_; refine r_sr ?_; refine r_fieldAddr rfl rfl ?_; refine r_loadB1 1 rfl rfl rfl rfl ?_; refine r_ev rfl rfl ?_; refine r_indexAddr rfl rfl rfl rfl (by omega) ?_
      refine r_load rfl rfl (hr _) rfl ?_
      refine r_alloc rfl (fun b7 => ?_)
      refine r_storeA 0 rfl rfl rfl rfl (by rfl) (by repeat' (first | exact rfl | assumption | refine all_cons ?_ ?_)) rfl ?_; refine r_nn ?_; refine r_sr ?_; refine r_ev rfl rfl ?_; refine r_nn ?_; refine r_block ?_
      refine r_loop (ι := Nat) (fun k => [(1, ptr b1 0), (2, ptr b2 0), (6, .int .i64 i), (7, ptr b7 0), (8, .int .i64 k)]) (fun _ => g) (fun _ => [.blk b7 62 [.int .i64 p.datas[i].pos, str p.datas[i].name, .slice a1 p.datas[i].params.length c1, .slice a2 p.datas[i].cons.length c2], .blk b2 40 [.int .i64 0, .int .i64 0], .blk b1 83 [.slice (some ⟨b, off, none⟩) p.datas.length dc, .slice ba 0 bc]]) (fun k => k ≤ p.datas[i].cons.length) (fun k => p.datas[i].cons.length - k) 0 (Nat.zero_le _) ⟨rfl, rfl, rfl, rfl, rfl, trivial⟩ rfl rfl ?_
      intro k hk
      refine r_seq ?_; refine r_sr ?_; refine r_ev rfl rfl ?_; refine r_fieldAddr rfl rfl ?_; refine r_loadB1 0 rfl rfl rfl rfl ?_; refine r_len_sl rfl rfl ?_; refine r_ev rfl rfl ?_; refine r_nn ?_
      refine r_cond rfl (fun hlt2 => ?_) (fun hlt2 => ?_)
      · have hlt2' : k < p.datas[i].cons.length := by omega
        obtain ⟨q1, q2⟩ := o3 _ (List.getElem_mem hlt2')
        obtain ⟨b', off', cap', hsl', hx'⟩ := e3.held hlt2'
        cases hsl'
        obtain ⟨cc, f1, hr'⟩ := all_rd (fun _ _ h => h.one.1) e4 hx' hlt2'
        obtain ⟨a3, c3, xf, rfl, f2, f3⟩ := f1.form
        refine r_skip ?_; refine r_then_normal ?_; refine r_seq ?_; refine r_block ?_; refine r_sr ?_; refine r_ev rfl rfl ?_; refine r_nn ?_; refine r_block ?_
        refine r_loop (ι := Nat) (fun j => [(1, ptr b1 0), (2, ptr b2 0), (6, .int .i64 i), (7, ptr b7 0), (8, .int .i64 k), (9, .int .i64 j)]) (fun _ => g) (fun _ => [.blk b7 62 [.int .i64 p.datas[i].pos, str p.datas[i].name, .slice a1 p.datas[i].params.length c1, .slice (some ⟨b', off', none⟩) p.datas[i].cons.length c2], .blk b2 40 [.int .i64 0, .int .i64 0], .blk b1 83 [.slice (some ⟨b, off, none⟩) p.datas.length dc, .slice ba 0 bc]]) (fun j => j ≤ p.datas[i].cons[k].fields.length) (fun j => p.datas[i].cons[k].fields.length - j) 0 (Nat.zero_le _) ⟨rfl, rfl, rfl, rfl, rfl, rfl, trivial⟩ rfl rfl ?_
        intro j hj
        refine r_seq ?_; refine r_sr ?_; refine r_ev rfl rfl ?_; refine r_fieldAddr rfl rfl ?_; refine r_loadB1 0 rfl rfl rfl rfl ?_; refine r_ev rfl rfl ?_; refine r_indexAddr rfl rfl rfl rfl (by omega) ?_; refine r_fieldAddr rfl rfl ?_
        refine r_load1 rfl rfl ((hr' _).at1 2 rfl) ?_
        refine r_len_sl rfl rfl ?_; refine r_ev rfl rfl ?_; refine r_nn ?_
        refine r_cond rfl (fun hlt3 => ?_) (fun hlt3 => ?_)
        · have hlt3' : j < p.datas[i].cons[k].fields.length := by omega
          have hdj := q2 _ (List.getElem_mem hlt3')
          obtain ⟨b'', off'', cap'', hsl'', hx''⟩ := f2.held hlt3'
          cases hsl''
          obtain ⟨sl', t2, hr''⟩ := tys_rdA f3 hx'' hlt3'
          refine r_skip ?_; refine r_then_normal ?_; refine r_seq ?_; refine r_block ?_; refine r_sr ?_; refine r_fieldAddr rfl rfl ?_; refine r_loadB1 0 rfl rfl rfl rfl ?_; refine r_ev rfl rfl ?_; refine r_indexAddr rfl rfl rfl rfl (by omega) ?_; refine r_fieldAddr rfl rfl ?_
          refine r_load1 rfl rfl ((hr' _).at1 2 rfl) ?_
          refine r_ev rfl rfl ?_; refine r_indexAddr rfl rfl rfl rfl (by omega) ?_
          refine r_load rfl rfl (hr'' _) rfl ?_
          refine r_callP rfl rfl (Depth3_spec g _ _ (by omega) ⟨sl', rfl, t2⟩) ?_
          refine r_ev rfl rfl ?_; refine r_nn ?_
          refine r_cond rfl (fun h => absurd h (by omega)) (fun _ => ?_)
          refine r_skip ?_; refine r_in_normal ?_; refine r_then_normal ?_; refine r_region ?_; refine r_ev rfl rfl ?_; refine r_add rfl rfl rfl (by omega) ?_; refine r_ev rfl rfl ?_; refine r_nn ?_
          exact r_again (j + 1) (by omega) (by omega) ⟨rfl, rfl, rfl, rfl, rfl, rfl, trivial⟩ rfl rfl
        · refine r_exit ?_; refine r_then_exit ?_; refine r_then_exit ?_; refine r_in_exit ?_; refine r_in_normal ?_; refine r_then_normal ?_; refine r_region ?_; refine r_ev rfl rfl ?_; refine r_add rfl rfl rfl (by omega) ?_; refine r_ev rfl rfl ?_; refine r_nn ?_
          exact r_again (k + 1) (by omega) (by omega) ⟨rfl, rfl, rfl, rfl, rfl, trivial⟩ rfl rfl
      · refine r_exit ?_; refine r_then_exit ?_; refine r_then_exit ?_; refine r_in_exit ?_; refine r_in_normal ?_; refine r_then_normal ?_; refine r_region ?_; refine r_ev rfl rfl ?_; refine r_add rfl rfl rfl (by omega) ?_; refine r_ev rfl rfl ?_; refine r_nn ?_
        refine r_drop (own' := [_, _]) (.cons _ (List.Sublist.refl _)) ?_
        exact r_again (i + 1) (by omega) (by omega) ⟨rfl, rfl, rfl, trivial⟩ rfl rfl
    · refine r_exit ?_; refine r_then_exit ?_; refine r_then_exit ?_; refine r_in_exit ?_; refine r_then_normal ?_; refine r_seq ?_; refine r_sr ?_; refine r_ev rfl rfl ?_; refine r_nn ?_; refine r_block ?_
      refine r_loop (ι := Unit) (fun _ => [(1, ptr b1 0), (2, ptr b2 0), (10, .int .i64 0)]) (fun _ => g) (fun _ => [.blk b2 40 [.int .i64 0, .int .i64 0], .blk b1 83 [.slice da p.datas.length dc, .slice ba 0 bc]]) (fun _ => True) (fun _ => 0) () trivial ⟨rfl, rfl, rfl, trivial⟩ rfl rfl ?_
      rintro _ -
      refine r_seq ?_; refine r_sr ?_; refine r_ev rfl rfl ?_; refine r_fieldAddr rfl rfl ?_; refine r_loadB1 1 rfl rfl rfl rfl ?_; refine r_len_sl rfl rfl ?_; refine r_ev rfl rfl ?_; refine r_nn ?_; refine r_cond_false rfl ?_; refine r_exit ?_; refine r_then_exit ?_; refine r_then_exit ?_; refine r_in_exit ?_; refine r_then_normal ?_; refine r_sr ?_; refine r_build rfl rfl (by rfl) ?_; refine r_storeA 0 rfl rfl rfl rfl (by rfl) (by repeat' (first | exact rfl | assumption | refine all_cons ?_ ?_)) rfl ?_; refine r_nn ?_; refine r_retc ?_
      exact r_retA [] rfl (res_blk 0 rfl rfl (by rfl)) (by simp) ⟨rfl, rfl, rfl⟩
end Go.Proofs.YtblbbjhbigpgnaaDoor
-- sum 498b6ba0d444e364
/- The walks of typedholesref7.Parse at a text of declarations, and of typedholesmake.all. -/
namespace Go.Th
/-- The declarations from an index to the end. -/
def datasGo (l : List Tok) : Nat → List Da → Nat → Option (List Da)
  | 0, ds, i => if l.length ≤ i then some ds else none
  | f + 1, ds, i => if i < l.length then (if wordAt l i dataB then match declR l i with
      | .ok (d, j) => datasGo l f (ds ++ [d]) j
      | .error _ => none
    else none) else some ds
theorem datasGo_zero {l : List Tok} {ds D : List Da} {i : Nat} (h : datasGo l 0 ds i = some D) : ¬ i < l.length ∧ ds = D := by
  unfold datasGo at h
  split at h
  · cases h; exact ⟨by omega, rfl⟩
  · cases h
theorem datasGo_end {l : List Tok} {f : Nat} {ds D : List Da} {i : Nat} (h : datasGo l f ds i = some D) (hi : ¬ i < l.length) : ds = D := by
  cases f with
  | zero => exact (datasGo_zero h).2
  | succ f => simp only [datasGo] at h; rw [if_neg hi] at h; cases h; rfl
theorem datasGo_step {l : List Tok} {f : Nat} {ds D : List Da} {i : Nat} (h : datasGo l f ds i = some D) (hi : i < l.length) : wordAt l i dataB = true ∧ ∃ d j f', f = f' + 1 ∧ declR l i = .ok (d, j) ∧ datasGo l f' (ds ++ [d]) j = some D := by
  cases f with
  | zero => exact absurd hi (datasGo_zero h).1
  | succ f =>
    simp only [datasGo] at h
    rw [if_pos hi] at h
    split at h
    · rename_i hw
      split at h
      · rename_i d j hd
        exact ⟨hw, d, j, f, rfl, hd, h⟩
      · cases h
    · cases h
theorem datasGo_len {l : List Tok} : ∀ {f : Nat} {ds D : List Da} {i : Nat}, datasGo l f ds i = some D → ds.length ≤ D.length
  | 0, ds, D, i, h => by rw [(datasGo_zero h).2]; exact Nat.le_refl _
  | f + 1, ds, D, i, h => by
    by_cases hi : i < l.length
    · obtain ⟨_, d, j, f', hf, _, h2⟩ := datasGo_step h hi
      cases hf
      have := datasGo_len h2
      simp only [List.length_append, List.length_cons, List.length_nil] at this
      omega
    · rw [datasGo_end h hi]; exact Nat.le_refl _
def allTxt : Bytes := [100, 97, 116, 97, 32, 66, 111, 111, 108, 32, 61, 32, 84, 114, 117, 101, 32, 124, 32, 70, 97, 108, 115, 101, 59, 32, 100, 97, 116, 97, 32, 79, 112, 116, 105, 111, 110, 32, 97, 32, 61, 32, 78, 111, 110, 101, 32, 124, 32, 83, 111, 109, 101, 32, 97, 59, 32, 100, 97, 116, 97, 32, 76, 105, 115, 116, 32, 97, 32, 61, 32, 78, 105, 108, 32, 124, 32, 67, 111, 110, 115, 32, 97, 32, 40, 76, 105, 115, 116, 32, 97, 41, 59, 100, 97, 116, 97, 32, 80, 97, 105, 114, 32, 97, 32, 98, 32, 61, 32, 80, 97, 105, 114, 32, 97, 32, 98, 59, 32, 100, 97, 116, 97, 32, 78, 97, 116, 32, 61, 32, 90, 101, 114, 111, 32, 124, 32, 83, 117, 99, 99, 32, 78, 97, 116, 59, 32, 100, 97, 116, 97, 32, 70, 117, 110, 32, 97, 32, 98, 32, 61, 32, 70, 117, 110, 32, 40, 97, 32, 45, 62, 32, 98, 41, 59, 32, 100, 97, 116, 97, 32, 84, 119, 111, 32, 97, 32, 61, 32, 66, 111, 116, 104, 32, 97, 32, 97, 32, 124, 32, 79, 110, 101, 32, 40, 79, 112, 116, 105, 111, 110, 32, 97, 41, 59]
def allD : List Da := (datasGo (toksOf allTxt) 100 [] 0).getD []
end Go.Th
namespace Go.Proofs.YtblbbjhbigpgnaaDoor
open Go Go.Eng Go.Th Go.Proofs
set_option maxRecDepth 10000
set_option maxHeartbeats 4000000
attribute [local irreducible] wpList Code.wp Run bodyPost Go.Eng.Ends Exit.then Exit.inBlock Again Wq Kq
theorem toksOf_TB7 (s : Bytes) : TB (toksOf s) := by
  obtain ⟨h1, h2⟩ := toksOf_facts s
  refine ⟨by omega, fun t ht => ?_⟩
  obtain ⟨a1, a2, a3, a4⟩ := h2 t ht
  exact ⟨by omega, by omega, by omega⟩
theorem toksOf_KW7 (s : Bytes) : KW (toksOf s) := fun t ht => ((toksOf_facts s).2 t ht).1
theorem das_snoc {g : Ghost} {l : List Da} {xs cs : List Value} {d : Da} (h : AllAt (DaAt g) l xs) (h1 : DaAt g d cs) : AllAt (DaAt g) (l ++ [d]) (xs ++ cs) := AllAt.snoc h1 h
theorem Parse7_datas (g : Ghost) (s : Bytes) (hs : s.length ≤ 4000) {l : List Tok} (hsc : scan s = .ok l) {f : Nat} {D : List Da} (hD : datasGo l f [] 0 = some D) (hn : D.length ≤ 8) (hok : ∀ d ∈ D, okD d) :
    SpecN Tryd.prog 45 [str s] g fun v g' => ∃ pv, v = .tuple #[pv, .agg #[.int .i64 0, .int .i64 0]] ∧ PgV g' pv ⟨D, []⟩ := by
  have hl : toksOf s = l := by unfold toksOf; rw [hsc]
  have hb : TB l := hl ▸ toksOf_TB7 s
  have hkw : KW l := hl ▸ toksOf_KW7 s
  have hb1 := hb.1
  refine spec_of_run Tryd.func45 rfl Tryd.ntmps45 rfl fun E hE => ?_
  refine r_sr ?_
  refine r_alloc rfl (fun b2 => ?_)
  refine r_alloc rfl (fun b3 => ?_)
  refine r_nn ?_; refine r_sr ?_; refine r_ev rfl rfl ?_
  refine r_call rfl rfl (refScan_spec g s (by omega)) ?_
  rintro v g0 own' ⟨rfl, hp⟩ _
  rw [hsc] at hp
  obtain ⟨sv, rfl, rfl⟩ := hp
  refine r_publishRow (fun g1 hg1 h1 => ?_)
  have hts : ToksAt g1 sv l := h1
  obtain ⟨sa, sc, rfl⟩ := slForm2 h1
  refine r_ev rfl rfl ?_; refine r_ev rfl rfl ?_; refine r_ev rfl rfl ?_
  refine r_alloc rfl (fun b5 => ?_)
  refine r_ev rfl rfl ?_; refine r_storeA 0 rfl rfl rfl rfl (by rfl) (by repeat' (first | exact rfl | assumption | refine all_cons ?_ ?_)) rfl ?_; refine r_nn ?_; refine r_seq ?_; refine r_sr ?_; refine r_fieldAddr rfl rfl ?_; refine r_loadB1 0 rfl rfl rfl rfl ?_; refine r_ev rfl rfl ?_; refine r_nn ?_; refine r_cond_false rfl ?_; refine r_skip ?_; refine r_then_normal ?_; refine r_sr ?_
  refine r_alloc rfl (fun b6 => ?_)
  refine r_nn ?_; refine r_sr ?_; refine r_ev rfl rfl ?_
  refine r_call' (lent := []) (kept := _) rfl rfl (List.Perm.refl _) (New5_spec g1 l _ hts 0) ?_
  rintro w g1' own' ⟨rfl, b, rfl, rfl⟩ _
  have hi0 : idxOf l.length 0 = 0 := by unfold idxOf; rw [if_neg (by omega)]; simp
  rw [hi0]
  refine r_ev rfl rfl ?_; refine r_nn ?_; refine r_seq ?_; refine r_block ?_
  refine r_nilRow 62 4 ?_
  refine r_loop (ι := Nat × Nat × List Da × Value × List Value × Ghost) (fun p => [(4, .slice sa l.length sc), (7, ptr b 0), (2, ptr b2 0), (3, ptr b3 0), (5, ptr b5 0), (6, ptr b6 0)]) (fun p => p.2.2.2.2.2)
    (fun p => [.row 62 4 p.2.2.2.1 p.2.2.1.length p.2.2.2.2.1, rdB b (.slice sa l.length sc) (.good p.2.1), .blk b6 83 [p.2.2.2.1, .slice none 0 0], .blk b5 40 [.int .i64 0, .int .i64 0], .blk b3 40 [.int .i64 0, .int .i64 0], .blk b2 83 [.slice none 0 0, .slice none 0 0]])
    (fun p => Ghost.le g1' p.2.2.2.2.2 ∧ (∃ a m c, p.2.2.2.1 = .slice a m c) ∧ p.2.1 ≤ l.length ∧ AllAt (DaAt p.2.2.2.2.2) p.2.2.1 p.2.2.2.2.1 ∧ datasGo l p.1 p.2.2.1 p.2.1 = some D) (fun p => p.1) (f, 0, [], .slice none 0 0, [], g1')
    ⟨Ghost.le_refl _, ⟨_, _, _, rfl⟩, Nat.zero_le _, rfl, hD⟩ ⟨rfl, rfl, rfl, rfl, rfl, rfl, trivial⟩ rfl rfl ?_
  rintro ⟨f1, i, ds, sd, xd, g2⟩ ⟨k1, ⟨da, dm, dc, k2⟩, k3, k4, k5⟩
  simp only at k1 k2 k3 k4 k5
  subst k2
  have hts2 := hts.mono k1
  have hdl := datasGo_len k5
  show Run E _ [(4, .slice sa l.length sc), (7, ptr b 0), (2, ptr b2 0), (3, ptr b3 0), (5, ptr b5 0), (6, ptr b6 0)] g2 [.row 62 4 (.slice da dm dc) ds.length xd, rdB b (.slice sa l.length sc) (.good i), .blk b6 83 [.slice da dm dc, .slice none 0 0], .blk b5 40 [.int .i64 0, .int .i64 0], .blk b3 40 [.int .i64 0, .int .i64 0], .blk b2 83 [.slice none 0 0, .slice none 0 0]] _
  refine r_seq ?_; refine r_sr ?_; refine r_ev rfl rfl ?_; refine r_ev rfl rfl ?_; refine r_fieldAddr rfl rfl ?_; refine r_loadB1 1 rfl rfl rfl rfl ?_; refine r_ev rfl rfl ?_; refine r_ev rfl rfl ?_; refine r_tev rfl rfl rfl ?_; refine r_tev rfl rfl rfl ?_; refine r_take rfl ?_; refine r_fieldAddr rfl rfl ?_; refine r_take rfl ?_; refine r_loadB1 1 rfl rfl rfl rfl ?_; refine r_tev rfl rfl rfl ?_; refine r_take rfl ?_; refine r_len_sl rfl rfl ?_; refine r_tev rfl rfl rfl ?_; refine r_ev rfl rfl ?_; refine r_nn ?_
  refine r_cond rfl (fun hlt => ?_) (fun hlt => ?_)
  · have hlt' : i < l.length := by omega
    obtain ⟨hw, d, j, f2, hf, hd, k6⟩ := datasGo_step k5 hlt'
    subst hf
    have hp : isAt l i dataB = wordAt l i dataB := isAt_word hkw (by decide) i
    have hdb := declR_bnd hd
    have hdl2 := datasGo_len k6
    simp only [List.length_append, List.length_cons, List.length_nil] at hdl2
    refine r_skip ?_; refine r_then_normal ?_; refine r_block ?_; refine r_sr ?_; refine r_ev rfl rfl ?_
    refine r_callO 1 rfl rfl rfl (Is5_spec g2 l _ hts2 b (.good i) dataB) ?_
    rw [show RS.isIs l dataB (.good i) = true from hp.trans hw]
    refine r_nn ?_; refine r_cond_true rfl ?_
    refine m_begin 6 [1, 0] mixed (by kernel_rfl) (fun hG => ?_)
    refine m_takeX 0 rfl (by kernel_rfl) rfl hG (by first | exact Ghost.le_refl _ | assumption) (by repeat' (first | exact List.nil_sublist _ | refine List.Sublist.cons_cons _ ?_ | refine List.Sublist.cons _ ?_)) ?_; refine ⟨_, (val_fieldAddr rfl), ?_⟩; refine m_takeX 1 rfl (by kernel_rfl) rfl hG (by first | exact Ghost.le_refl _ | assumption) (by repeat' (first | exact List.nil_sublist _ | refine List.Sublist.cons_cons _ ?_ | refine List.Sublist.cons _ ?_)) ?_; refine ⟨_, (val_loadB1 0 rfl rfl rfl), ?_⟩; refine m_takeX 2 rfl (by kernel_rfl) rfl hG (by first | exact Ghost.le_refl _ | assumption) (by repeat' (first | exact List.nil_sublist _ | refine List.Sublist.cons_cons _ ?_ | refine List.Sublist.cons _ ?_)) ?_; refine ⟨_, (val_ev rfl), ?_⟩
    refine m_one 3 (by kernel_rfl) rfl rfl ?_
    refine r_callL 1 rfl rfl rfl (decl7_spec hb hkw g2 _ b i hts2 (by omega)) ?_
    rintro w g3 r' hw3 hle3
    rw [hd] at hw3
    obtain ⟨⟨cs, rfl, hda⟩, rfl, _, _⟩ := hw3
    obtain ⟨a1, c1, a2, c2, xc, rfl, _⟩ := hda.form
    refine r_nn ?_
    refine h_kept hG (by first | exact Ghost.le_refl _ | assumption) (by repeat' (first | exact List.nil_sublist _ | refine List.Sublist.cons_cons _ ?_ | refine List.Sublist.cons _ ?_)) ?_
    refine m_one 4 (by kernel_rfl) rfl rfl ?_
    refine r_buildSlice rfl rfl (by rfl) (by rfl) (by rfl) (by rfl) (by rfl) (fun b40 => ?_)
    refine r_nn ?_
    refine h_kept hG (by first | exact Ghost.le_refl _ | assumption) (by repeat' (first | exact List.nil_sublist _ | refine List.Sublist.cons_cons _ ?_ | refine List.Sublist.cons _ ?_)) ?_
    refine m_one 5 (by kernel_rfl) rfl rfl ?_
    refine r_appendRow 1 0 rfl rfl rfl rfl rfl (by rfl) (by rfl) rfl (by unfold maxLen; omega) (by omega) (fun v' hv' => ?_)
    refine r_rowForm 1 rfl ?_
    rintro ⟨ya, ym, yc, rfl⟩
    refine r_nn ?_
    refine h_kept hG (by first | exact Ghost.le_refl _ | assumption) (by repeat' (first | exact List.nil_sublist _ | refine List.Sublist.cons_cons _ ?_ | refine List.Sublist.cons _ ?_)) ?_
    refine m_done (by kernel_rfl) ?_
    refine r_drop (own' := [_, _, _, _, _, _]) (.cons _ (List.Sublist.refl _)) ?_
    refine r_fieldAddr rfl rfl ?_; refine r_store1 2 rfl rfl rfl rfl rfl rfl ?_; refine r_nil ?_; refine r_in_normal ?_; refine r_then_normal ?_
    refine r_again (f2, j, ds ++ [d], .slice ya ym yc, _, g3) ⟨Ghost.le_trans k1 hle3, ⟨_, _, _, rfl⟩, by simp only; omega, das_snoc (das_mono hle3 k4) hda, k6⟩ (Nat.lt_succ_self _) ⟨rfl, rfl, rfl, rfl, rfl, rfl, trivial⟩ rfl ?_
    simp [repN]
  · have hds := datasGo_end k5 (by omega)
    subst hds
    refine r_publishRow (fun g3 hg3 hs3 => ?_)
    have hV : PgV g3 (.agg #[.slice da dm dc, .slice none 0 0]) ⟨ds, []⟩ := ⟨_, rfl, _, xd, _, [], rfl, hs3, das_mono hg3 k4, slNil g3 20, rfl⟩
    refine r_exit ?_; refine r_then_exit ?_; refine r_then_exit ?_; refine r_in_exit ?_; refine r_then_normal ?_; refine r_seq ?_; refine r_sr ?_; refine r_ev rfl rfl ?_; refine r_ev rfl rfl ?_; refine r_fieldAddr rfl rfl ?_; refine r_loadB1 0 rfl rfl rfl rfl ?_; refine r_nn ?_; refine r_cond_false rfl ?_; refine r_skip ?_; refine r_then_normal ?_; refine r_seq ?_; refine r_sr ?_; refine r_loadB 1 rfl rfl rfl (by rfl) ?_
    refine r_callP rfl rfl (Deep7_datas g3 ⟨ds, []⟩ _ hV rfl hn hok) ?_
    refine r_storeA 2 rfl rfl rfl rfl (by rfl) (by repeat' (first | exact rfl | assumption | refine all_cons ?_ ?_)) rfl ?_; refine r_nn ?_; refine r_sr ?_; refine r_fieldAddr rfl rfl ?_; refine r_loadB1 2 rfl rfl rfl rfl ?_; refine r_ev rfl rfl ?_; refine r_nn ?_; refine r_cond_false rfl ?_; refine r_skip ?_; refine r_then_normal ?_; refine r_seq ?_
    -- STOPB
    refine h_beginE [4, 3] mixed (fun hG => ?_)
    refine h_takeX 0 rfl (by kernel_rfl) rfl hG (by first | exact Ghost.le_refl _ | assumption) (by repeat' (first | exact List.nil_sublist _ | refine List.Sublist.cons_cons _ ?_ | refine List.Sublist.cons _ ?_)) ?_; refine ⟨_, (val_loadB 1 rfl rfl (by rfl)), ?_⟩; refine h_takeX 1 rfl (by kernel_rfl) rfl hG (by first | exact Ghost.le_refl _ | assumption) (by repeat' (first | exact List.nil_sublist _ | refine List.Sublist.cons_cons _ ?_ | refine List.Sublist.cons _ ?_)) ?_; refine ⟨_, (val_loadB 2 rfl rfl (by rfl)), ?_⟩
    refine h_one 2 (by kernel_rfl) rfl ?_
    refine r_storeA 4 rfl rfl rfl rfl (by rfl) (by repeat' (first | exact rfl | assumption | refine all_cons ?_ ?_)) rfl ?_; refine r_nn ?_
    refine h_kept hG (by first | exact Ghost.le_refl _ | assumption) (by repeat' (first | exact List.nil_sublist _ | refine List.Sublist.cons_cons _ ?_ | refine List.Sublist.cons _ ?_)) ?_
    refine h_one 3 (by kernel_rfl) rfl ?_
    refine r_storeA 3 rfl rfl rfl rfl (by rfl) (by repeat' (first | exact rfl | assumption | refine all_cons ?_ ?_)) rfl ?_; refine r_nn ?_
    refine h_kept hG (by first | exact Ghost.le_refl _ | assumption) (by repeat' (first | exact List.nil_sublist _ | refine List.Sublist.cons_cons _ ?_ | refine List.Sublist.cons _ ?_)) ?_
    refine h_done (by kernel_rfl) ?_
    refine r_then_normal ?_; refine r_retc ?_
    exact r_ret2 [] rfl (res_blk 4 rfl rfl (by rfl)) (res_blk 3 rfl rfl (by rfl)) (by simp) ⟨⟨_, rfl, hV⟩, rfl⟩
theorem allTxt_scan : scan allTxt = .ok (toksOf allTxt) := by kernel_rfl
theorem allD_go : datasGo (toksOf allTxt) 100 [] 0 = some allD := by kernel_rfl
theorem allD_len : allD.length = 7 := by kernel_rfl
def okDB (d : Da) : Bool := decide (d.params.length ≤ 4) && decide (d.cons.length ≤ 6) && d.cons.all fun c => decide (c.fields.length ≤ 4) && c.fields.all fun t => decide (depthT t ≤ 40)
theorem okD_of {d : Da} (h : okDB d = true) : okD d := by
  simp only [okDB, Bool.and_eq_true, decide_eq_true_eq, List.all_eq_true] at h
  exact ⟨h.1.1, h.1.2, fun c hc => ⟨(h.2 c hc).1, fun t ht => (h.2 c hc).2 t ht⟩⟩
theorem allD_ok : ∀ d ∈ allD, okD d := fun d hd => okD_of (List.all_eq_true.1 (show allD.all okDB = true by kernel_rfl) d hd)
theorem all7_spec (g : Ghost) : SpecN Tryd.prog 30 [] g fun v g' => ∃ xd, SlAt g' 4 v allD.length xd ∧ AllAt (DaAt g') allD xd := by
  refine spec_of_run Tryd.func30 rfl Tryd.ntmps30 rfl fun E hE => ?_
  refine r_sr ?_; refine r_ev rfl rfl ?_; refine r_nn ?_; refine r_sr ?_
  refine r_callN rfl rfl (Parse7_datas g allTxt (Nat.le_of_ble_eq_true (by kernel_rfl)) allTxt_scan allD_go (by rw [allD_len]; decide) allD_ok) ?_
  rintro w g1 ⟨pv, rfl, cs, rfl, sd, xd, sb, xb, rfl, h1, h2, h3, h4⟩ hle
  obtain ⟨da, dc, rfl⟩ := slForm2 h1
  obtain ⟨ba, bc, rfl⟩ := slForm2 h3
  refine r_ev rfl rfl ?_; refine r_ev rfl rfl ?_; refine r_ev rfl rfl ?_
  refine r_alloc rfl (fun b1 => ?_)
  refine r_alloc rfl (fun b2 => ?_)
  refine r_storeA 1 rfl rfl rfl rfl (by rfl) (by repeat' (first | exact rfl | assumption | refine all_cons ?_ ?_)) rfl ?_; refine r_storeA 0 rfl rfl rfl rfl (by rfl) (by repeat' (first | exact rfl | assumption | refine all_cons ?_ ?_)) rfl ?_; refine r_nn ?_; refine r_sr ?_; refine r_fieldAddr rfl rfl ?_; refine r_loadB1 1 rfl rfl rfl rfl ?_; refine r_ev rfl rfl ?_; refine r_nn ?_; refine r_retc ?_
  exact r_ret1 [] rfl rfl (by simp) ⟨⟨xd, h1, h2⟩, rfl⟩
end Go.Proofs.YtblbbjhbigpgnaaDoor
-- sum fa098664796f3794

/- The walks of chapter 4: Children, words, EqualAll, Equal. -/
import Derived.Test.YtblbbjhbigpgnaaGreatDoorExT
import Derived.Test.YtblbbjhbigpgnaaGreatDoorK1
import Derived.Test.YtblbbjhbigpgnaaGreatDoorK3
import Derived.Test.YtblbbjhbigpgnaaGreatDoorPlainD
import Derived.Test.YtblbbjhbigpgnaaGreatDoorRefD
namespace Go.Th
theorem eraseEs_map : ∀ l : List Ex, eraseEs l = l.map eraseE
  | [] => rfl
  | a :: r => by simp [eraseEs, eraseEs_map r]
theorem eraseAs_map : ∀ l : List Ar, eraseAs l = l.map eraseA
  | [] => rfl
  | a :: r => by simp [eraseAs, eraseAs_map r]
theorem erase_parts {a b : Ex} (h : eraseE a = eraseE b) : a.kind = b.kind ∧ a.name = b.name ∧ a.num = b.num ∧ a.ty = b.ty ∧ a.kids.length = b.kids.length ∧ a.arms.length = b.arms.length ∧
    (∀ i (h : i < a.arms.length) (h' : i < b.arms.length), a.arms[i].con = b.arms[i].con ∧ a.arms[i].vars = b.arms[i].vars) ∧ (childE a).map eraseE = (childE b).map eraseE := by
  cases a with
  | mk k p n m ks ra t =>
    cases b with
    | mk k' p' n' m' ks' ra' t' =>
      simp only [eraseE, Ex.mk.injEq, eraseEs_map, eraseAs_map] at h
      obtain ⟨h1, _, h2, h3, h4, h5, h6⟩ := h
      refine ⟨h1, h2, h3, h6, by simpa [Ex.kids] using congrArg List.length h4, by simpa [Ex.arms] using congrArg List.length h5, fun i hi hi' => ?_, ?_⟩
      · simp only [Ex.arms] at hi hi' ⊢
        have : (ra.map eraseA)[i]? = (ra'.map eraseA)[i]? := by rw [h5]
        simp only [List.getElem?_map, List.getElem?_eq_getElem hi, List.getElem?_eq_getElem hi', Option.map_some, Option.some.injEq] at this
        generalize ra[i] = x at this
        generalize ra'[i] = y at this
        cases x; cases y
        simp only [eraseA, Ar.mk.injEq] at this
        exact ⟨this.2.1, this.2.2.1⟩
      · simp only [childE, Ex.kids, Ex.arms, List.map_append, List.map_map, h4]
        congr 1
        have : ∀ l : List Ar, l.map (eraseE ∘ Ar.body) = (l.map eraseA).map Ar.body := by
          intro l
          rw [List.map_map]
          refine List.map_congr_left fun a _ => ?_
          cases a; simp [eraseA, Ar.body]
        rw [this, this, h5]
theorem take_snoc {α : Type} {l : List α} {i : Nat} (h : i < l.length) : l.take (i + 1) = l.take i ++ [l[i]] := List.take_succ_eq_append_getElem h
end Go.Th
namespace Go.Eng
open Go
theorem Rd.at1 {g : Ghost} {own : List Res} {b off : Nat} {xs : List Value} (h : Rd g own b off xs) (d : Nat) {v : Value} (hv : xs[d]? = some v) : Rd g own b (off + d) [v] :=
  h.part d fun j x hj => by
    cases j with
    | zero => simp at hj; subst hj; simpa using hv
    | succ j => simp at hj
theorem Rd.tail3 {g : Ghost} {own : List Res} {b off : Nat} {x y z : Value} {bc : List Value} (h : Rd g own b off (x :: y :: z :: bc)) : Rd g own b (off + 3) bc :=
  h.part 3 fun j v hj => by rw [Nat.add_comm]; simpa using hj
end Go.Eng
namespace Go.Proofs.YtblbbjhbigpgnaaGreatDoor
open Go Go.Eng Go.Th Go.Proofs
set_option maxRecDepth 10000
set_option maxHeartbeats 4000000
attribute [local irreducible] wpList Code.wp Run bodyPost Go.Eng.Ends Exit.then Exit.inBlock Again Wq Kq
theorem exs_snoc {g : Ghost} {l : List Ex} {xs cs : List Value} {a : Ex} (h : ExsAt g l xs) (h1 : ExAt g a cs) : ExsAt g (l ++ [a]) (xs ++ cs) := exs_all.2 (AllAt.snoc h1 (exs_all.1 h))
theorem exs_one {g : Ghost} {l : List Ex} {xs : List Value} (h : ExsAt g l xs) : xs.length = l.length * 11 ∧ ∀ u ∈ xs, oneC u = true := AllAt.one (fun _ _ h => h.one) (exs_all.1 h)
/-- An arm's cells, where the arms lie. -/
theorem ars_rd {g : Ghost} {ra : List Ar} {xa : List Value} {b off : Nat} {own : List Res} (ht : ArsAt g ra xa) (hx : ∀ k x, xa[k]? = some x → g b (off + k) = some x) {i : Nat} (h : i < ra.length) :
    ∃ sv bc, SlAt g 1 sv ra[i].vars.length (ra[i].vars.map str) ∧ ExAt g ra[i].body bc ∧ Rd g own b (off + i * 14) (.int .i64 ra[i].pos :: str ra[i].con :: sv :: bc) := by
  obtain ⟨c, h1, h2⟩ := AllAt.get (fun _ _ h => h.one.1) (ars_all.1 ht) i h
  generalize ra[i] = a at h1 ⊢
  cases a with
  | mk p cn vs e =>
    unfold ArAt at h1
    obtain ⟨slv, bc, rfl, h3, h4⟩ := h1
    exact ⟨slv, bc, h3, h4, rd_g fun j x hj => by rw [Nat.add_assoc]; exact hx _ _ (h2 j x hj)⟩
theorem exs_rd {g : Ghost} {ks : List Ex} {xa : List Value} {b off : Nat} {own : List Res} (ht : ExsAt g ks xa) (hx : ∀ k x, xa[k]? = some x → g b (off + k) = some x) {i : Nat} (h : i < ks.length) :
    ∃ c, ExAt g ks[i] c ∧ Rd g own b (off + i * 11) c := by
  obtain ⟨c, h1, h2⟩ := AllAt.get (fun _ _ h => h.one.1) (exs_all.1 ht) i h
  exact ⟨c, h1, rd_g fun j x hj => by rw [Nat.add_assoc]; exact hx _ _ (h2 j x hj)⟩
/-- An expression's value with its lists. -/
theorem ExV.open {g : Ghost} {v : Value} {e : Ex} (h : ExV g v e) : ∃ (a1 : Option Addr) (c1 : Nat) (a2 : Option Addr) (c2 : Nat) (a3 : Option Addr) (m3 c3 : Nat) (xk xa : List Value),
    v = .agg #[.int .i64 e.kind, .int .i64 e.pos, str e.name, .int .i64 e.num, .slice a1 e.kids.length c1, .slice a2 e.arms.length c2, .int .i64 e.ty.kind, str e.ty.name, .int .i64 e.ty.id, .int .i64 e.ty.home, .slice a3 m3 c3] ∧
    SlAt g 11 (.slice a1 e.kids.length c1) e.kids.length xk ∧ ExsAt g e.kids xk ∧ SlAt g 14 (.slice a2 e.arms.length c2) e.arms.length xa ∧ ArsAt g e.arms xa ∧ TyAt g e.ty (tyCells e.ty (.slice a3 m3 c3)) := by
  obtain ⟨cs, rfl, h⟩ := h
  obtain ⟨a1, m1, c1, a2, m2, c2, a3, m3, c3, xk, xa, rfl, h1, h2, h3, h4, h5⟩ := h.form
  obtain ⟨_, _, e1⟩ := slForm2 h1
  obtain ⟨_, _, e2⟩ := slForm2 h3
  cases e1; cases e2
  exact ⟨_, _, _, _, a3, m3, c3, xk, xa, rfl, h1, h2, h3, h4, h5⟩
theorem Children_spec (g : Ghost) (v : Value) (e : Ex) (hv : ExV g v e) (hsz : sizeE e ≤ 1000000) : SpecN Tryz.prog 44 [v] g fun w g' => ∃ xs, SlAt g' 11 w (childE e).length xs ∧ ExsAt g' (childE e) xs := by
  obtain ⟨a1, c1, a2, c2, a3, m3, c3, xk, xa, rfl, h1, h2, h3, h4, h5⟩ := hv.open
  have hlen := childE_len e
  have hcl : (childE e).length = e.kids.length + e.arms.length := by simp [childE]
  refine spec_of_run Tryz.func44 rfl Tryz.ntmps44 rfl fun E hE => ?_
  refine r_sr ?_
  refine r_box rfl rfl rfl (fun b1 => ?_)
  refine r_ev rfl rfl ?_; refine r_nn ?_; refine r_sr ?_; refine r_fieldAddr rfl rfl ?_; refine r_loadB1 0 rfl rfl rfl rfl ?_
  refine r_nilRow 34 11 ?_
  refine r_appendAt 0 rfl rfl rfl rfl h1 (by rfl) (by rfl) (exs_one h2).2 (by unfold maxLen; omega) (by omega) (fun v' _ => ?_)
  rw [Nat.zero_add]
  refine r_ev rfl rfl ?_; refine r_nn ?_; refine r_seq ?_; refine r_sr ?_; refine r_ev rfl rfl ?_; refine r_nn ?_; refine r_block ?_
  refine r_loop (ι := Nat × Value × List Value) (fun p => [(1, ptr b1 0), (3, p.2.1), (4, .int .i64 p.1)]) (fun _ => g) (fun p => [.row 34 11 p.2.1 (e.kids.length + p.1) p.2.2, .blk b1 34 [.int .i64 e.kind, .int .i64 e.pos, str e.name, .int .i64 e.num, .slice a1 e.kids.length c1, .slice a2 e.arms.length c2, .int .i64 e.ty.kind, str e.ty.name, .int .i64 e.ty.id, .int .i64 e.ty.home, .slice a3 m3 c3]])
    (fun p => p.1 ≤ e.arms.length ∧ ExsAt g (e.kids ++ (e.arms.take p.1).map Ar.body) p.2.2) (fun p => e.arms.length - p.1) (0, v', xk) ⟨Nat.zero_le _, by simpa using h2⟩ ⟨rfl, rfl, rfl, trivial⟩ rfl (by simp) ?_
  rintro ⟨i, sv, xs⟩ ⟨hi, hx⟩
  simp only at hi hx
  show Run E _ [(1, ptr b1 0), (3, sv), (4, .int .i64 i)] g [.row 34 11 sv (e.kids.length + i) xs, .blk b1 34 [.int .i64 e.kind, .int .i64 e.pos, str e.name, .int .i64 e.num, .slice a1 e.kids.length c1, .slice a2 e.arms.length c2, .int .i64 e.ty.kind, str e.ty.name, .int .i64 e.ty.id, .int .i64 e.ty.home, .slice a3 m3 c3]] _
  refine r_seq ?_; refine r_sr ?_; refine r_ev rfl rfl ?_; refine r_fieldAddr rfl rfl ?_; refine r_loadB1 1 rfl rfl rfl rfl ?_; refine r_len_sl rfl rfl ?_; refine r_ev rfl rfl ?_; refine r_nn ?_
  refine r_cond rfl (fun hlt => ?_) (fun hlt => ?_)
  · have hlt' : i < e.arms.length := by omega
    obtain ⟨b, off, cap, hsl, hxx⟩ := h3.held hlt'
    cases hsl
    obtain ⟨slv, bc, _, hb2, hr⟩ := ars_rd (own := [.row 34 11 sv (e.kids.length + i) xs, .blk b1 34 [.int .i64 e.kind, .int .i64 e.pos, str e.name, .int .i64 e.num, .slice a1 e.kids.length c1, .slice (some ⟨b, off, none⟩) e.arms.length c2, .int .i64 e.ty.kind, str e.ty.name, .int .i64 e.ty.id, .int .i64 e.ty.home, .slice a3 m3 c3]]) h4 hxx hlt'
    obtain ⟨d1, n1, o1, d2, n2, o2, d3, n3, o3, yk, ya, rfl, _⟩ := hb2.form
    refine r_skip ?_; refine r_then_normal ?_; refine r_seq ?_; refine r_block ?_; refine r_region ?_; refine r_ev rfl rfl ?_; refine r_fieldAddr rfl rfl ?_; refine r_loadB1 1 rfl rfl rfl rfl ?_; refine r_ev rfl rfl ?_; refine r_indexAddr rfl rfl rfl rfl (by omega) ?_; refine r_fieldAddr rfl rfl ?_
    refine r_load rfl rfl hr.tail3 rfl ?_
    refine r_buildSlice rfl rfl (by rfl) (by rfl) (by rfl) (by rfl) (by rfl) (fun b22 => ?_)
    refine r_appendRow 1 0 rfl rfl rfl rfl rfl (by rfl) (by rfl) rfl (by unfold maxLen; omega) (by omega) (fun w' _ => ?_)
    refine r_drop (own' := [_, _]) (.cons _ (List.Sublist.refl _)) ?_
    refine r_ev rfl rfl ?_; refine r_nil ?_; refine r_in_normal ?_; refine r_then_normal ?_; refine r_region ?_; refine r_ev rfl rfl ?_; refine r_add rfl rfl rfl (by omega) ?_; refine r_ev rfl rfl ?_; refine r_nn ?_
    refine r_again (i + 1, w', xs ++ [.int .i64 e.arms[i].body.kind, .int .i64 e.arms[i].body.pos, str e.arms[i].body.name, .int .i64 e.arms[i].body.num, .slice d1 n1 o1, .slice d2 n2 o2, .int .i64 e.arms[i].body.ty.kind, str e.arms[i].body.ty.name, .int .i64 e.arms[i].body.ty.id, .int .i64 e.arms[i].body.ty.home, .slice d3 n3 o3]) ⟨hlt', ?_⟩ (by simp only; omega) ⟨rfl, rfl, rfl, trivial⟩ rfl ?_
    · simp only
      rw [take_snoc hlt', List.map_append, ← List.append_assoc]
      exact exs_snoc hx hb2
    · simp [repN, Nat.add_assoc]
  · have hil : i = e.arms.length := by omega
    subst hil
    rw [List.take_length] at hx
    refine r_publishRow (fun g1 hg1 hs1 => ?_)
    refine r_exit ?_; refine r_then_exit ?_; refine r_then_exit ?_; refine r_in_exit ?_; refine r_then_normal ?_; refine r_sr ?_; refine r_ev rfl rfl ?_; refine r_ev rfl rfl ?_; refine r_nn ?_; refine r_retc ?_
    exact r_ret1 [] rfl rfl (by simp) ⟨⟨_, by rw [hcl]; exact hs1, ExsAt.mono hg1 _ _ hx⟩, rfl⟩
theorem words4_spec (g : Ghost) (u v : Value) (ws : List Bytes) (hu : SlAt g 1 u ws.length (ws.map str)) (hv : SlAt g 1 v ws.length (ws.map str)) : Pure Tryz.prog 42 [u, v] g (.bool true) := by
  have hle := hu.le
  refine spec_of_run Tryz.func42 rfl Tryz.ntmps42 rfl fun E hE => ?_
  refine r_sr ?_; refine r_ev rfl rfl ?_; refine r_nn ?_; refine r_seq ?_; refine r_sr ?_; refine r_ev rfl rfl ?_; refine r_len_at rfl rfl (by assumption) ?_; refine r_ev rfl rfl ?_; refine r_len_at rfl rfl (by assumption) ?_; refine r_ev rfl rfl ?_; refine r_nn ?_
  refine r_cond rfl (fun h => absurd rfl h) (fun _ => ?_)
  refine r_skip ?_; refine r_then_normal ?_; refine r_seq ?_; refine r_sr ?_; refine r_ev rfl rfl ?_; refine r_nn ?_; refine r_block ?_
  refine r_loop (ι := Nat) (fun k => [(0, u), (1, v), (5, .int .i64 k)]) (fun _ => g) (fun _ => []) (fun k => k ≤ ws.length) (fun k => ws.length - k) 0 (by omega) ⟨rfl, rfl, rfl, trivial⟩ rfl rfl ?_
  intro k hk
  refine r_seq ?_; refine r_sr ?_; refine r_ev rfl rfl ?_; refine r_ev rfl rfl ?_; refine r_len_at rfl rfl (by assumption) ?_; refine r_ev rfl rfl ?_; refine r_nn ?_
  refine r_cond rfl (fun hlt => ?_) (fun hlt => ?_)
  · have hlt' : k < ws.length := by omega
    obtain ⟨b, off, cap, rfl, hxc⟩ := hu.held hlt'
    obtain ⟨b', off', cap', rfl, hyc⟩ := hv.held hlt'
    have e1 : (ws.map str)[k * 1]? = some (str ws[k]) := by simp [hlt']
    refine r_skip ?_; refine r_then_normal ?_; refine r_seq ?_; refine r_block ?_; refine r_seq ?_
    refine r_qregion mixed (by kernel_rfl) ?_
    refine q_ev rfl rfl ?_; refine q_ev rfl rfl ?_; refine q_v rfl (val_indexAddr rfl rfl rfl (by omega)) ?_
    refine q_v rfl (val_load1 rfl (rd_g1 (hxc (k * 1) _ e1))) ?_
    refine q_ev rfl rfl ?_; refine q_ev rfl rfl ?_; refine q_v rfl (val_indexAddr rfl rfl rfl (by omega)) ?_
    refine q_v rfl (val_load1 rfl (rd_g1 (hyc (k * 1) _ e1))) ?_
    refine q_ev rfl rfl ?_; refine q_end ?_; refine r_then_normal ?_
    refine r_cond rfl (fun h => absurd rfl h) (fun _ => ?_)
    refine r_skip ?_; refine r_in_normal ?_; refine r_then_normal ?_; refine r_region ?_; refine r_ev rfl rfl ?_; refine r_add rfl rfl rfl (by omega) ?_; refine r_ev rfl rfl ?_; refine r_nn ?_
    exact r_again (k + 1) (by omega) (by omega) ⟨rfl, rfl, rfl, trivial⟩ rfl rfl
  · refine r_exit ?_; refine r_then_exit ?_; refine r_then_exit ?_; refine r_in_exit ?_; refine r_then_normal ?_; refine r_sr ?_; refine r_ev rfl rfl ?_; refine r_nn ?_; refine r_retc ?_
    exact r_ret1 [] rfl rfl (by simp) ⟨rfl, rfl, rfl⟩
theorem EqualAll4_of (g : Ghost) (la lb : List Ex) (hl : la.length = lb.length) (hEq : ∀ i (h : i < la.length) (h' : i < lb.length), ∀ u v, ExV g u la[i] → ExV g v lb[i] → Pure Tryz.prog 16 [u, v] g (.bool true)) (u v : Value) (xs ys : List Value)
    (hu : SlAt g 11 u la.length xs) (hx : ExsAt g la xs) (hv : SlAt g 11 v lb.length ys) (hy : ExsAt g lb ys) : Pure Tryz.prog 43 [u, v] g (.bool true) := by
  have hle := hu.le
  rw [← hl] at hv
  refine spec_of_run Tryz.func43 rfl Tryz.ntmps43 rfl fun E hE => ?_
  refine r_sr ?_; refine r_ev rfl rfl ?_; refine r_nn ?_; refine r_seq ?_; refine r_sr ?_; refine r_ev rfl rfl ?_; refine r_len_at rfl rfl (by assumption) ?_; refine r_ev rfl rfl ?_; refine r_len_at rfl rfl (by assumption) ?_; refine r_ev rfl rfl ?_; refine r_nn ?_
  refine r_cond rfl (fun h => absurd rfl h) (fun _ => ?_)
  refine r_skip ?_; refine r_then_normal ?_; refine r_seq ?_; refine r_sr ?_; refine r_ev rfl rfl ?_; refine r_nn ?_; refine r_block ?_
  refine r_loop (ι := Nat) (fun k => [(0, u), (1, v), (5, .int .i64 k)]) (fun _ => g) (fun _ => []) (fun k => k ≤ la.length) (fun k => la.length - k) 0 (by omega) ⟨rfl, rfl, rfl, trivial⟩ rfl rfl ?_
  intro k hk
  refine r_seq ?_; refine r_sr ?_; refine r_ev rfl rfl ?_; refine r_ev rfl rfl ?_; refine r_len_at rfl rfl (by assumption) ?_; refine r_ev rfl rfl ?_; refine r_nn ?_
  refine r_cond rfl (fun hlt => ?_) (fun hlt => ?_)
  · have hlt' : k < la.length := by omega
    have hlt2 : k < lb.length := by omega
    obtain ⟨b, off, cap, rfl, hxc⟩ := hu.held hlt'
    obtain ⟨b', off', cap', rfl, hyc⟩ := hv.held hlt'
    obtain ⟨c, h1, hr1⟩ := exs_rd (own := []) hx hxc hlt'
    obtain ⟨c', h2, hr2⟩ := exs_rd (own := []) hy hyc hlt2
    refine r_skip ?_; refine r_then_normal ?_; refine r_seq ?_; refine r_block ?_; refine r_seq ?_
    refine r_qregion mixed (by kernel_rfl) ?_
    refine q_ev rfl rfl ?_; refine q_ev rfl rfl ?_; refine q_v rfl (val_indexAddr rfl rfl rfl (by omega)) ?_
    refine q_v rfl (val_load rfl hr1 h1.one.1) ?_
    refine q_ev rfl rfl ?_; refine q_ev rfl rfl ?_; refine q_v rfl (val_indexAddr rfl rfl rfl (by omega)) ?_
    refine q_v rfl (val_load rfl hr2 h2.one.1) ?_
    refine q_callP rfl rfl (hEq k hlt' hlt2 _ _ ⟨c, rfl, h1⟩ ⟨c', rfl, h2⟩) ?_
    refine q_ev rfl rfl ?_; refine q_end ?_; refine r_then_normal ?_; refine r_cond_false rfl ?_; refine r_skip ?_; refine r_in_normal ?_; refine r_then_normal ?_; refine r_region ?_; refine r_ev rfl rfl ?_; refine r_add rfl rfl rfl (by omega) ?_; refine r_ev rfl rfl ?_; refine r_nn ?_
    exact r_again (k + 1) (by omega) (by omega) ⟨rfl, rfl, rfl, trivial⟩ rfl rfl
  · refine r_exit ?_; refine r_then_exit ?_; refine r_then_exit ?_; refine r_in_exit ?_; refine r_then_normal ?_; refine r_sr ?_; refine r_ev rfl rfl ?_; refine r_nn ?_; refine r_retc ?_
    exact r_ret1 [] rfl rfl (by simp) ⟨rfl, rfl, rfl⟩
end Go.Proofs.YtblbbjhbigpgnaaGreatDoor
-- sum ab96646daf777305
/- The walks of chapter 4 and of chapter 6's laws: Equal, sameAll. -/
namespace Go.Proofs.YtblbbjhbigpgnaaGreatDoor
open Go Go.Eng Go.Th Go.Proofs
set_option maxRecDepth 10000
set_option maxHeartbeats 4000000
attribute [local irreducible] wpList Code.wp Run bodyPost Go.Eng.Ends Exit.then Exit.inBlock Again Wq Kq
theorem Equal4_aux (g : Ghost) : ∀ (N : Nat) (g : Ghost) (a c : Ex) (u v : Value), sizeE a < N → sizeE a ≤ 1000000 → sizeE c ≤ 1000000 → eraseE a = eraseE c → ExV g u a → ExV g v c → Pure Tryz.prog 16 [u, v] g (.bool true)
  | 0, _, _, _, _, _, h, _, _, _, _, _ => by omega
  | N + 1, g, a, c, u, v, hN, ha, hc, he, hu, hv => by
    have ih := Equal4_aux g N
    obtain ⟨f1, f2, f3, f4, f5, f6, f7, f8⟩ := erase_parts he
    have hcl := childE_len a
    have hcl2 : (childE a).length = a.kids.length + a.arms.length := by simp [childE]
    have hu0 := hu
    have hv0 := hv
    obtain ⟨a1, c1, a2, c2, a3, m3, c3, xk, xa, rfl, h1, h2, h3, h4, h5⟩ := hu.open
    obtain ⟨b1, d1, b2, d2, b3, n3, d3, yk, ya, rfl, g1, g2, g3, g4, g5⟩ := hv.open
    rw [← f1, ← f2, ← f3, ← f4, ← f5, ← f6] at hv0 ⊢
    rw [← f4] at g5
    rw [← f5] at g1
    rw [← f6] at g3
    refine spec_of_run Tryz.func16 rfl Tryz.ntmps16 rfl fun E hE => ?_
    refine r_sr ?_
    refine r_box rfl rfl rfl (fun p2 => ?_)
    refine r_box rfl rfl rfl (fun p3 => ?_)
    refine r_ev rfl rfl ?_; refine r_nn ?_; refine r_seq ?_; refine r_sr ?_; refine r_fieldAddr rfl rfl ?_; refine r_loadB1 1 rfl rfl rfl rfl ?_; refine r_fieldAddr rfl rfl ?_; refine r_loadB1 0 rfl rfl rfl rfl ?_; refine r_ev rfl rfl ?_; refine r_ev rfl rfl ?_
    refine r_gdec rfl rfl (fun h => absurd rfl h) (fun _ => ?_)
    refine r_take rfl ?_; refine r_fieldAddr rfl rfl ?_; refine r_take rfl ?_; refine r_loadB1 1 rfl rfl rfl rfl ?_; refine r_take rfl ?_; refine r_fieldAddr rfl rfl ?_; refine r_take rfl ?_; refine r_loadB1 0 rfl rfl rfl rfl ?_; refine r_tev rfl rfl rfl ?_; refine r_ev rfl rfl ?_; refine r_ev rfl rfl ?_
    refine r_gdec rfl rfl (fun h => absurd rfl h) (fun _ => ?_)
    refine r_take rfl ?_; refine r_fieldAddr rfl rfl ?_; refine r_take rfl ?_; refine r_loadB1 1 rfl rfl rfl rfl ?_; refine r_take rfl ?_; refine r_fieldAddr rfl rfl ?_; refine r_take rfl ?_; refine r_loadB1 0 rfl rfl rfl rfl ?_; refine r_tev rfl rfl rfl ?_; refine r_ev rfl rfl ?_; refine r_ev rfl rfl ?_
    refine r_gdec rfl rfl (fun h => absurd rfl h) (fun _ => ?_)
    refine r_take rfl ?_; refine r_fieldAddr rfl rfl ?_; refine r_take rfl ?_; refine r_loadB 1 rfl rfl rfl (by rfl) ?_; refine r_take rfl ?_; refine r_fieldAddr rfl rfl ?_; refine r_take rfl ?_; refine r_loadB 0 rfl rfl rfl (by rfl) ?_; refine r_take rfl ?_
    refine r_callP rfl rfl (Equal_spec g a.ty _ _ ⟨_, rfl, h5⟩ ⟨_, rfl, g5⟩) ?_
    refine r_tev rfl rfl rfl ?_; refine r_ev rfl rfl ?_; refine r_ev rfl rfl ?_; refine r_take rfl ?_; refine r_fieldAddr rfl rfl ?_; refine r_take rfl ?_; refine r_loadB1 1 rfl rfl rfl rfl ?_; refine r_take rfl ?_; refine r_len_sl rfl rfl ?_; refine r_take rfl ?_; refine r_fieldAddr rfl rfl ?_; refine r_take rfl ?_; refine r_loadB1 0 rfl rfl rfl rfl ?_; refine r_take rfl ?_; refine r_len_sl rfl rfl ?_; refine r_tev rfl rfl rfl ?_; refine r_ev rfl rfl ?_; refine r_ev rfl rfl ?_
    refine r_gdec rfl rfl (fun h => absurd rfl h) (fun _ => ?_)
    refine r_take rfl ?_; refine r_fieldAddr rfl rfl ?_; refine r_take rfl ?_; refine r_loadB1 1 rfl rfl rfl rfl ?_; refine r_take rfl ?_; refine r_len_sl rfl rfl ?_; refine r_take rfl ?_; refine r_fieldAddr rfl rfl ?_; refine r_take rfl ?_; refine r_loadB1 0 rfl rfl rfl rfl ?_; refine r_take rfl ?_; refine r_len_sl rfl rfl ?_; refine r_tev rfl rfl rfl ?_; refine r_ev rfl rfl ?_; refine r_nn ?_
    refine r_cond rfl (fun h => absurd rfl h) (fun _ => ?_)
    refine r_skip ?_; refine r_then_normal ?_; refine r_seq ?_; refine r_sr ?_; refine r_ev rfl rfl ?_; refine r_nn ?_; refine r_block ?_
    refine r_loop (ι := Nat) (fun i => [(2, ptr p2 0), (3, ptr p3 0), (5, .int .i64 i)]) (fun _ => g) (fun _ => [.blk p3 34 [.int .i64 a.kind, .int .i64 c.pos, str a.name, .int .i64 a.num, .slice b1 a.kids.length d1, .slice b2 a.arms.length d2, .int .i64 a.ty.kind, str a.ty.name, .int .i64 a.ty.id, .int .i64 a.ty.home, .slice b3 n3 d3], .blk p2 34 [.int .i64 a.kind, .int .i64 a.pos, str a.name, .int .i64 a.num, .slice a1 a.kids.length c1, .slice a2 a.arms.length c2, .int .i64 a.ty.kind, str a.ty.name, .int .i64 a.ty.id, .int .i64 a.ty.home, .slice a3 m3 c3]]) (fun i => i ≤ a.arms.length) (fun i => a.arms.length - i) 0 (Nat.zero_le _) ⟨rfl, rfl, rfl, trivial⟩ rfl rfl ?_
    intro i hi
    refine r_seq ?_; refine r_sr ?_; refine r_ev rfl rfl ?_; refine r_fieldAddr rfl rfl ?_; refine r_loadB1 1 rfl rfl rfl rfl ?_; refine r_len_sl rfl rfl ?_; refine r_ev rfl rfl ?_; refine r_nn ?_
    refine r_cond rfl (fun hlt => ?_) (fun hlt => ?_)
    · have hlt' : i < a.arms.length := by omega
      have hlt2 : i < c.arms.length := by omega
      obtain ⟨e1, e2⟩ := f7 i hlt' hlt2
      obtain ⟨bb, off, cap, hsl, hxx⟩ := h3.held hlt'
      cases hsl
      obtain ⟨bb', off', cap', hsl', hyy⟩ := g3.held hlt'
      cases hsl'
      obtain ⟨sv, bc, hb1, _, hr⟩ := ars_rd (own := [.blk p3 34 [.int .i64 a.kind, .int .i64 c.pos, str a.name, .int .i64 a.num, .slice b1 a.kids.length d1, .slice (some ⟨bb', off', none⟩) a.arms.length d2, .int .i64 a.ty.kind, str a.ty.name, .int .i64 a.ty.id, .int .i64 a.ty.home, .slice b3 n3 d3], .blk p2 34 [.int .i64 a.kind, .int .i64 a.pos, str a.name, .int .i64 a.num, .slice a1 a.kids.length c1, .slice (some ⟨bb, off, none⟩) a.arms.length c2, .int .i64 a.ty.kind, str a.ty.name, .int .i64 a.ty.id, .int .i64 a.ty.home, .slice a3 m3 c3]]) h4 hxx hlt'
      obtain ⟨sv', bc', hb1', _, hr'⟩ := ars_rd (own := [.blk p3 34 [.int .i64 a.kind, .int .i64 c.pos, str a.name, .int .i64 a.num, .slice b1 a.kids.length d1, .slice (some ⟨bb', off', none⟩) a.arms.length d2, .int .i64 a.ty.kind, str a.ty.name, .int .i64 a.ty.id, .int .i64 a.ty.home, .slice b3 n3 d3], .blk p2 34 [.int .i64 a.kind, .int .i64 a.pos, str a.name, .int .i64 a.num, .slice a1 a.kids.length c1, .slice (some ⟨bb, off, none⟩) a.arms.length c2, .int .i64 a.ty.kind, str a.ty.name, .int .i64 a.ty.id, .int .i64 a.ty.home, .slice a3 m3 c3]]) g4 hyy hlt2
      rw [← e1] at hr'
      rw [← e2] at hb1'
      refine r_skip ?_; refine r_then_normal ?_; refine r_seq ?_; refine r_block ?_; refine r_seq ?_
      refine r_qregion mixed (by kernel_rfl) ?_
      refine q_v rfl (val_fieldAddr rfl) ?_; refine q_v rfl (val_loadB1 1 rfl rfl rfl) ?_; refine q_ev rfl rfl ?_; refine q_v rfl (val_indexAddr rfl rfl rfl (by omega)) ?_; refine q_v rfl (val_fieldAddr rfl) ?_
      refine q_v rfl (val_load1 rfl (hr.at1 1 rfl)) ?_
      refine q_v rfl (val_fieldAddr rfl) ?_; refine q_v rfl (val_loadB1 0 rfl rfl rfl) ?_; refine q_ev rfl rfl ?_; refine q_v rfl (val_indexAddr rfl rfl rfl (by omega)) ?_; refine q_v rfl (val_fieldAddr rfl) ?_
      refine q_v rfl (val_load1 rfl (hr'.at1 1 rfl)) ?_
      refine q_ev rfl rfl ?_; refine q_ev rfl rfl ?_
      refine q_gdec rfl rfl (fun h => absurd rfl h) (fun _ => ?_)
      refine q_take rfl ?_; refine q_v rfl (val_fieldAddr rfl) ?_; refine q_take rfl ?_; refine q_v rfl (val_loadB1 1 rfl rfl rfl) ?_; refine q_tev rfl rfl rfl ?_; refine q_take rfl ?_; refine q_v rfl (val_indexAddr rfl rfl rfl (by omega)) ?_; refine q_take rfl ?_; refine q_v rfl (val_fieldAddr rfl) ?_; refine q_take rfl ?_
      refine q_v rfl (val_load1 rfl (hr.at1 2 rfl)) ?_
      refine q_take rfl ?_; refine q_v rfl (val_fieldAddr rfl) ?_; refine q_take rfl ?_; refine q_v rfl (val_loadB1 0 rfl rfl rfl) ?_; refine q_tev rfl rfl rfl ?_; refine q_take rfl ?_; refine q_v rfl (val_indexAddr rfl rfl rfl (by omega)) ?_; refine q_take rfl ?_; refine q_v rfl (val_fieldAddr rfl) ?_; refine q_take rfl ?_
      refine q_v rfl (val_load1 rfl (hr'.at1 2 rfl)) ?_
      refine q_take rfl ?_
      refine q_callP rfl rfl (words4_spec g _ _ _ hb1 hb1') ?_
      refine q_tev rfl rfl rfl ?_; refine q_ev rfl rfl ?_; refine q_end ?_; refine r_then_normal ?_; refine r_cond_false rfl ?_; refine r_skip ?_; refine r_in_normal ?_; refine r_then_normal ?_; refine r_region ?_; refine r_ev rfl rfl ?_; refine r_add rfl rfl rfl (by omega) ?_; refine r_ev rfl rfl ?_; refine r_nn ?_
      exact r_again (i + 1) (by omega) (by omega) ⟨rfl, rfl, rfl, trivial⟩ rfl rfl
    · refine r_exit ?_; refine r_then_exit ?_; refine r_then_exit ?_; refine r_in_exit ?_; refine r_then_normal ?_; refine r_seq ?_
      -- STOPA
      refine h_beginE [] mixed (fun hG => ?_)
      refine h_takeX 0 rfl (by kernel_rfl) rfl hG (by first | exact Ghost.le_refl _ | assumption) (by repeat' (first | exact List.nil_sublist _ | refine List.Sublist.cons_cons _ ?_ | refine List.Sublist.cons _ ?_)) ?_; refine ⟨_, (val_loadB 1 rfl rfl (by rfl)), ?_⟩
      refine h_takeX 2 rfl (by kernel_rfl) rfl hG (by first | exact Ghost.le_refl _ | assumption) (by repeat' (first | exact List.nil_sublist _ | refine List.Sublist.cons_cons _ ?_ | refine List.Sublist.cons _ ?_)) ?_; refine ⟨_, (val_loadB 0 rfl rfl (by rfl)), ?_⟩
      refine h_one 1 (by kernel_rfl) rfl ?_
      refine r_callN rfl rfl (Children_spec g _ a hu0 ha) ?_
      rintro w g1' ⟨xs, hs1, hx1⟩ hle1
      refine r_nn ?_
      refine h_kept hG (by first | exact Ghost.le_refl _ | assumption) (by repeat' (first | exact List.nil_sublist _ | refine List.Sublist.cons_cons _ ?_ | refine List.Sublist.cons _ ?_)) ?_
      refine h_one 3 (by kernel_rfl) rfl ?_
      refine r_callN rfl rfl (Children_spec g1' _ c (hv0.mono hle1) hc) ?_
      rintro w2 g2' ⟨ys, hs2, hx2⟩ hle2
      have hle12 := Ghost.le_trans hle1 hle2
      refine r_nn ?_
      refine h_kept hG (by first | exact Ghost.le_refl _ | assumption) (by repeat' (first | exact List.nil_sublist _ | refine List.Sublist.cons_cons _ ?_ | refine List.Sublist.cons _ ?_)) ?_
      refine h_one 4 (by kernel_rfl) rfl ?_
      refine r_callP rfl rfl (EqualAll4_of g2' (childE a) (childE c) (by simpa using congrArg List.length f8) (fun i h h' u v h1 h2 => ih g2' _ _ u v (by
        have := childE_size (List.getElem_mem h)
        omega) (by have := childE_size (List.getElem_mem h); omega) (by have := childE_size (List.getElem_mem h'); omega) (by
        have : ((childE a).map eraseE)[i]? = ((childE c).map eraseE)[i]? := by rw [f8]
        simpa [h, h'] using this) h1 h2) _ _ _ _ (hs1.mono hle2) (ExsAt.mono hle2 _ _ hx1) hs2 hx2) ?_
      refine r_nn ?_
      refine h_kept hG (by first | exact Ghost.le_refl _ | assumption) (by repeat' (first | exact List.nil_sublist _ | refine List.Sublist.cons_cons _ ?_ | refine List.Sublist.cons _ ?_)) ?_
      refine h_one 5 (by kernel_rfl) rfl ?_
      refine r_ev rfl rfl ?_; refine r_nn ?_
      refine h_kept hG (by first | exact Ghost.le_refl _ | assumption) (by repeat' (first | exact List.nil_sublist _ | refine List.Sublist.cons_cons _ ?_ | refine List.Sublist.cons _ ?_)) ?_
      refine h_done (by kernel_rfl) ?_
      refine r_shrink hE hle12 ?_
      refine r_then_normal ?_; refine r_retc ?_
      exact r_ret1 [] rfl rfl (by simp) ⟨rfl, rfl, rfl⟩
theorem Equal4_spec (g : Ghost) (a c : Ex) (u v : Value) (ha : sizeE a ≤ 1000000) (hc : sizeE c ≤ 1000000) (he : eraseE a = eraseE c) (hu : ExV g u a) (hv : ExV g v c) : Pure Tryz.prog 16 [u, v] g (.bool true) := Equal4_aux g _ g a c u v (Nat.lt_succ_self _) ha hc he hu hv
theorem sameAll_aux : ∀ (N : Nat) (g : Ghost) (a : Ex) (u v : Value), sizeE a < N → sizeE a ≤ 1000000 → ExV g u a → ExV g v a → Pure Tryz.prog 17 [u, v] g (.bool true)
  | 0, _, _, _, _, h, _, _, _ => by omega
  | N + 1, g, a, u, v, hN, ha, hu, hv => by
    have ih := sameAll_aux N
    have hcl := childE_len a
    have hcl2 : (childE a).length = a.kids.length + a.arms.length := by simp [childE]
    have hu0 := hu
    have hv0 := hv
    obtain ⟨a1, c1, a2, c2, a3, m3, c3, xk, xa, rfl, h1, h2, h3, h4, h5⟩ := hu.open
    obtain ⟨b1, d1, b2, d2, b3, n3, d3, yk, ya, rfl, g1, g2, g3, g4, g5⟩ := hv.open
    refine spec_of_run Tryz.func17 rfl Tryz.ntmps17 rfl fun E hE => ?_
    refine r_sr ?_
    refine r_box rfl rfl rfl (fun p2 => ?_)
    refine r_box rfl rfl rfl (fun p3 => ?_)
    refine r_ev rfl rfl ?_; refine r_nn ?_; refine r_seq ?_; refine r_sr ?_; refine r_loadB 1 rfl rfl rfl (by rfl) ?_; refine r_loadB 0 rfl rfl rfl (by rfl) ?_
    refine r_callP rfl rfl (Equal4_spec g a a _ _ ha ha rfl hu0 hv0) ?_
    refine r_ev rfl rfl ?_; refine r_ev rfl rfl ?_; refine r_take rfl ?_; refine r_fieldAddr rfl rfl ?_; refine r_take rfl ?_; refine r_loadB1 1 rfl rfl rfl rfl ?_; refine r_take rfl ?_; refine r_fieldAddr rfl rfl ?_; refine r_take rfl ?_; refine r_loadB1 0 rfl rfl rfl rfl ?_; refine r_tev rfl rfl rfl ?_; refine r_ev rfl rfl ?_; refine r_nn ?_
    refine r_cond rfl (fun h => absurd rfl h) (fun _ => ?_)
    refine r_skip ?_; refine r_then_normal ?_; refine r_seq ?_; refine r_sr ?_; refine r_ev rfl rfl ?_; refine r_nn ?_; refine r_block ?_
    refine r_loop (ι := Nat) (fun i => [(2, ptr p2 0), (3, ptr p3 0), (5, .int .i64 i)]) (fun _ => g) (fun _ => [.blk p3 34 [.int .i64 a.kind, .int .i64 a.pos, str a.name, .int .i64 a.num, .slice b1 a.kids.length d1, .slice b2 a.arms.length d2, .int .i64 a.ty.kind, str a.ty.name, .int .i64 a.ty.id, .int .i64 a.ty.home, .slice b3 n3 d3], .blk p2 34 [.int .i64 a.kind, .int .i64 a.pos, str a.name, .int .i64 a.num, .slice a1 a.kids.length c1, .slice a2 a.arms.length c2, .int .i64 a.ty.kind, str a.ty.name, .int .i64 a.ty.id, .int .i64 a.ty.home, .slice a3 m3 c3]]) (fun i => i ≤ a.arms.length) (fun i => a.arms.length - i) 0 (Nat.zero_le _) ⟨rfl, rfl, rfl, trivial⟩ rfl rfl ?_
    intro i hi
    refine r_seq ?_; refine r_sr ?_; refine r_ev rfl rfl ?_; refine r_fieldAddr rfl rfl ?_; refine r_loadB1 1 rfl rfl rfl rfl ?_; refine r_len_sl rfl rfl ?_; refine r_ev rfl rfl ?_; refine r_nn ?_
    refine r_cond rfl (fun hlt => ?_) (fun hlt => ?_)
    · have hlt' : i < a.arms.length := by omega
      obtain ⟨bb, off, cap, hsl, hxx⟩ := h3.held hlt'
      cases hsl
      obtain ⟨bb', off', cap', hsl', hyy⟩ := g3.held hlt'
      cases hsl'
      obtain ⟨sv, bc, hb1, _, hr⟩ := ars_rd (own := [.blk p3 34 [.int .i64 a.kind, .int .i64 a.pos, str a.name, .int .i64 a.num, .slice b1 a.kids.length d1, .slice (some ⟨bb', off', none⟩) a.arms.length d2, .int .i64 a.ty.kind, str a.ty.name, .int .i64 a.ty.id, .int .i64 a.ty.home, .slice b3 n3 d3], .blk p2 34 [.int .i64 a.kind, .int .i64 a.pos, str a.name, .int .i64 a.num, .slice a1 a.kids.length c1, .slice (some ⟨bb, off, none⟩) a.arms.length c2, .int .i64 a.ty.kind, str a.ty.name, .int .i64 a.ty.id, .int .i64 a.ty.home, .slice a3 m3 c3]]) h4 hxx hlt'
      obtain ⟨sv', bc', hb1', _, hr'⟩ := ars_rd (own := [.blk p3 34 [.int .i64 a.kind, .int .i64 a.pos, str a.name, .int .i64 a.num, .slice b1 a.kids.length d1, .slice (some ⟨bb', off', none⟩) a.arms.length d2, .int .i64 a.ty.kind, str a.ty.name, .int .i64 a.ty.id, .int .i64 a.ty.home, .slice b3 n3 d3], .blk p2 34 [.int .i64 a.kind, .int .i64 a.pos, str a.name, .int .i64 a.num, .slice a1 a.kids.length c1, .slice (some ⟨bb, off, none⟩) a.arms.length c2, .int .i64 a.ty.kind, str a.ty.name, .int .i64 a.ty.id, .int .i64 a.ty.home, .slice a3 m3 c3]]) g4 hyy hlt'
      refine r_skip ?_; refine r_then_normal ?_; refine r_seq ?_; refine r_block ?_; refine r_seq ?_
      refine r_qregion mixed (by kernel_rfl) ?_
      refine q_v rfl (val_fieldAddr rfl) ?_; refine q_v rfl (val_loadB1 1 rfl rfl rfl) ?_; refine q_ev rfl rfl ?_; refine q_v rfl (val_indexAddr rfl rfl rfl (by omega)) ?_; refine q_v rfl (val_fieldAddr rfl) ?_
      refine q_v rfl (val_load1 rfl (hr.at1 0 rfl)) ?_
      refine q_v rfl (val_fieldAddr rfl) ?_; refine q_v rfl (val_loadB1 0 rfl rfl rfl) ?_; refine q_ev rfl rfl ?_; refine q_v rfl (val_indexAddr rfl rfl rfl (by omega)) ?_; refine q_v rfl (val_fieldAddr rfl) ?_
      refine q_v rfl (val_load1 rfl (hr'.at1 0 rfl)) ?_
      refine q_ev rfl rfl ?_; refine q_end ?_; refine r_then_normal ?_
      refine r_cond rfl (fun h => absurd rfl h) (fun _ => ?_)
      refine r_skip ?_; refine r_in_normal ?_; refine r_then_normal ?_; refine r_region ?_; refine r_ev rfl rfl ?_; refine r_add rfl rfl rfl (by omega) ?_; refine r_ev rfl rfl ?_; refine r_nn ?_
      exact r_again (i + 1) (by omega) (by omega) ⟨rfl, rfl, rfl, trivial⟩ rfl rfl
    · refine r_exit ?_; refine r_then_exit ?_; refine r_then_exit ?_; refine r_in_exit ?_; refine r_then_normal ?_; refine r_seq ?_
      -- STOPA
      refine h_beginE [] mixed (fun hG => ?_)
      refine h_takeX 0 rfl (by kernel_rfl) rfl hG (by first | exact Ghost.le_refl _ | assumption) (by repeat' (first | exact List.nil_sublist _ | refine List.Sublist.cons_cons _ ?_ | refine List.Sublist.cons _ ?_)) ?_; refine ⟨_, (val_loadB 1 rfl rfl (by rfl)), ?_⟩
      refine h_takeX 2 rfl (by kernel_rfl) rfl hG (by first | exact Ghost.le_refl _ | assumption) (by repeat' (first | exact List.nil_sublist _ | refine List.Sublist.cons_cons _ ?_ | refine List.Sublist.cons _ ?_)) ?_; refine ⟨_, (val_loadB 0 rfl rfl (by rfl)), ?_⟩
      refine h_one 1 (by kernel_rfl) rfl ?_
      refine r_callN rfl rfl (Children_spec g _ a hu0 ha) ?_
      rintro w g1' ⟨xs, hs1, hx1⟩ hle1
      refine r_nn ?_
      refine h_kept hG (by first | exact Ghost.le_refl _ | assumption) (by repeat' (first | exact List.nil_sublist _ | refine List.Sublist.cons_cons _ ?_ | refine List.Sublist.cons _ ?_)) ?_
      refine h_one 3 (by kernel_rfl) rfl ?_
      refine r_callN rfl rfl (Children_spec g1' _ a (hv0.mono hle1) ha) ?_
      rintro w2 g2' ⟨ys, hs2, hx2⟩ hle2
      have hle12 := Ghost.le_trans hle1 hle2
      have hs1' := hs1.mono hle2
      have hx1' := ExsAt.mono hle2 _ _ hx1
      refine r_nn ?_
      refine h_kept hG (by first | exact Ghost.le_refl _ | assumption) (by repeat' (first | exact List.nil_sublist _ | refine List.Sublist.cons_cons _ ?_ | refine List.Sublist.cons _ ?_)) ?_
      refine h_one 4 (by kernel_rfl) rfl ?_
      refine r_ev rfl rfl ?_; refine r_nn ?_
      refine h_kept hG (by first | exact Ghost.le_refl _ | assumption) (by repeat' (first | exact List.nil_sublist _ | refine List.Sublist.cons_cons _ ?_ | refine List.Sublist.cons _ ?_)) ?_
      refine h_one 5 (by kernel_rfl) rfl ?_
      refine r_ev rfl rfl ?_; refine r_nn ?_
      refine h_kept hG (by first | exact Ghost.le_refl _ | assumption) (by repeat' (first | exact List.nil_sublist _ | refine List.Sublist.cons_cons _ ?_ | refine List.Sublist.cons _ ?_)) ?_
      refine h_done (by kernel_rfl) ?_
      refine r_then_normal ?_; refine r_seq ?_; refine r_sr ?_; refine r_ev rfl rfl ?_; refine r_nn ?_; refine r_block ?_
      refine r_drop (own' := []) (List.nil_sublist _) ?_
      refine r_loop (ι := Nat) (fun i => [(6, w), (7, w2), (8, .int .i64 i)]) (fun _ => g2') (fun _ => []) (fun i => i ≤ (childE a).length) (fun i => (childE a).length - i) 0 (Nat.zero_le _) ⟨rfl, rfl, rfl, trivial⟩ rfl rfl ?_
      intro i hi
      refine r_seq ?_; refine r_sr ?_; refine r_ev rfl rfl ?_; refine r_ev rfl rfl ?_; refine r_len_at rfl rfl (by assumption) ?_; refine r_ev rfl rfl ?_; refine r_nn ?_
      refine r_cond rfl (fun hlt => ?_) (fun hlt => ?_)
      · have hlt' : i < (childE a).length := by omega
        obtain ⟨b, off, cap, rfl, hxc⟩ := hs1'.held hlt'
        obtain ⟨b', off', cap', rfl, hyc⟩ := hs2.held hlt'
        obtain ⟨c, k1, hr1⟩ := exs_rd (own := []) hx1' hxc hlt'
        obtain ⟨c', k2, hr2⟩ := exs_rd (own := []) hx2 hyc hlt'
        refine r_skip ?_; refine r_then_normal ?_; refine r_seq ?_; refine r_block ?_; refine r_seq ?_
        refine r_qregion mixed (by kernel_rfl) ?_
        refine q_ev rfl rfl ?_; refine q_ev rfl rfl ?_; refine q_v rfl (val_indexAddr rfl rfl rfl (by omega)) ?_
        refine q_v rfl (val_load rfl hr1 k1.one.1) ?_
        refine q_ev rfl rfl ?_; refine q_ev rfl rfl ?_; refine q_v rfl (val_indexAddr rfl rfl rfl (by omega)) ?_
        refine q_v rfl (val_load rfl hr2 k2.one.1) ?_
        refine q_callP rfl rfl (ih g2' _ _ _ (by have := childE_size (List.getElem_mem hlt'); omega) (by have := childE_size (List.getElem_mem hlt'); omega) ⟨c, rfl, k1⟩ ⟨c', rfl, k2⟩) ?_
        refine q_ev rfl rfl ?_; refine q_end ?_; refine r_then_normal ?_; refine r_cond_false rfl ?_; refine r_skip ?_; refine r_in_normal ?_; refine r_then_normal ?_; refine r_region ?_; refine r_ev rfl rfl ?_; refine r_add rfl rfl rfl (by omega) ?_; refine r_ev rfl rfl ?_; refine r_nn ?_
        exact r_again (i + 1) (by omega) (by omega) ⟨rfl, rfl, rfl, trivial⟩ rfl rfl
      · refine r_shrink hE hle12 ?_
        refine r_exit ?_; refine r_then_exit ?_; refine r_then_exit ?_; refine r_in_exit ?_; refine r_then_normal ?_; refine r_sr ?_; refine r_ev rfl rfl ?_; refine r_nn ?_; refine r_retc ?_
        exact r_ret1 [] rfl rfl (by simp) ⟨rfl, rfl, rfl⟩
theorem sameAll_spec (g : Ghost) (a : Ex) (u v : Value) (ha : sizeE a ≤ 1000000) (hu : ExV g u a) (hv : ExV g v a) : Pure Tryz.prog 17 [u, v] g (.bool true) := sameAll_aux _ g a u v (Nat.lt_succ_self _) ha hu hv
end Go.Proofs.YtblbbjhbigpgnaaGreatDoor
-- sum 3c6cb7710a29f47d
/- The walks of chapter 6's laws: scan, words. -/
namespace Go.Proofs.YtblbbjhbigpgnaaGreatDoor
open Go Go.Eng Go.Th Go.Proofs
set_option maxRecDepth 10000
set_option maxHeartbeats 4000000
attribute [local irreducible] wpList Code.wp Run bodyPost Go.Eng.Ends Exit.then Exit.inBlock Again Wq Kq
instance : Pair Tryz.prog 43 := ⟨by kernel_rfl⟩
theorem toksOf_TB (s : Bytes) : TB (toksOf s) := by
  obtain ⟨h1, h2⟩ := toksOf_facts s
  refine ⟨by omega, fun t ht => ?_⟩
  obtain ⟨a1, a2, a3, a4⟩ := h2 t ht
  exact ⟨by omega, by omega, by omega⟩
theorem toksOf_KW (s : Bytes) : KW (toksOf s) := fun t ht => ((toksOf_facts s).2 t ht).1
theorem scan6_spec (g : Ghost) (s : Bytes) (hs : s.length ≤ 9223372036854775807) : SpecN Tryz.prog 11 [str s] g fun v g' => ToksAt g' v (toksOf s) := by
  refine spec_of_run Tryz.func11 rfl Tryz.ntmps11 rfl fun E hE => ?_
  refine r_sr ?_
  refine r_ev rfl rfl ?_; refine r_nn ?_; refine r_sr ?_; refine r_ev rfl rfl ?_
  refine r_call rfl rfl (refScan_spec g s hs) ?_
  rintro v g' own' ⟨rfl, hp⟩ _
  cases hsc : scan s with
  | ok l =>
    rw [hsc] at hp
    obtain ⟨sv, rfl, rfl⟩ := hp
    refine r_publishRow (fun g1 hg1 h1 => ?_)
    obtain ⟨a, m, c, rfl⟩ := SlAt.form h1
    refine r_ev rfl rfl ?_; refine r_ev rfl rfl ?_; refine r_ev rfl rfl ?_
    refine r_alloc rfl (fun b4 => ?_)
    refine r_ev rfl rfl ?_; refine r_storeA 0 rfl rfl rfl rfl (by rfl) (by repeat' (first | exact rfl | assumption | refine all_cons ?_ ?_)) rfl ?_; refine r_nn ?_; refine r_sr ?_; refine r_ev rfl rfl ?_; refine r_ev rfl rfl ?_; refine r_nn ?_; refine r_retc ?_
    exact r_ret1 [] rfl rfl (by simp) ⟨by unfold toksOf; rw [hsc]; exact h1, rfl⟩
  | bad e p =>
    rw [hsc] at hp
    obtain ⟨rfl, rfl⟩ := hp
    refine r_ev rfl rfl ?_; refine r_ev rfl rfl ?_; refine r_ev rfl rfl ?_
    refine r_alloc rfl (fun b4 => ?_)
    refine r_ev rfl rfl ?_; refine r_storeA 0 rfl rfl rfl rfl (by rfl) (by repeat' (first | exact rfl | assumption | refine all_cons ?_ ?_)) rfl ?_; refine r_nn ?_; refine r_sr ?_; refine r_ev rfl rfl ?_; refine r_ev rfl rfl ?_; refine r_nn ?_; refine r_retc ?_
    exact r_ret1 [] rfl rfl (by simp) ⟨by unfold toksOf; rw [hsc]; exact slNil g' 3, rfl⟩
theorem scan6_row (g : Ghost) (s : Bytes) (hs : s.length ≤ 9223372036854775807) : Eng.Spec Tryz.prog 11 [str s] g [] fun v g' own' => g' = g ∧ own' = [.row 51 3 v (toksOf s).length ((toksOf s).flatMap tokCells)] := by
  refine spec_of_run Tryz.func11 rfl Tryz.ntmps11 rfl fun E hE => ?_
  refine r_sr ?_
  refine r_ev rfl rfl ?_; refine r_nn ?_; refine r_sr ?_; refine r_ev rfl rfl ?_
  refine r_call rfl rfl (refScan_spec g s hs) ?_
  rintro v g' own' ⟨rfl, hp⟩ _
  cases hsc : scan s with
  | ok l =>
    rw [hsc] at hp
    obtain ⟨sv, rfl, rfl⟩ := hp
    refine r_rowForm 0 rfl ?_
    rintro ⟨a, m, c, rfl⟩
    refine r_ev rfl rfl ?_; refine r_ev rfl rfl ?_; refine r_ev rfl rfl ?_
    refine r_alloc rfl (fun b4 => ?_)
    refine r_ev rfl rfl ?_; refine r_storeA 0 rfl rfl rfl rfl (by rfl) (by repeat' (first | exact rfl | assumption | refine all_cons ?_ ?_)) rfl ?_; refine r_nn ?_; refine r_sr ?_; refine r_ev rfl rfl ?_; refine r_ev rfl rfl ?_; refine r_nn ?_; refine r_retc ?_
    exact r_ret1 [_] rfl rfl (.cons _ (List.Sublist.refl _)) ⟨rfl, by unfold toksOf; rw [hsc]; rfl⟩
  | bad e p =>
    rw [hsc] at hp
    obtain ⟨rfl, rfl⟩ := hp
    refine r_ev rfl rfl ?_; refine r_ev rfl rfl ?_; refine r_ev rfl rfl ?_
    refine r_alloc rfl (fun b4 => ?_)
    refine r_ev rfl rfl ?_; refine r_storeA 0 rfl rfl rfl rfl (by rfl) (by repeat' (first | exact rfl | assumption | refine all_cons ?_ ?_)) rfl ?_; refine r_nn ?_; refine r_sr ?_; refine r_ev rfl rfl ?_; refine r_ev rfl rfl ?_; refine r_nn ?_; refine r_retc ?_
    refine r_nilRow 51 3 ?_
    exact r_ret1 [_] rfl rfl (.cons_cons _ (List.nil_sublist _)) ⟨rfl, by unfold toksOf; rw [hsc]; rfl⟩
def pieces6 : List Bytes := [[120], [102], [67, 111, 110, 115], [78, 105, 108], [51], [92], [46], [108, 101, 116], [114, 101, 99], [61], [105, 110], [99, 97, 115, 101], [111, 102], [124], [101, 110, 100], [40], [41], [123], [125], [63], [58], [73, 110, 116], [45, 62], [59], [92, 32, 120, 32, 46], [108, 101, 116, 32, 120, 32, 61], [99, 97, 115, 101, 32, 120, 32, 111, 102], [78, 105, 108, 32, 46]]
def word6 (k : Int) : Bytes := pieces6.getD (modI k 28).toNat [] ++ [32]
def words6 (l : List Int) : Bytes := l.flatMap word6
theorem word6_len (k : Int) : (word6 k).length ≤ 10 := by
  unfold word6
  rw [List.getD_eq_getElem?_getD, List.length_append]
  cases h : pieces6[(modI k 28).toNat]? with
  | none => simp
  | some x =>
    have : ∀ x ∈ pieces6, x.length ≤ 9 := by decide
    have := this x (List.mem_of_getElem? h)
    simp
    omega
theorem words6_len (l : List Int) : (words6 l).length ≤ 10 * l.length := by
  induction l with
  | nil => simp [words6]
  | cons x r ih =>
    have := word6_len x
    simp only [words6, List.flatMap_cons, List.length_append, List.length_cons] at ih ⊢
    omega
theorem words6_succ {l : List Int} {k : Nat} (h : k < l.length) : words6 (l.take (k + 1)) = words6 (l.take k) ++ word6 l[k] := by
  rw [List.take_succ_eq_append_getElem h, words6, List.flatMap_append]; simp [words6]
def ints (l : List Int) : List Value := l.map (Value.int .i64)
theorem words6_spec (g : Ghost) (v : Value) (l : List Int) (hl : l.length ≤ 1000) (hs : SlAt g 1 v l.length (ints l)) : SpecN Tryz.prog 18 [v] g fun v' g' => ToksAt g' v' (toksOf (words6 l)) := by
  refine spec_of_run Tryz.func18 rfl Tryz.ntmps18 rfl fun E hE => ?_
  refine r_sr ?_; refine r_ev rfl rfl ?_; refine r_nn ?_; refine r_sr ?_
  refine r_buildSlice rfl rfl (by rfl) (by rfl) (by rfl) (by rfl) (by rfl) (fun b3 => ?_)
  refine r_ev rfl rfl ?_; refine r_nn ?_; refine r_sr ?_; refine r_ev rfl rfl ?_; refine r_nn ?_; refine r_seq ?_; refine r_sr ?_; refine r_ev rfl rfl ?_; refine r_nn ?_; refine r_block ?_
  refine r_loop (ι := Nat) (fun k => [(0, v), (3, .slice (some ⟨b3, 0, none⟩) 28 28), (4, str (words6 (l.take k))), (5, .int .i64 k)]) (fun _ => g) (fun _ => [.row 9 1 (.slice (some ⟨b3, 0, none⟩) 28 28) 28 (pieces6.map str)]) (fun k => k ≤ l.length) (fun k => l.length - k) 0 (by omega) ⟨rfl, rfl, rfl, rfl, trivial⟩ rfl rfl ?_
  intro k hk
  refine r_seq ?_; refine r_sr ?_; refine r_ev rfl rfl ?_; refine r_ev rfl rfl ?_; refine r_len_at rfl rfl (by assumption) ?_; refine r_ev rfl rfl ?_; refine r_nn ?_
  refine r_cond rfl (fun hlt => ?_) (fun hlt => ?_)
  · have hlt' : k < l.length := by omega
    have hlen := words6_len (l.take k)
    rw [List.length_take] at hlen
    have hlw := word6_len l[k]
    obtain ⟨b, off, cap, rfl, hx⟩ := hs.held hlt'
    have hm : 0 ≤ modI l[k] 28 ∧ modI l[k] 28 < 28 := by unfold modI; rw [if_neg (by omega)]; omega
    refine r_skip ?_; refine r_then_normal ?_; refine r_seq ?_; refine r_block ?_; refine r_region ?_; refine r_ev rfl rfl ?_; refine r_ev rfl rfl ?_; refine r_ev rfl rfl ?_; refine r_ev rfl rfl ?_; refine r_indexAddr rfl rfl rfl rfl (by omega) ?_
    refine r_load1 rfl rfl (v := .int .i64 l[k]) (rd_g1 (hx (k * 1) _ (by simp [ints, hlt']))) ?_
    refine r_ev rfl rfl ?_; refine r_len_sl rfl rfl ?_
    refine r_callP rfl rfl (Mod_spec g l[k] 28 (by omega)) ?_
    skip
    refine r_indexAddr (j := (modI l[k] 28).toNat) rfl rfl rfl (by omega) (by omega) ?_
    refine r_load1 rfl rfl (v := str (pieces6.getD (modI l[k] 28).toNat [])) (rd_row1 0 rfl ?_) ?_
    · have hl : (modI l[k] 28).toNat < pieces6.length := by show _ < 28; omega
      rw [show 0 + (modI l[k] 28).toNat * 1 = (modI l[k] 28).toNat by omega, List.getElem?_map, List.getElem?_eq_getElem hl]
      simp only [List.getD_eq_getElem?_getD, List.getElem?_eq_getElem hl]
      rfl
    skip
    have hw5 : (pieces6.getD (modI l[k] 28).toNat [] ++ [32]).length ≤ 10 := hlw
    refine r_add_str rfl rfl rfl (by simp at hw5 ⊢; omega) ?_
    refine r_add_str rfl rfl rfl (by simp at hw5 ⊢; omega) ?_
    refine r_ev rfl rfl ?_; refine r_nil ?_; refine r_in_normal ?_; refine r_then_normal ?_; refine r_region ?_; refine r_ev rfl rfl ?_; refine r_add rfl rfl rfl (by omega) ?_; refine r_ev rfl rfl ?_; refine r_nn ?_
    exact r_again (k + 1) (by omega) (by omega) ⟨rfl, rfl, by rw [words6_succ hlt']; rfl, rfl, trivial⟩ rfl rfl
  · have hkl : k = l.length := by omega
    subst hkl
    have hlen := words6_len l
    refine r_exit ?_; refine r_then_exit ?_; refine r_then_exit ?_; refine r_in_exit ?_; refine r_then_normal ?_; refine r_sr ?_; refine r_ev rfl rfl ?_
    rw [List.take_length]
    refine r_callN rfl rfl (scan6_spec g (words6 l) (by omega)) ?_
    rintro w g1 hw hle
    obtain ⟨a, m, c, rfl⟩ := SlAt.form hw
    refine r_ev rfl rfl ?_; refine r_nn ?_; refine r_retc ?_
    exact r_ret1 [] rfl rfl (by simp) ⟨hw, rfl⟩
theorem words6_row (g : Ghost) (v : Value) (l : List Int) (hl : l.length ≤ 1000) (hs : SlAt g 1 v l.length (ints l)) : Eng.Spec Tryz.prog 18 [v] g [] fun v' g' own' => g' = g ∧ own' = [.row 51 3 v' (toksOf (words6 l)).length ((toksOf (words6 l)).flatMap tokCells)] := by
  refine spec_of_run Tryz.func18 rfl Tryz.ntmps18 rfl fun E hE => ?_
  refine r_sr ?_; refine r_ev rfl rfl ?_; refine r_nn ?_; refine r_sr ?_
  refine r_buildSlice rfl rfl (by rfl) (by rfl) (by rfl) (by rfl) (by rfl) (fun b3 => ?_)
  refine r_ev rfl rfl ?_; refine r_nn ?_; refine r_sr ?_; refine r_ev rfl rfl ?_; refine r_nn ?_; refine r_seq ?_; refine r_sr ?_; refine r_ev rfl rfl ?_; refine r_nn ?_; refine r_block ?_
  refine r_loop (ι := Nat) (fun k => [(0, v), (3, .slice (some ⟨b3, 0, none⟩) 28 28), (4, str (words6 (l.take k))), (5, .int .i64 k)]) (fun _ => g) (fun _ => [.row 9 1 (.slice (some ⟨b3, 0, none⟩) 28 28) 28 (pieces6.map str)]) (fun k => k ≤ l.length) (fun k => l.length - k) 0 (by omega) ⟨rfl, rfl, rfl, rfl, trivial⟩ rfl rfl ?_
  intro k hk
  refine r_seq ?_; refine r_sr ?_; refine r_ev rfl rfl ?_; refine r_ev rfl rfl ?_; refine r_len_at rfl rfl (by assumption) ?_; refine r_ev rfl rfl ?_; refine r_nn ?_
  refine r_cond rfl (fun hlt => ?_) (fun hlt => ?_)
  · have hlt' : k < l.length := by omega
    have hlen := words6_len (l.take k)
    rw [List.length_take] at hlen
    have hlw := word6_len l[k]
    obtain ⟨b, off, cap, rfl, hx⟩ := hs.held hlt'
    have hm : 0 ≤ modI l[k] 28 ∧ modI l[k] 28 < 28 := by unfold modI; rw [if_neg (by omega)]; omega
    refine r_skip ?_; refine r_then_normal ?_; refine r_seq ?_; refine r_block ?_; refine r_region ?_; refine r_ev rfl rfl ?_; refine r_ev rfl rfl ?_; refine r_ev rfl rfl ?_; refine r_ev rfl rfl ?_; refine r_indexAddr rfl rfl rfl rfl (by omega) ?_
    refine r_load1 rfl rfl (v := .int .i64 l[k]) (rd_g1 (hx (k * 1) _ (by simp [ints, hlt']))) ?_
    refine r_ev rfl rfl ?_; refine r_len_sl rfl rfl ?_
    refine r_callP rfl rfl (Mod_spec g l[k] 28 (by omega)) ?_
    skip
    refine r_indexAddr (j := (modI l[k] 28).toNat) rfl rfl rfl (by omega) (by omega) ?_
    refine r_load1 rfl rfl (v := str (pieces6.getD (modI l[k] 28).toNat [])) (rd_row1 0 rfl ?_) ?_
    · have hl : (modI l[k] 28).toNat < pieces6.length := by show _ < 28; omega
      rw [show 0 + (modI l[k] 28).toNat * 1 = (modI l[k] 28).toNat by omega, List.getElem?_map, List.getElem?_eq_getElem hl]
      simp only [List.getD_eq_getElem?_getD, List.getElem?_eq_getElem hl]
      rfl
    skip
    have hw5 : (pieces6.getD (modI l[k] 28).toNat [] ++ [32]).length ≤ 10 := hlw
    refine r_add_str rfl rfl rfl (by simp at hw5 ⊢; omega) ?_
    refine r_add_str rfl rfl rfl (by simp at hw5 ⊢; omega) ?_
    refine r_ev rfl rfl ?_; refine r_nil ?_; refine r_in_normal ?_; refine r_then_normal ?_; refine r_region ?_; refine r_ev rfl rfl ?_; refine r_add rfl rfl rfl (by omega) ?_; refine r_ev rfl rfl ?_; refine r_nn ?_
    exact r_again (k + 1) (by omega) (by omega) ⟨rfl, rfl, by rw [words6_succ hlt']; rfl, rfl, trivial⟩ rfl rfl
  · have hkl : k = l.length := by omega
    subst hkl
    have hlen := words6_len l
    refine r_exit ?_; refine r_then_exit ?_; refine r_then_exit ?_; refine r_in_exit ?_; refine r_then_normal ?_; refine r_sr ?_; refine r_ev rfl rfl ?_
    rw [List.take_length]
    refine r_call' (lent := []) (kept := _) rfl rfl (List.Perm.refl _) (scan6_row g (words6 l) (by omega)) ?_
    rintro w g1 own' ⟨rfl, rfl⟩ hle
    refine r_rowForm 0 rfl ?_
    rintro ⟨a, m, c, rfl⟩
    refine r_ev rfl rfl ?_; refine r_nn ?_; refine r_retc ?_
    exact r_ret1 [_] rfl rfl (.cons_cons _ (List.nil_sublist _)) ⟨rfl, rfl⟩
end Go.Proofs.YtblbbjhbigpgnaaGreatDoor
-- sum 669e8da9116f031c
/- The walks of chapter 6's laws: the sanity check; ReadexprStarts. -/
namespace Go.Proofs.YtblbbjhbigpgnaaGreatDoor
open Go Go.Eng Go.Th Go.Proofs
set_option maxRecDepth 10000
set_option maxHeartbeats 4000000
attribute [local irreducible] wpList Code.wp Run bodyPost Go.Eng.Ends Exit.then Exit.inBlock Again Wq Kq
def ey1 : Bytes := [102, 32, 120, 32, 40, 32, 92, 32, 121, 32, 46, 32, 121, 32, 41]
def ey2 : Bytes := [92, 32, 120, 32, 120]
def eyE : Ex := kidsE 5 0 [] [kidsE 5 0 [] [leafE 1 0 [102] 0, leafE 1 2 [120] 0], kidsE 4 6 [121] [leafE 1 12 [121] 0]]
theorem ey1_read : eread (toksOf ey1) .expr (idxOf (toksOf ey1).length 0) = .ok (eyE, 8) := by kernel_rfl
theorem ey2_read : eread (toksOf ey2) .expr (idxOf (toksOf ey2).length 0) = .error 4 := by kernel_rfl
theorem eans_ok {t : Ex} {j : Nat} {v : Value} {g' : Ghost} (h : eansPost (.ok (t, j)) v g') : ∃ tv, v = .tuple #[tv, .int .i64 j, .agg #[.int .i64 0, .int .i64 0]] ∧ ExV g' tv t := h
theorem eans_err {p : Int} {v : Value} {g' : Ghost} (h : eansPost (.error p) v g') : ∃ tv, v = .tuple #[tv, .int .i64 0, .agg #[.int .i64 3, .int .i64 p]] ∧ ExV g' tv noE := h
theorem exs_rdA {g : Ghost} {ks : List Ex} {xa : List Value} {b off : Nat} (ht : ExsAt g ks xa) (hx : ∀ k x, xa[k]? = some x → g b (off + k) = some x) {i : Nat} (h : i < ks.length) :
    ∃ c, ExAt g ks[i] c ∧ ∀ own, Rd g own b (off + i * 11) c := by
  obtain ⟨c, h1, h2⟩ := AllAt.get (fun _ _ h => h.one.1) (exs_all.1 ht) i h
  exact ⟨c, h1, fun own => rd_g fun j x hj => by rw [Nat.add_assoc]; exact hx _ _ (h2 j x hj)⟩
theorem first6_spec (g : Ghost) (hg : ErrT g) : SpecN Tryz.prog 7 [] g fun v _ => v = .bool true := by
  refine spec_of_run Tryz.func7 rfl Tryz.ntmps7 rfl fun E hE => ?_
  refine r_sr ?_
  refine r_ev rfl rfl ?_; refine r_nn ?_; refine r_sr ?_
  refine r_callN rfl rfl (scan6_spec g ey1 (by decide)) ?_
  rintro w g1 hw hle1
  have hg1 := hg.mono hle1
  skip
  refine r_callN rfl rfl (eExpr_spec (toksOf_TB ey1) (toksOf_KW ey1) g1 hg1 w 0 hw) ?_
  rw [ey1_read]
  rintro _ g2 hans hle2
  obtain ⟨tv, rfl, hty⟩ := eans_ok hans
  have hg2 := hg1.mono hle2
  obtain ⟨a1, c1, a2, c2, a3, m3, c3, xk, xa, rfl, h1, h2, h3, h4, h5⟩ := hty.open
  refine r_ev rfl rfl ?_; refine r_ev rfl rfl ?_; refine r_ev rfl rfl ?_; refine r_ev rfl rfl ?_
  refine r_alloc rfl (fun b1 => ?_)
  skip
  refine r_alloc rfl (fun b3 => ?_)
  refine r_storeA 1 rfl rfl rfl rfl (by rfl) (by repeat' (first | exact rfl | assumption | refine all_cons ?_ ?_)) rfl ?_; refine r_ev rfl rfl ?_; refine r_storeA 0 rfl rfl rfl rfl (by rfl) (by repeat' (first | exact rfl | assumption | refine all_cons ?_ ?_)) rfl ?_; refine r_nn ?_; refine r_sr ?_
  refine r_callN rfl rfl (scan6_spec g2 ey2 (by decide)) ?_
  rintro w2 g3 hw2 hle3
  have hg3 := hg2.mono hle3
  skip
  refine r_callN rfl rfl (eExpr_spec (toksOf_TB ey2) (toksOf_KW ey2) g3 hg3 w2 0 hw2) ?_
  rw [ey2_read]
  rintro _ g4 hans2 hle4
  obtain ⟨tv2, rfl, hty2⟩ := eans_err hans2
  obtain ⟨b1', d1, b2', d2, b3', n3, d3, yk, ya, rfl, g1', g2', g3', g4', g5'⟩ := hty2.open
  refine r_ev rfl rfl ?_; refine r_ev rfl rfl ?_; refine r_ev rfl rfl ?_; refine r_ev rfl rfl ?_
  refine r_alloc rfl (fun b4 => ?_)
  skip
  refine r_alloc rfl (fun b6 => ?_)
  refine r_storeA 1 rfl rfl rfl rfl (by rfl) (by repeat' (first | exact rfl | assumption | refine all_cons ?_ ?_)) rfl ?_; refine r_ev rfl rfl ?_; refine r_storeA 0 rfl rfl rfl rfl (by rfl) (by repeat' (first | exact rfl | assumption | refine all_cons ?_ ?_)) rfl ?_; refine r_nn ?_; refine r_sr ?_; refine r_fieldAddr rfl rfl ?_; refine r_loadB1 2 rfl rfl rfl rfl ?_; refine r_ev rfl rfl ?_; refine r_ev rfl rfl ?_; refine r_tev rfl rfl rfl ?_; refine r_tev rfl rfl rfl ?_; refine r_ev rfl rfl ?_; refine r_ev rfl rfl ?_; refine r_take rfl ?_; refine r_fieldAddr rfl rfl ?_; refine r_take rfl ?_; refine r_loadB1 3 rfl rfl rfl rfl ?_; refine r_tev rfl rfl rfl ?_; refine r_ev rfl rfl ?_; refine r_ev rfl rfl ?_; refine r_take rfl ?_; refine r_fieldAddr rfl rfl ?_; refine r_take rfl ?_; refine r_loadB1 3 rfl rfl rfl rfl ?_; refine r_take rfl ?_; refine r_len_sl rfl rfl ?_; refine r_tev rfl rfl rfl ?_; refine r_ev rfl rfl ?_; refine r_ev rfl rfl ?_; refine r_take rfl ?_; refine r_fieldAddr rfl rfl ?_; refine r_take rfl ?_; refine r_loadB1 3 rfl rfl rfl rfl ?_; refine r_take rfl ?_
  have h1' := (h1.mono hle3).mono hle4
  have h2' := ExsAt.mono hle4 _ _ (ExsAt.mono hle3 _ _ h2)
  obtain ⟨b, off, cap, hsl, hxc⟩ := h1'.held (show 0 < eyE.kids.length by decide)
  cases hsl
  obtain ⟨k0, e0, r0⟩ := exs_rdA h2' hxc (show 0 < eyE.kids.length by decide)
  obtain ⟨k1, e1, r1⟩ := exs_rdA h2' hxc (show 1 < eyE.kids.length by decide)
  obtain ⟨q1, o1, p1, q2, o2, p2, q3, o3, p3, _, _, rfl, _⟩ := e0.form
  obtain ⟨q1', o1', p1', q2', o2', p2', q3', o3', p3', _, _, rfl, _⟩ := e1.form
  skip
  refine r_indexAddr (j := 0) rfl rfl rfl rfl (by decide) ?_
  refine r_take rfl ?_; refine r_fieldAddr rfl rfl ?_; refine r_take rfl ?_
  refine r_load1 rfl rfl (v := .int .i64 5) ((r0 _).at1 0 rfl) ?_
  refine r_tev rfl rfl rfl ?_; refine r_ev rfl rfl ?_; refine r_ev rfl rfl ?_; refine r_take rfl ?_; refine r_fieldAddr rfl rfl ?_; refine r_take rfl ?_; refine r_loadB1 3 rfl rfl rfl rfl ?_; refine r_take rfl ?_
  refine r_indexAddr (j := 1) rfl rfl rfl rfl (by decide) ?_
  refine r_take rfl ?_; refine r_fieldAddr rfl rfl ?_; refine r_take rfl ?_
  refine r_load1 rfl rfl (v := .int .i64 4) ((r1 _).at1 0 rfl) ?_
  refine r_tev rfl rfl rfl ?_; refine r_ev rfl rfl ?_; refine r_ev rfl rfl ?_; refine r_take rfl ?_; refine r_fieldAddr rfl rfl ?_; refine r_take rfl ?_; refine r_loadB1 0 rfl rfl rfl rfl ?_; refine r_tev rfl rfl rfl ?_; refine r_ev rfl rfl ?_; refine r_ev rfl rfl ?_; refine r_take rfl ?_; refine r_fieldAddr rfl rfl ?_; refine r_take rfl ?_; refine r_loadB1 0 rfl rfl rfl rfl ?_; refine r_tev rfl rfl rfl ?_; refine r_ev rfl rfl ?_; refine r_ev rfl rfl ?_; refine r_nn ?_; refine r_retc ?_
  exact r_ret1 [] rfl rfl (by simp) ⟨rfl, rfl⟩
end Go.Proofs.YtblbbjhbigpgnaaGreatDoor
-- sum d22a06953772d895

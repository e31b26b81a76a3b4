/- The walks of chapter 4: Children, words, EqualAll, Equal. -/
import Derived.Test.YtcapgcohhgjngaaGreatDoorK11
import Derived.Test.YtcapgcohhgjngaaGreatDoorK9
import Derived.Test.YtcapgcohhgjngaaGreatDoorK10
namespace Go.Th
theorem eraseEs_map : ∀ l : List Ex, eraseEs l = l.map eraseE
  | [] => rfl
  | a :: r => by simp [eraseEs, eraseEs_map r]
theorem eraseAs_map : ∀ l : List Ar, eraseAs l = l.map eraseA
  | [] => rfl
  | a :: r => by simp [eraseAs, eraseAs_map r]
theorem erase_parts {a b : Ex} (h : eraseE a = eraseE b) : a.kind = b.kind ∧ a.name = b.name ∧ a.num = b.num ∧ a.ty = b.ty ∧ a.kids.length = b.kids.length ∧ a.arms.length = b.arms.length ∧
    (∀ i (h : i < a.arms.length) (h' : i < b.arms.length), a.arms[i].con = b.arms[i].con ∧ a.arms[i].vars = b.arms[i].vars) ∧ (childE a).map eraseE = (childE b).map eraseE := by
  cases a with
  | mk k p n m ks ra t =>
    cases b with
    | mk k' p' n' m' ks' ra' t' =>
      simp only [eraseE, Ex.mk.injEq, eraseEs_map, eraseAs_map] at h
      obtain ⟨h1, _, h2, h3, h4, h5, h6⟩ := h
      refine ⟨h1, h2, h3, h6, by simpa [Ex.kids] using congrArg List.length h4, by simpa [Ex.arms] using congrArg List.length h5, fun i hi hi' => ?_, ?_⟩
      · simp only [Ex.arms] at hi hi' ⊢
        have : (ra.map eraseA)[i]? = (ra'.map eraseA)[i]? := by rw [h5]
        simp only [List.getElem?_map, List.getElem?_eq_getElem hi, List.getElem?_eq_getElem hi', Option.map_some, Option.some.injEq] at this
        generalize ra[i] = x at this
        generalize ra'[i] = y at this
        cases x; cases y
        simp only [eraseA, Ar.mk.injEq] at this
        exact ⟨this.2.1, this.2.2.1⟩
      · simp only [childE, Ex.kids, Ex.arms, List.map_append, List.map_map, h4]
        congr 1
        have : ∀ l : List Ar, l.map (eraseE ∘ Ar.body) = (l.map eraseA).map Ar.body := by
          intro l
          rw [List.map_map]
          refine List.map_congr_left fun a _ => ?_
          cases a; simp [eraseA, Ar.body]
        rw [this, this, h5]
theorem take_snoc {α : Type} {l : List α} {i : Nat} (h : i < l.length) : l.take (i + 1) = l.take i ++ [l[i]] := List.take_succ_eq_append_getElem h
end Go.Th
namespace Go.Proofs.YtcapgcohhgjngaaGreatDoor
open Go Go.Eng Go.Th Go.Proofs
set_option maxRecDepth 10000
set_option maxHeartbeats 4000000
attribute [local irreducible] wpList Code.wp Run bodyPost Go.Eng.Ends Exit.then Exit.inBlock Again Wq Kq
theorem exs_snoc {g : Ghost} {l : List Ex} {xs cs : List Value} {a : Ex} (h : ExsAt g l xs) (h1 : ExAt g a cs) : ExsAt g (l ++ [a]) (xs ++ cs) := exs_all.2 (AllAt.snoc h1 (exs_all.1 h))
theorem exs_one {g : Ghost} {l : List Ex} {xs : List Value} (h : ExsAt g l xs) : xs.length = l.length * 11 ∧ ∀ u ∈ xs, oneC u = true := AllAt.one (fun _ _ h => h.one) (exs_all.1 h)
/-- An arm's cells, where the arms lie. -/
theorem ars_rd {g : Ghost} {ra : List Ar} {xa : List Value} {b off : Nat} {own : List Res} (ht : ArsAt g ra xa) (hx : ∀ k x, xa[k]? = some x → g b (off + k) = some x) {i : Nat} (h : i < ra.length) :
    ∃ sv bc, SlAt g 1 sv ra[i].vars.length (ra[i].vars.map str) ∧ ExAt g ra[i].body bc ∧ Rd g own b (off + i * 14) (.int .i64 ra[i].pos :: str ra[i].con :: sv :: bc) := by
  obtain ⟨c, h1, h2⟩ := AllAt.get (fun _ _ h => h.one.1) (ars_all.1 ht) i h
  generalize ra[i] = a at h1 ⊢
  cases a with
  | mk p cn vs e =>
    unfold ArAt at h1
    obtain ⟨slv, bc, rfl, h3, h4⟩ := h1
    exact ⟨slv, bc, h3, h4, rd_g fun j x hj => by rw [Nat.add_assoc]; exact hx _ _ (h2 j x hj)⟩
theorem exs_rd {g : Ghost} {ks : List Ex} {xa : List Value} {b off : Nat} {own : List Res} (ht : ExsAt g ks xa) (hx : ∀ k x, xa[k]? = some x → g b (off + k) = some x) {i : Nat} (h : i < ks.length) :
    ∃ c, ExAt g ks[i] c ∧ Rd g own b (off + i * 11) c := by
  obtain ⟨c, h1, h2⟩ := AllAt.get (fun _ _ h => h.one.1) (exs_all.1 ht) i h
  exact ⟨c, h1, rd_g fun j x hj => by rw [Nat.add_assoc]; exact hx _ _ (h2 j x hj)⟩
/-- An expression's value with its lists. -/
theorem ExV.open {g : Ghost} {v : Value} {e : Ex} (h : ExV g v e) : ∃ (a1 : Option Addr) (c1 : Nat) (a2 : Option Addr) (c2 : Nat) (a3 : Option Addr) (m3 c3 : Nat) (xk xa : List Value),
    v = .agg #[.int .i64 e.kind, .int .i64 e.pos, str e.name, .int .i64 e.num, .slice a1 e.kids.length c1, .slice a2 e.arms.length c2, .int .i64 e.ty.kind, str e.ty.name, .int .i64 e.ty.id, .int .i64 e.ty.home, .slice a3 m3 c3] ∧
    SlAt g 11 (.slice a1 e.kids.length c1) e.kids.length xk ∧ ExsAt g e.kids xk ∧ SlAt g 14 (.slice a2 e.arms.length c2) e.arms.length xa ∧ ArsAt g e.arms xa ∧ TyAt g e.ty (tyCells e.ty (.slice a3 m3 c3)) := by
  obtain ⟨cs, rfl, h⟩ := h
  obtain ⟨a1, m1, c1, a2, m2, c2, a3, m3, c3, xk, xa, rfl, h1, h2, h3, h4, h5⟩ := h.form
  obtain ⟨_, _, e1⟩ := slForm2 h1
  obtain ⟨_, _, e2⟩ := slForm2 h3
  cases e1; cases e2
  exact ⟨_, _, _, _, a3, m3, c3, xk, xa, rfl, h1, h2, h3, h4, h5⟩
theorem Children_spec (g : Ghost) (v : Value) (e : Ex) (hv : ExV g v e) (hsz : sizeE e ≤ 1000000) : SpecN Tryz.prog 58 [v] g fun w g' => ∃ xs, SlAt g' 11 w (childE e).length xs ∧ ExsAt g' (childE e) xs := by
  obtain ⟨a1, c1, a2, c2, a3, m3, c3, xk, xa, rfl, h1, h2, h3, h4, h5⟩ := hv.open
  have hlen := childE_len e
  have hcl : (childE e).length = e.kids.length + e.arms.length := by simp [childE]
  refine spec_of_run Tryz.func58 rfl Tryz.ntmps58 rfl fun E hE => ?_
  refine r_sr ?_
  refine r_box rfl rfl rfl (fun b1 => ?_)
  refine r_ev rfl rfl ?_; refine r_nn ?_; refine r_sr ?_; refine r_fieldAddr rfl rfl ?_; refine r_loadB1 0 rfl rfl rfl rfl ?_
  refine r_nilRow 34 11 ?_
  refine r_appendAt 0 rfl rfl rfl rfl h1 (by rfl) (by rfl) (exs_one h2).2 (by unfold maxLen; omega) (by omega) (fun v' _ => ?_)
  rw [Nat.zero_add]
  refine r_ev rfl rfl ?_; refine r_nn ?_; refine r_seq ?_; refine r_sr ?_; refine r_ev rfl rfl ?_; refine r_nn ?_; refine r_block ?_
  refine r_loop (ι := Nat × Value × List Value) (fun p => [(1, ptr b1 0), (3, p.2.1), (4, .int .i64 p.1)]) (fun _ => g) (fun p => [.row 34 11 p.2.1 (e.kids.length + p.1) p.2.2, .blk b1 34 [.int .i64 e.kind, .int .i64 e.pos, str e.name, .int .i64 e.num, .slice a1 e.kids.length c1, .slice a2 e.arms.length c2, .int .i64 e.ty.kind, str e.ty.name, .int .i64 e.ty.id, .int .i64 e.ty.home, .slice a3 m3 c3]])
    (fun p => p.1 ≤ e.arms.length ∧ ExsAt g (e.kids ++ (e.arms.take p.1).map Ar.body) p.2.2) (fun p => e.arms.length - p.1) (0, v', xk) ⟨Nat.zero_le _, by simpa using h2⟩ ⟨rfl, rfl, rfl, trivial⟩ rfl (by simp) ?_
  rintro ⟨i, sv, xs⟩ ⟨hi, hx⟩
  simp only at hi hx
  show Run E _ [(1, ptr b1 0), (3, sv), (4, .int .i64 i)] g [.row 34 11 sv (e.kids.length + i) xs, .blk b1 34 [.int .i64 e.kind, .int .i64 e.pos, str e.name, .int .i64 e.num, .slice a1 e.kids.length c1, .slice a2 e.arms.length c2, .int .i64 e.ty.kind, str e.ty.name, .int .i64 e.ty.id, .int .i64 e.ty.home, .slice a3 m3 c3]] _
  refine r_seq ?_; refine r_sr ?_; refine r_ev rfl rfl ?_; refine r_fieldAddr rfl rfl ?_; refine r_loadB1 1 rfl rfl rfl rfl ?_; refine r_len_sl rfl rfl ?_; refine r_ev rfl rfl ?_; refine r_nn ?_
  refine r_cond rfl (fun hlt => ?_) (fun hlt => ?_)
  · have hlt' : i < e.arms.length := by omega
    obtain ⟨b, off, cap, hsl, hxx⟩ := h3.held hlt'
    cases hsl
    obtain ⟨slv, bc, _, hb2, hr⟩ := ars_rd (own := [.row 34 11 sv (e.kids.length + i) xs, .blk b1 34 [.int .i64 e.kind, .int .i64 e.pos, str e.name, .int .i64 e.num, .slice a1 e.kids.length c1, .slice (some ⟨b, off, none⟩) e.arms.length c2, .int .i64 e.ty.kind, str e.ty.name, .int .i64 e.ty.id, .int .i64 e.ty.home, .slice a3 m3 c3]]) h4 hxx hlt'
    obtain ⟨d1, n1, o1, d2, n2, o2, d3, n3, o3, yk, ya, rfl, _⟩ := hb2.form
    refine r_skip ?_; refine r_then_normal ?_; refine r_seq ?_; refine r_block ?_; refine r_region ?_; refine r_ev rfl rfl ?_; refine r_fieldAddr rfl rfl ?_; refine r_loadB1 1 rfl rfl rfl rfl ?_; refine r_ev rfl rfl ?_; refine r_indexAddr rfl rfl rfl rfl (by omega) ?_; refine r_fieldAddr rfl rfl ?_
    refine r_load rfl rfl hr.tail3 rfl ?_
    refine r_buildSlice rfl rfl (by rfl) (by rfl) (by rfl) (by rfl) (by rfl) (fun b22 => ?_)
    refine r_appendRow 1 0 rfl rfl rfl rfl rfl (by rfl) (by rfl) rfl (by unfold maxLen; omega) (by omega) (fun w' _ => ?_)
    refine r_drop (own' := [_, _]) (.cons _ (List.Sublist.refl _)) ?_
    refine r_ev rfl rfl ?_; refine r_nil ?_; refine r_in_normal ?_; refine r_then_normal ?_; refine r_region ?_; refine r_ev rfl rfl ?_; refine r_add rfl rfl rfl (by omega) ?_; refine r_ev rfl rfl ?_; refine r_nn ?_
    refine r_again (i + 1, w', xs ++ [.int .i64 e.arms[i].body.kind, .int .i64 e.arms[i].body.pos, str e.arms[i].body.name, .int .i64 e.arms[i].body.num, .slice d1 n1 o1, .slice d2 n2 o2, .int .i64 e.arms[i].body.ty.kind, str e.arms[i].body.ty.name, .int .i64 e.arms[i].body.ty.id, .int .i64 e.arms[i].body.ty.home, .slice d3 n3 o3]) ⟨hlt', ?_⟩ (by simp only; omega) ⟨rfl, rfl, rfl, trivial⟩ rfl ?_
    · simp only
      rw [take_snoc hlt', List.map_append, ← List.append_assoc]
      exact exs_snoc hx hb2
    · simp [repN, Nat.add_assoc]
  · have hil : i = e.arms.length := by omega
    subst hil
    rw [List.take_length] at hx
    refine r_publishRow (fun g1 hg1 hs1 => ?_)
    refine r_exit ?_; refine r_then_exit ?_; refine r_then_exit ?_; refine r_in_exit ?_; refine r_then_normal ?_; refine r_sr ?_; refine r_ev rfl rfl ?_; refine r_ev rfl rfl ?_; refine r_nn ?_; refine r_retc ?_
    exact r_ret1 [] rfl rfl (by simp) ⟨⟨_, by rw [hcl]; exact hs1, ExsAt.mono hg1 _ _ hx⟩, rfl⟩
theorem words4_spec (g : Ghost) (u v : Value) (ws : List Bytes) (hu : SlAt g 1 u ws.length (ws.map str)) (hv : SlAt g 1 v ws.length (ws.map str)) : Pure Tryz.prog 56 [u, v] g (.bool true) := by
  have hle := hu.le
  refine spec_of_run Tryz.func56 rfl Tryz.ntmps56 rfl fun E hE => ?_
  refine r_sr ?_; refine r_ev rfl rfl ?_; refine r_nn ?_; refine r_seq ?_; refine r_sr ?_; refine r_ev rfl rfl ?_; refine r_len_at rfl rfl (by assumption) ?_; refine r_ev rfl rfl ?_; refine r_len_at rfl rfl (by assumption) ?_; refine r_ev rfl rfl ?_; refine r_nn ?_
  refine r_cond rfl (fun h => absurd rfl h) (fun _ => ?_)
  refine r_skip ?_; refine r_then_normal ?_; refine r_seq ?_; refine r_sr ?_; refine r_ev rfl rfl ?_; refine r_nn ?_; refine r_block ?_
  refine r_loop (ι := Nat) (fun k => [(0, u), (1, v), (5, .int .i64 k)]) (fun _ => g) (fun _ => []) (fun k => k ≤ ws.length) (fun k => ws.length - k) 0 (by omega) ⟨rfl, rfl, rfl, trivial⟩ rfl rfl ?_
  intro k hk
  refine r_seq ?_; refine r_sr ?_; refine r_ev rfl rfl ?_; refine r_ev rfl rfl ?_; refine r_len_at rfl rfl (by assumption) ?_; refine r_ev rfl rfl ?_; refine r_nn ?_
  refine r_cond rfl (fun hlt => ?_) (fun hlt => ?_)
  · have hlt' : k < ws.length := by omega
    obtain ⟨b, off, cap, rfl, hxc⟩ := hu.held hlt'
    obtain ⟨b', off', cap', rfl, hyc⟩ := hv.held hlt'
    have e1 : (ws.map str)[k * 1]? = some (str ws[k]) := by simp [hlt']
    refine r_skip ?_; refine r_then_normal ?_; refine r_seq ?_; refine r_block ?_; refine r_seq ?_
    refine r_qregion mixed (by kernel_rfl) ?_
    refine q_ev rfl rfl ?_; refine q_ev rfl rfl ?_; refine q_v rfl (val_indexAddr rfl rfl rfl (by omega)) ?_
    refine q_v rfl (val_load1 rfl (rd_g1 (hxc (k * 1) _ e1))) ?_
    refine q_ev rfl rfl ?_; refine q_ev rfl rfl ?_; refine q_v rfl (val_indexAddr rfl rfl rfl (by omega)) ?_
    refine q_v rfl (val_load1 rfl (rd_g1 (hyc (k * 1) _ e1))) ?_
    refine q_ev rfl rfl ?_; refine q_end ?_; refine r_then_normal ?_
    refine r_cond rfl (fun h => absurd rfl h) (fun _ => ?_)
    refine r_skip ?_; refine r_in_normal ?_; refine r_then_normal ?_; refine r_region ?_; refine r_ev rfl rfl ?_; refine r_add rfl rfl rfl (by omega) ?_; refine r_ev rfl rfl ?_; refine r_nn ?_
    exact r_again (k + 1) (by omega) (by omega) ⟨rfl, rfl, rfl, trivial⟩ rfl rfl
  · refine r_exit ?_; refine r_then_exit ?_; refine r_then_exit ?_; refine r_in_exit ?_; refine r_then_normal ?_; refine r_sr ?_; refine r_ev rfl rfl ?_; refine r_nn ?_; refine r_retc ?_
    exact r_ret1 [] rfl rfl (by simp) ⟨rfl, rfl, rfl⟩
theorem EqualAll4_of (g : Ghost) (la lb : List Ex) (hl : la.length = lb.length) (hEq : ∀ i (h : i < la.length) (h' : i < lb.length), ∀ u v, ExV g u la[i] → ExV g v lb[i] → Pure Tryz.prog 18 [u, v] g (.bool true)) (u v : Value) (xs ys : List Value)
    (hu : SlAt g 11 u la.length xs) (hx : ExsAt g la xs) (hv : SlAt g 11 v lb.length ys) (hy : ExsAt g lb ys) : Pure Tryz.prog 57 [u, v] g (.bool true) := by
  have hle := hu.le
  rw [← hl] at hv
  refine spec_of_run Tryz.func57 rfl Tryz.ntmps57 rfl fun E hE => ?_
  refine r_sr ?_; refine r_ev rfl rfl ?_; refine r_nn ?_; refine r_seq ?_; refine r_sr ?_; refine r_ev rfl rfl ?_; refine r_len_at rfl rfl (by assumption) ?_; refine r_ev rfl rfl ?_; refine r_len_at rfl rfl (by assumption) ?_; refine r_ev rfl rfl ?_; refine r_nn ?_
  refine r_cond rfl (fun h => absurd rfl h) (fun _ => ?_)
  refine r_skip ?_; refine r_then_normal ?_; refine r_seq ?_; refine r_sr ?_; refine r_ev rfl rfl ?_; refine r_nn ?_; refine r_block ?_
  refine r_loop (ι := Nat) (fun k => [(0, u), (1, v), (5, .int .i64 k)]) (fun _ => g) (fun _ => []) (fun k => k ≤ la.length) (fun k => la.length - k) 0 (by omega) ⟨rfl, rfl, rfl, trivial⟩ rfl rfl ?_
  intro k hk
  refine r_seq ?_; refine r_sr ?_; refine r_ev rfl rfl ?_; refine r_ev rfl rfl ?_; refine r_len_at rfl rfl (by assumption) ?_; refine r_ev rfl rfl ?_; refine r_nn ?_
  refine r_cond rfl (fun hlt => ?_) (fun hlt => ?_)
  · have hlt' : k < la.length := by omega
    have hlt2 : k < lb.length := by omega
    obtain ⟨b, off, cap, rfl, hxc⟩ := hu.held hlt'
    obtain ⟨b', off', cap', rfl, hyc⟩ := hv.held hlt'
    obtain ⟨c, h1, hr1⟩ := exs_rd (own := []) hx hxc hlt'
    obtain ⟨c', h2, hr2⟩ := exs_rd (own := []) hy hyc hlt2
    refine r_skip ?_; refine r_then_normal ?_; refine r_seq ?_; refine r_block ?_; refine r_seq ?_
    refine r_qregion mixed (by kernel_rfl) ?_
    refine q_ev rfl rfl ?_; refine q_ev rfl rfl ?_; refine q_v rfl (val_indexAddr rfl rfl rfl (by omega)) ?_
    refine q_v rfl (val_load rfl hr1 h1.one.1) ?_
    refine q_ev rfl rfl ?_; refine q_ev rfl rfl ?_; refine q_v rfl (val_indexAddr rfl rfl rfl (by omega)) ?_
    refine q_v rfl (val_load rfl hr2 h2.one.1) ?_
    refine q_callP rfl rfl (hEq k hlt' hlt2 _ _ ⟨c, rfl, h1⟩ ⟨c', rfl, h2⟩) ?_
    refine q_ev rfl rfl ?_; refine q_end ?_; refine r_then_normal ?_; refine r_cond_false rfl ?_; refine r_skip ?_; refine r_in_normal ?_; refine r_then_normal ?_; refine r_region ?_; refine r_ev rfl rfl ?_; refine r_add rfl rfl rfl (by omega) ?_; refine r_ev rfl rfl ?_; refine r_nn ?_
    exact r_again (k + 1) (by omega) (by omega) ⟨rfl, rfl, rfl, trivial⟩ rfl rfl
  · refine r_exit ?_; refine r_then_exit ?_; refine r_then_exit ?_; refine r_in_exit ?_; refine r_then_normal ?_; refine r_sr ?_; refine r_ev rfl rfl ?_; refine r_nn ?_; refine r_retc ?_
    exact r_ret1 [] rfl rfl (by simp) ⟨rfl, rfl, rfl⟩
end Go.Proofs.YtcapgcohhgjngaaGreatDoor
-- sum b0d8f2be36df57fc
/- The walks of chapter 4 and of chapter 6's laws: Equal, sameAll. -/
namespace Go.Proofs.YtcapgcohhgjngaaGreatDoor
open Go Go.Eng Go.Th Go.Proofs
set_option maxRecDepth 10000
set_option maxHeartbeats 4000000
attribute [local irreducible] wpList Code.wp Run bodyPost Go.Eng.Ends Exit.then Exit.inBlock Again Wq Kq
theorem Equal4_aux (g : Ghost) : ∀ (N : Nat) (g : Ghost) (a c : Ex) (u v : Value), sizeE a < N → sizeE a ≤ 1000000 → sizeE c ≤ 1000000 → eraseE a = eraseE c → ExV g u a → ExV g v c → Pure Tryz.prog 18 [u, v] g (.bool true)
  | 0, _, _, _, _, _, h, _, _, _, _, _ => by omega
  | N + 1, g, a, c, u, v, hN, ha, hc, he, hu, hv => by
    have ih := Equal4_aux g N
    obtain ⟨f1, f2, f3, f4, f5, f6, f7, f8⟩ := erase_parts he
    have hcl := childE_len a
    have hcl2 : (childE a).length = a.kids.length + a.arms.length := by simp [childE]
    have hu0 := hu
    have hv0 := hv
    obtain ⟨a1, c1, a2, c2, a3, m3, c3, xk, xa, rfl, h1, h2, h3, h4, h5⟩ := hu.open
    obtain ⟨b1, d1, b2, d2, b3, n3, d3, yk, ya, rfl, g1, g2, g3, g4, g5⟩ := hv.open
    rw [← f1, ← f2, ← f3, ← f4, ← f5, ← f6] at hv0 ⊢
    rw [← f4] at g5
    rw [← f5] at g1
    rw [← f6] at g3
    refine spec_of_run Tryz.func18 rfl Tryz.ntmps18 rfl fun E hE => ?_
    refine r_sr ?_
    refine r_box rfl rfl rfl (fun p2 => ?_)
    refine r_box rfl rfl rfl (fun p3 => ?_)
    refine r_ev rfl rfl ?_; refine r_nn ?_; refine r_seq ?_; refine r_sr ?_; refine r_fieldAddr rfl rfl ?_; refine r_loadB1 1 rfl rfl rfl rfl ?_; refine r_fieldAddr rfl rfl ?_; refine r_loadB1 0 rfl rfl rfl rfl ?_; refine r_ev rfl rfl ?_; refine r_ev rfl rfl ?_
    refine r_gdec rfl rfl (fun h => absurd rfl h) (fun _ => ?_)
    refine r_take rfl ?_; refine r_fieldAddr rfl rfl ?_; refine r_take rfl ?_; refine r_loadB1 1 rfl rfl rfl rfl ?_; refine r_take rfl ?_; refine r_fieldAddr rfl rfl ?_; refine r_take rfl ?_; refine r_loadB1 0 rfl rfl rfl rfl ?_; refine r_tev rfl rfl rfl ?_; refine r_ev rfl rfl ?_; refine r_ev rfl rfl ?_
    refine r_gdec rfl rfl (fun h => absurd rfl h) (fun _ => ?_)
    refine r_take rfl ?_; refine r_fieldAddr rfl rfl ?_; refine r_take rfl ?_; refine r_loadB1 1 rfl rfl rfl rfl ?_; refine r_take rfl ?_; refine r_fieldAddr rfl rfl ?_; refine r_take rfl ?_; refine r_loadB1 0 rfl rfl rfl rfl ?_; refine r_tev rfl rfl rfl ?_; refine r_ev rfl rfl ?_; refine r_ev rfl rfl ?_
    refine r_gdec rfl rfl (fun h => absurd rfl h) (fun _ => ?_)
    refine r_take rfl ?_; refine r_fieldAddr rfl rfl ?_; refine r_take rfl ?_; refine r_loadB 1 rfl rfl rfl (by rfl) ?_; refine r_take rfl ?_; refine r_fieldAddr rfl rfl ?_; refine r_take rfl ?_; refine r_loadB 0 rfl rfl rfl (by rfl) ?_; refine r_take rfl ?_
    refine r_callP rfl rfl (Equal_spec g a.ty _ _ ⟨_, rfl, h5⟩ ⟨_, rfl, g5⟩) ?_
    refine r_tev rfl rfl rfl ?_; refine r_ev rfl rfl ?_; refine r_ev rfl rfl ?_; refine r_take rfl ?_; refine r_fieldAddr rfl rfl ?_; refine r_take rfl ?_; refine r_loadB1 1 rfl rfl rfl rfl ?_; refine r_take rfl ?_; refine r_len_sl rfl rfl ?_; refine r_take rfl ?_; refine r_fieldAddr rfl rfl ?_; refine r_take rfl ?_; refine r_loadB1 0 rfl rfl rfl rfl ?_; refine r_take rfl ?_; refine r_len_sl rfl rfl ?_; refine r_tev rfl rfl rfl ?_; refine r_ev rfl rfl ?_; refine r_ev rfl rfl ?_
    refine r_gdec rfl rfl (fun h => absurd rfl h) (fun _ => ?_)
    refine r_take rfl ?_; refine r_fieldAddr rfl rfl ?_; refine r_take rfl ?_; refine r_loadB1 1 rfl rfl rfl rfl ?_; refine r_take rfl ?_; refine r_len_sl rfl rfl ?_; refine r_take rfl ?_; refine r_fieldAddr rfl rfl ?_; refine r_take rfl ?_; refine r_loadB1 0 rfl rfl rfl rfl ?_; refine r_take rfl ?_; refine r_len_sl rfl rfl ?_; refine r_tev rfl rfl rfl ?_; refine r_ev rfl rfl ?_; refine r_nn ?_
    refine r_cond rfl (fun h => absurd rfl h) (fun _ => ?_)
    refine r_skip ?_; refine r_then_normal ?_; refine r_seq ?_; refine r_sr ?_; refine r_ev rfl rfl ?_; refine r_nn ?_; refine r_block ?_
    refine r_loop (ι := Nat) (fun i => [(2, ptr p2 0), (3, ptr p3 0), (5, .int .i64 i)]) (fun _ => g) (fun _ => [.blk p3 34 [.int .i64 a.kind, .int .i64 c.pos, str a.name, .int .i64 a.num, .slice b1 a.kids.length d1, .slice b2 a.arms.length d2, .int .i64 a.ty.kind, str a.ty.name, .int .i64 a.ty.id, .int .i64 a.ty.home, .slice b3 n3 d3], .blk p2 34 [.int .i64 a.kind, .int .i64 a.pos, str a.name, .int .i64 a.num, .slice a1 a.kids.length c1, .slice a2 a.arms.length c2, .int .i64 a.ty.kind, str a.ty.name, .int .i64 a.ty.id, .int .i64 a.ty.home, .slice a3 m3 c3]]) (fun i => i ≤ a.arms.length) (fun i => a.arms.length - i) 0 (Nat.zero_le _) ⟨rfl, rfl, rfl, trivial⟩ rfl rfl ?_
    intro i hi
    refine r_seq ?_; refine r_sr ?_; refine r_ev rfl rfl ?_; refine r_fieldAddr rfl rfl ?_; refine r_loadB1 1 rfl rfl rfl rfl ?_; refine r_len_sl rfl rfl ?_; refine r_ev rfl rfl ?_; refine r_nn ?_
    refine r_cond rfl (fun hlt => ?_) (fun hlt => ?_)
    · have hlt' : i < a.arms.length := by omega
      have hlt2 : i < c.arms.length := by omega
      obtain ⟨e1, e2⟩ := f7 i hlt' hlt2
      obtain ⟨bb, off, cap, hsl, hxx⟩ := h3.held hlt'
      cases hsl
      obtain ⟨bb', off', cap', hsl', hyy⟩ := g3.held hlt'
      cases hsl'
      obtain ⟨sv, bc, hb1, _, hr⟩ := ars_rd (own := [.blk p3 34 [.int .i64 a.kind, .int .i64 c.pos, str a.name, .int .i64 a.num, .slice b1 a.kids.length d1, .slice (some ⟨bb', off', none⟩) a.arms.length d2, .int .i64 a.ty.kind, str a.ty.name, .int .i64 a.ty.id, .int .i64 a.ty.home, .slice b3 n3 d3], .blk p2 34 [.int .i64 a.kind, .int .i64 a.pos, str a.name, .int .i64 a.num, .slice a1 a.kids.length c1, .slice (some ⟨bb, off, none⟩) a.arms.length c2, .int .i64 a.ty.kind, str a.ty.name, .int .i64 a.ty.id, .int .i64 a.ty.home, .slice a3 m3 c3]]) h4 hxx hlt'
      obtain ⟨sv', bc', hb1', _, hr'⟩ := ars_rd (own := [.blk p3 34 [.int .i64 a.kind, .int .i64 c.pos, str a.name, .int .i64 a.num, .slice b1 a.kids.length d1, .slice (some ⟨bb', off', none⟩) a.arms.length d2, .int .i64 a.ty.kind, str a.ty.name, .int .i64 a.ty.id, .int .i64 a.ty.home, .slice b3 n3 d3], .blk p2 34 [.int .i64 a.kind, .int .i64 a.pos, str a.name, .int .i64 a.num, .slice a1 a.kids.length c1, .slice (some ⟨bb, off, none⟩) a.arms.length c2, .int .i64 a.ty.kind, str a.ty.name, .int .i64 a.ty.id, .int .i64 a.ty.home, .slice a3 m3 c3]]) g4 hyy hlt2
      rw [← e1] at hr'
      rw [← e2] at hb1'
      refine r_skip ?_; refine r_then_normal ?_; refine r_seq ?_; refine r_block ?_; refine r_seq ?_
      refine r_qregion mixed (by kernel_rfl) ?_
      refine q_v rfl (val_fieldAddr rfl) ?_; refine q_v rfl (val_loadB1 1 rfl rfl rfl) ?_; refine q_ev rfl rfl ?_; refine q_v rfl (val_indexAddr rfl rfl rfl (by omega)) ?_; refine q_v rfl (val_fieldAddr rfl) ?_
      refine q_v rfl (val_load1 rfl (hr.at1 1 rfl)) ?_
      refine q_v rfl (val_fieldAddr rfl) ?_; refine q_v rfl (val_loadB1 0 rfl rfl rfl) ?_; refine q_ev rfl rfl ?_; refine q_v rfl (val_indexAddr rfl rfl rfl (by omega)) ?_; refine q_v rfl (val_fieldAddr rfl) ?_
      refine q_v rfl (val_load1 rfl (hr'.at1 1 rfl)) ?_
      refine q_ev rfl rfl ?_; refine q_ev rfl rfl ?_
      refine q_gdec rfl rfl (fun h => absurd rfl h) (fun _ => ?_)
      refine q_take rfl ?_; refine q_v rfl (val_fieldAddr rfl) ?_; refine q_take rfl ?_; refine q_v rfl (val_loadB1 1 rfl rfl rfl) ?_; refine q_tev rfl rfl rfl ?_; refine q_take rfl ?_; refine q_v rfl (val_indexAddr rfl rfl rfl (by omega)) ?_; refine q_take rfl ?_; refine q_v rfl (val_fieldAddr rfl) ?_; refine q_take rfl ?_
      refine q_v rfl (val_load1 rfl (hr.at1 2 rfl)) ?_
      refine q_take rfl ?_; refine q_v rfl (val_fieldAddr rfl) ?_; refine q_take rfl ?_; refine q_v rfl (val_loadB1 0 rfl rfl rfl) ?_; refine q_tev rfl rfl rfl ?_; refine q_take rfl ?_; refine q_v rfl (val_indexAddr rfl rfl rfl (by omega)) ?_; refine q_take rfl ?_; refine q_v rfl (val_fieldAddr rfl) ?_; refine q_take rfl ?_
      refine q_v rfl (val_load1 rfl (hr'.at1 2 rfl)) ?_
      refine q_take rfl ?_
      refine q_callP rfl rfl (words4_spec g _ _ _ hb1 hb1') ?_
      refine q_tev rfl rfl rfl ?_; refine q_ev rfl rfl ?_; refine q_end ?_; refine r_then_normal ?_; refine r_cond_false rfl ?_; refine r_skip ?_; refine r_in_normal ?_; refine r_then_normal ?_; refine r_region ?_; refine r_ev rfl rfl ?_; refine r_add rfl rfl rfl (by omega) ?_; refine r_ev rfl rfl ?_; refine r_nn ?_
      exact r_again (i + 1) (by omega) (by omega) ⟨rfl, rfl, rfl, trivial⟩ rfl rfl
    · refine r_exit ?_; refine r_then_exit ?_; refine r_then_exit ?_; refine r_in_exit ?_; refine r_then_normal ?_; refine r_seq ?_
      -- STOPA
      refine h_beginE [] mixed (fun hG => ?_)
      refine h_takeX 0 rfl (by kernel_rfl) rfl hG (by first | exact Ghost.le_refl _ | assumption) (by repeat' (first | exact List.nil_sublist _ | refine List.Sublist.cons_cons _ ?_ | refine List.Sublist.cons _ ?_)) ?_; refine ⟨_, (val_loadB 1 rfl rfl (by rfl)), ?_⟩
      refine h_takeX 2 rfl (by kernel_rfl) rfl hG (by first | exact Ghost.le_refl _ | assumption) (by repeat' (first | exact List.nil_sublist _ | refine List.Sublist.cons_cons _ ?_ | refine List.Sublist.cons _ ?_)) ?_; refine ⟨_, (val_loadB 0 rfl rfl (by rfl)), ?_⟩
      refine h_one 1 (by kernel_rfl) rfl ?_
      refine r_callN rfl rfl (Children_spec g _ a hu0 ha) ?_
      rintro w g1' ⟨xs, hs1, hx1⟩ hle1
      refine r_nn ?_
      refine h_kept hG (by first | exact Ghost.le_refl _ | assumption) (by repeat' (first | exact List.nil_sublist _ | refine List.Sublist.cons_cons _ ?_ | refine List.Sublist.cons _ ?_)) ?_
      refine h_one 3 (by kernel_rfl) rfl ?_
      refine r_callN rfl rfl (Children_spec g1' _ c (hv0.mono hle1) hc) ?_
      rintro w2 g2' ⟨ys, hs2, hx2⟩ hle2
      have hle12 := Ghost.le_trans hle1 hle2
      refine r_nn ?_
      refine h_kept hG (by first | exact Ghost.le_refl _ | assumption) (by repeat' (first | exact List.nil_sublist _ | refine List.Sublist.cons_cons _ ?_ | refine List.Sublist.cons _ ?_)) ?_
      refine h_one 4 (by kernel_rfl) rfl ?_
      refine r_callP rfl rfl (EqualAll4_of g2' (childE a) (childE c) (by simpa using congrArg List.length f8) (fun i h h' u v h1 h2 => ih g2' _ _ u v (by
        have := childE_size (List.getElem_mem h)
        omega) (by have := childE_size (List.getElem_mem h); omega) (by have := childE_size (List.getElem_mem h'); omega) (by
        have : ((childE a).map eraseE)[i]? = ((childE c).map eraseE)[i]? := by rw [f8]
        simpa [h, h'] using this) h1 h2) _ _ _ _ (hs1.mono hle2) (ExsAt.mono hle2 _ _ hx1) hs2 hx2) ?_
      refine r_nn ?_
      refine h_kept hG (by first | exact Ghost.le_refl _ | assumption) (by repeat' (first | exact List.nil_sublist _ | refine List.Sublist.cons_cons _ ?_ | refine List.Sublist.cons _ ?_)) ?_
      refine h_one 5 (by kernel_rfl) rfl ?_
      refine r_ev rfl rfl ?_; refine r_nn ?_
      refine h_kept hG (by first | exact Ghost.le_refl _ | assumption) (by repeat' (first | exact List.nil_sublist _ | refine List.Sublist.cons_cons _ ?_ | refine List.Sublist.cons _ ?_)) ?_
      refine h_done (by kernel_rfl) ?_
      refine r_shrink hE hle12 ?_
      refine r_then_normal ?_; refine r_retc ?_
      exact r_ret1 [] rfl rfl (by simp) ⟨rfl, rfl, rfl⟩
theorem Equal4_spec (g : Ghost) (a c : Ex) (u v : Value) (ha : sizeE a ≤ 1000000) (hc : sizeE c ≤ 1000000) (he : eraseE a = eraseE c) (hu : ExV g u a) (hv : ExV g v c) : Pure Tryz.prog 18 [u, v] g (.bool true) := Equal4_aux g _ g a c u v (Nat.lt_succ_self _) ha hc he hu hv
theorem sameAll_aux : ∀ (N : Nat) (g : Ghost) (a : Ex) (u v : Value), sizeE a < N → sizeE a ≤ 1000000 → ExV g u a → ExV g v a → Pure Tryz.prog 19 [u, v] g (.bool true)
  | 0, _, _, _, _, h, _, _, _ => by omega
  | N + 1, g, a, u, v, hN, ha, hu, hv => by
    have ih := sameAll_aux N
    have hcl := childE_len a
    have hcl2 : (childE a).length = a.kids.length + a.arms.length := by simp [childE]
    have hu0 := hu
    have hv0 := hv
    obtain ⟨a1, c1, a2, c2, a3, m3, c3, xk, xa, rfl, h1, h2, h3, h4, h5⟩ := hu.open
    obtain ⟨b1, d1, b2, d2, b3, n3, d3, yk, ya, rfl, g1, g2, g3, g4, g5⟩ := hv.open
    refine spec_of_run Tryz.func19 rfl Tryz.ntmps19 rfl fun E hE => ?_
    refine r_sr ?_
    refine r_box rfl rfl rfl (fun p2 => ?_)
    refine r_box rfl rfl rfl (fun p3 => ?_)
    refine r_ev rfl rfl ?_; refine r_nn ?_; refine r_seq ?_; refine r_sr ?_; refine r_loadB 1 rfl rfl rfl (by rfl) ?_; refine r_loadB 0 rfl rfl rfl (by rfl) ?_
    refine r_callP rfl rfl (Equal4_spec g a a _ _ ha ha rfl hu0 hv0) ?_
    refine r_ev rfl rfl ?_; refine r_ev rfl rfl ?_; refine r_take rfl ?_; refine r_fieldAddr rfl rfl ?_; refine r_take rfl ?_; refine r_loadB1 1 rfl rfl rfl rfl ?_; refine r_take rfl ?_; refine r_fieldAddr rfl rfl ?_; refine r_take rfl ?_; refine r_loadB1 0 rfl rfl rfl rfl ?_; refine r_tev rfl rfl rfl ?_; refine r_ev rfl rfl ?_; refine r_nn ?_
    refine r_cond rfl (fun h => absurd rfl h) (fun _ => ?_)
    refine r_skip ?_; refine r_then_normal ?_; refine r_seq ?_; refine r_sr ?_; refine r_ev rfl rfl ?_; refine r_nn ?_; refine r_block ?_
    refine r_loop (ι := Nat) (fun i => [(2, ptr p2 0), (3, ptr p3 0), (5, .int .i64 i)]) (fun _ => g) (fun _ => [.blk p3 34 [.int .i64 a.kind, .int .i64 a.pos, str a.name, .int .i64 a.num, .slice b1 a.kids.length d1, .slice b2 a.arms.length d2, .int .i64 a.ty.kind, str a.ty.name, .int .i64 a.ty.id, .int .i64 a.ty.home, .slice b3 n3 d3], .blk p2 34 [.int .i64 a.kind, .int .i64 a.pos, str a.name, .int .i64 a.num, .slice a1 a.kids.length c1, .slice a2 a.arms.length c2, .int .i64 a.ty.kind, str a.ty.name, .int .i64 a.ty.id, .int .i64 a.ty.home, .slice a3 m3 c3]]) (fun i => i ≤ a.arms.length) (fun i => a.arms.length - i) 0 (Nat.zero_le _) ⟨rfl, rfl, rfl, trivial⟩ rfl rfl ?_
    intro i hi
    refine r_seq ?_; refine r_sr ?_; refine r_ev rfl rfl ?_; refine r_fieldAddr rfl rfl ?_; refine r_loadB1 1 rfl rfl rfl rfl ?_; refine r_len_sl rfl rfl ?_; refine r_ev rfl rfl ?_; refine r_nn ?_
    refine r_cond rfl (fun hlt => ?_) (fun hlt => ?_)
    · have hlt' : i < a.arms.length := by omega
      obtain ⟨bb, off, cap, hsl, hxx⟩ := h3.held hlt'
      cases hsl
      obtain ⟨bb', off', cap', hsl', hyy⟩ := g3.held hlt'
      cases hsl'
      obtain ⟨sv, bc, hb1, _, hr⟩ := ars_rd (own := [.blk p3 34 [.int .i64 a.kind, .int .i64 a.pos, str a.name, .int .i64 a.num, .slice b1 a.kids.length d1, .slice (some ⟨bb', off', none⟩) a.arms.length d2, .int .i64 a.ty.kind, str a.ty.name, .int .i64 a.ty.id, .int .i64 a.ty.home, .slice b3 n3 d3], .blk p2 34 [.int .i64 a.kind, .int .i64 a.pos, str a.name, .int .i64 a.num, .slice a1 a.kids.length c1, .slice (some ⟨bb, off, none⟩) a.arms.length c2, .int .i64 a.ty.kind, str a.ty.name, .int .i64 a.ty.id, .int .i64 a.ty.home, .slice a3 m3 c3]]) h4 hxx hlt'
      obtain ⟨sv', bc', hb1', _, hr'⟩ := ars_rd (own := [.blk p3 34 [.int .i64 a.kind, .int .i64 a.pos, str a.name, .int .i64 a.num, .slice b1 a.kids.length d1, .slice (some ⟨bb', off', none⟩) a.arms.length d2, .int .i64 a.ty.kind, str a.ty.name, .int .i64 a.ty.id, .int .i64 a.ty.home, .slice b3 n3 d3], .blk p2 34 [.int .i64 a.kind, .int .i64 a.pos, str a.name, .int .i64 a.num, .slice a1 a.kids.length c1, .slice (some ⟨bb, off, none⟩) a.arms.length c2, .int .i64 a.ty.kind, str a.ty.name, .int .i64 a.ty.id, .int .i64 a.ty.home, .slice a3 m3 c3]]) g4 hyy hlt'
      refine r_skip ?_; refine r_then_normal ?_; refine r_seq ?_; refine r_block ?_; refine r_seq ?_
      refine r_qregion mixed (by kernel_rfl) ?_
      refine q_v rfl (val_fieldAddr rfl) ?_; refine q_v rfl (val_loadB1 1 rfl rfl rfl) ?_; refine q_ev rfl rfl ?_; refine q_v rfl (val_indexAddr rfl rfl rfl (by omega)) ?_; refine q_v rfl (val_fieldAddr rfl) ?_
      refine q_v rfl (val_load1 rfl (hr.at1 0 rfl)) ?_
      refine q_v rfl (val_fieldAddr rfl) ?_; refine q_v rfl (val_loadB1 0 rfl rfl rfl) ?_; refine q_ev rfl rfl ?_; refine q_v rfl (val_indexAddr rfl rfl rfl (by omega)) ?_; refine q_v rfl (val_fieldAddr rfl) ?_
      refine q_v rfl (val_load1 rfl (hr'.at1 0 rfl)) ?_
      refine q_ev rfl rfl ?_; refine q_end ?_; refine r_then_normal ?_
      refine r_cond rfl (fun h => absurd rfl h) (fun _ => ?_)
      refine r_skip ?_; refine r_in_normal ?_; refine r_then_normal ?_; refine r_region ?_; refine r_ev rfl rfl ?_; refine r_add rfl rfl rfl (by omega) ?_; refine r_ev rfl rfl ?_; refine r_nn ?_
      exact r_again (i + 1) (by omega) (by omega) ⟨rfl, rfl, rfl, trivial⟩ rfl rfl
    · refine r_exit ?_; refine r_then_exit ?_; refine r_then_exit ?_; refine r_in_exit ?_; refine r_then_normal ?_; refine r_seq ?_
      -- STOPA
      refine h_beginE [] mixed (fun hG => ?_)
      refine h_takeX 0 rfl (by kernel_rfl) rfl hG (by first | exact Ghost.le_refl _ | assumption) (by repeat' (first | exact List.nil_sublist _ | refine List.Sublist.cons_cons _ ?_ | refine List.Sublist.cons _ ?_)) ?_; refine ⟨_, (val_loadB 1 rfl rfl (by rfl)), ?_⟩
      refine h_takeX 2 rfl (by kernel_rfl) rfl hG (by first | exact Ghost.le_refl _ | assumption) (by repeat' (first | exact List.nil_sublist _ | refine List.Sublist.cons_cons _ ?_ | refine List.Sublist.cons _ ?_)) ?_; refine ⟨_, (val_loadB 0 rfl rfl (by rfl)), ?_⟩
      refine h_one 1 (by kernel_rfl) rfl ?_
      refine r_callN rfl rfl (Children_spec g _ a hu0 ha) ?_
      rintro w g1' ⟨xs, hs1, hx1⟩ hle1
      refine r_nn ?_
      refine h_kept hG (by first | exact Ghost.le_refl _ | assumption) (by repeat' (first | exact List.nil_sublist _ | refine List.Sublist.cons_cons _ ?_ | refine List.Sublist.cons _ ?_)) ?_
      refine h_one 3 (by kernel_rfl) rfl ?_
      refine r_callN rfl rfl (Children_spec g1' _ a (hv0.mono hle1) ha) ?_
      rintro w2 g2' ⟨ys, hs2, hx2⟩ hle2
      have hle12 := Ghost.le_trans hle1 hle2
      have hs1' := hs1.mono hle2
      have hx1' := ExsAt.mono hle2 _ _ hx1
      refine r_nn ?_
      refine h_kept hG (by first | exact Ghost.le_refl _ | assumption) (by repeat' (first | exact List.nil_sublist _ | refine List.Sublist.cons_cons _ ?_ | refine List.Sublist.cons _ ?_)) ?_
      refine h_one 4 (by kernel_rfl) rfl ?_
      refine r_ev rfl rfl ?_; refine r_nn ?_
      refine h_kept hG (by first | exact Ghost.le_refl _ | assumption) (by repeat' (first | exact List.nil_sublist _ | refine List.Sublist.cons_cons _ ?_ | refine List.Sublist.cons _ ?_)) ?_
      refine h_one 5 (by kernel_rfl) rfl ?_
      refine r_ev rfl rfl ?_; refine r_nn ?_
      refine h_kept hG (by first | exact Ghost.le_refl _ | assumption) (by repeat' (first | exact List.nil_sublist _ | refine List.Sublist.cons_cons _ ?_ | refine List.Sublist.cons _ ?_)) ?_
      refine h_done (by kernel_rfl) ?_
      refine r_then_normal ?_; refine r_seq ?_; refine r_sr ?_; refine r_ev rfl rfl ?_; refine r_nn ?_; refine r_block ?_
      refine r_drop (own' := []) (List.nil_sublist _) ?_
      refine r_loop (ι := Nat) (fun i => [(6, w), (7, w2), (8, .int .i64 i)]) (fun _ => g2') (fun _ => []) (fun i => i ≤ (childE a).length) (fun i => (childE a).length - i) 0 (Nat.zero_le _) ⟨rfl, rfl, rfl, trivial⟩ rfl rfl ?_
      intro i hi
      refine r_seq ?_; refine r_sr ?_; refine r_ev rfl rfl ?_; refine r_ev rfl rfl ?_; refine r_len_at rfl rfl (by assumption) ?_; refine r_ev rfl rfl ?_; refine r_nn ?_
      refine r_cond rfl (fun hlt => ?_) (fun hlt => ?_)
      · have hlt' : i < (childE a).length := by omega
        obtain ⟨b, off, cap, rfl, hxc⟩ := hs1'.held hlt'
        obtain ⟨b', off', cap', rfl, hyc⟩ := hs2.held hlt'
        obtain ⟨c, k1, hr1⟩ := exs_rd (own := []) hx1' hxc hlt'
        obtain ⟨c', k2, hr2⟩ := exs_rd (own := []) hx2 hyc hlt'
        refine r_skip ?_; refine r_then_normal ?_; refine r_seq ?_; refine r_block ?_; refine r_seq ?_
        refine r_qregion mixed (by kernel_rfl) ?_
        refine q_ev rfl rfl ?_; refine q_ev rfl rfl ?_; refine q_v rfl (val_indexAddr rfl rfl rfl (by omega)) ?_
        refine q_v rfl (val_load rfl hr1 k1.one.1) ?_
        refine q_ev rfl rfl ?_; refine q_ev rfl rfl ?_; refine q_v rfl (val_indexAddr rfl rfl rfl (by omega)) ?_
        refine q_v rfl (val_load rfl hr2 k2.one.1) ?_
        refine q_callP rfl rfl (ih g2' _ _ _ (by have := childE_size (List.getElem_mem hlt'); omega) (by have := childE_size (List.getElem_mem hlt'); omega) ⟨c, rfl, k1⟩ ⟨c', rfl, k2⟩) ?_
        refine q_ev rfl rfl ?_; refine q_end ?_; refine r_then_normal ?_; refine r_cond_false rfl ?_; refine r_skip ?_; refine r_in_normal ?_; refine r_then_normal ?_; refine r_region ?_; refine r_ev rfl rfl ?_; refine r_add rfl rfl rfl (by omega) ?_; refine r_ev rfl rfl ?_; refine r_nn ?_
        exact r_again (i + 1) (by omega) (by omega) ⟨rfl, rfl, rfl, trivial⟩ rfl rfl
      · refine r_shrink hE hle12 ?_
        refine r_exit ?_; refine r_then_exit ?_; refine r_then_exit ?_; refine r_in_exit ?_; refine r_then_normal ?_; refine r_sr ?_; refine r_ev rfl rfl ?_; refine r_nn ?_; refine r_retc ?_
        exact r_ret1 [] rfl rfl (by simp) ⟨rfl, rfl, rfl⟩
theorem sameAll_spec (g : Ghost) (a : Ex) (u v : Value) (ha : sizeE a ≤ 1000000) (hu : ExV g u a) (hv : ExV g v a) : Pure Tryz.prog 19 [u, v] g (.bool true) := sameAll_aux _ g a u v (Nat.lt_succ_self _) ha hu hv
end Go.Proofs.YtcapgcohhgjngaaGreatDoor
-- sum 3c6cb7710a29f47d
/- A row as a block: stores into a row. -/
namespace Go.Eng
open Go Go.RowKit
theorem splice_skip : ∀ (pre cs : List Value) (vs r : List Value), splice cs 0 vs = some r → splice (pre ++ cs) pre.length vs = some (pre ++ r)
  | [], cs, vs, r, h => h
  | p :: pre, cs, vs, r, h => by
    have ih := splice_skip pre cs vs r h
    cases vs with
    | nil =>
      have : some cs = some r := by cases cs <;> simpa [splice] using h
      cases this
      cases pre <;> simp [splice]
    | cons v vs =>
      simp only [List.cons_append, List.length_cons, splice, ih]
theorem splice_over : ∀ (old post vs : List Value), old.length = vs.length → splice (old ++ post) 0 vs = some (vs ++ post)
  | [], post, [], _ => by cases post <;> rfl
  | o :: old, post, v :: vs, h => by
    have ih := splice_over old post vs (by simpa using h)
    simp only [List.cons_append, splice, ih]
theorem splice_mid (pre old post vs : List Value) (off : Nat) (ho : off = pre.length) (h : old.length = vs.length) : splice (pre ++ (old ++ post)) off vs = some (pre ++ (vs ++ post)) := by
  subst ho
  exact splice_skip pre _ vs _ (splice_over old post vs h)
section
variable {E : Env} {n : Nat} {L : Slots} {g : Ghost} {own : List Res}
theorem r_rowBlk {X : Act → World → Prop} {T : TypeId} {size m b cap : Nat} {xs : List Value} (h : ∀ rest, m ≤ cap → cap ≤ maxLen → Run E n L g (.blk b T (xs ++ rest) :: own) X) :
    Run E n L g (.row T size (.slice (some ⟨b, 0, none⟩) m cap) m xs :: own) X := fun a w hF hI => by
  have hs : w.ownsRow 0 T size (.slice (some ⟨b, 0, none⟩) m cap) m xs := hI.1.sat (.row T size (.slice (some ⟨b, 0, none⟩) m cap) m xs) (by simp)
  obtain ⟨hl, hs⟩ := hs
  rcases hs with ⟨h0, _⟩ | ⟨b', cap', cur, h0, _, hg, hnc, hcm, hcs, htake⟩
  · cases h0
  · cases h0
    refine h (cur.toList.drop xs.length) hnc hcm a w hF ?_
    refine Inv.swap (pre := []) (r := .row T size (.slice (some ⟨b, 0, none⟩) m cap) m xs) (r' := .blk b T (xs ++ cur.toList.drop xs.length)) hI (Nat.le_refl _) rfl rfl rfl (fun _ _ _ => rfl) ?_ (by simp [Res.foot]) (fun k hk => .inr (by simpa [Res.foot, Value.ownBlock] using hk))
    show w.heap[b]? = _
    rw [hg]
    have : xs ++ cur.toList.drop xs.length = cur.toList := by
      conv => rhs; rw [← List.take_append_drop xs.length cur.toList]
      congr 1
      rw [hl]
      exact htake.symm
    rw [this]
theorem r_rowSome {X : Act → World → Prop} {T : TypeId} {size m : Nat} {v : Value} {xs : List Value} (i : Nat) (h : own[i]? = some (.row T size v m xs)) (hm : 0 < m) (k : (∃ b cap, v = .slice (some ⟨b, 0, none⟩) m cap) → Run E n L g own X) : Run E n L g own X := fun a w hF hI => by
  have hs : w.ownsRow 0 T size v m xs := sat_at hI h
  refine k ?_ a w hF hI
  rcases hs.2 with ⟨_, h0⟩ | ⟨b, cap, cur, rfl, _⟩
  · omega
  · exact ⟨_, _, rfl⟩
theorem r_rowLen {X : Act → World → Prop} {T : TypeId} {size m : Nat} {v : Value} {xs : List Value} (i : Nat) (h : own[i]? = some (.row T size v m xs)) (k : (∃ a c, v = .slice a m c) → Run E n L g own X) : Run E n L g own X := fun a w hF hI => by
  have hs : w.ownsRow 0 T size v m xs := sat_at hI h
  refine k ?_ a w hF hI
  rcases hs.2 with ⟨rfl, rfl⟩ | ⟨b, cap, cur, rfl, _⟩
  · exact ⟨_, _, rfl⟩
  · exact ⟨_, _, rfl⟩
theorem rd_blkAt {b off : Nat} {T : TypeId} {cs vs : List Value} (i : Nat) (h : own[i]? = some (.blk b T cs)) (hv : ∀ j x, vs[j]? = some x → cs[off + j]? = some x) : Rd g own b off vs := fun _ _ hI j x hx => blk_cell hI h (hv j x hx)
end
end Go.Eng
-- sum 197897c61d0796c5
/- Programs in plain words: declarations, bindings, programs, and what is read from tokens as one. No program in sight. -/
namespace Go.Th
structure Cn where
  pos : Int
  name : Bytes
  fields : List Ty
structure Da where
  pos : Int
  name : Bytes
  params : List Bytes
  cons : List Cn
structure Bi where
  pos : Int
  isRec : Bool
  name : Bytes
  hasSig : Bool
  sig : Ty
  body : Ex
structure Pg where
  datas : List Da
  binds : List Bi
def dataB : Bytes := [100, 97, 116, 97]
/-- The constructors from an index on, to the semicolon. -/
def consGo (l : List Tok) : Nat → List Cn → Nat → Except Int (List Cn × Nat)
  | 0, _, j => .error (failPos l j)
  | f + 1, acc, j => match nameAt l j 2 with
    | none => .error (failPos l j)
    | some c => match tread l (.args c []) (j + 1) with
      | .error p => .error p
      | .ok (t, k) => if markAt l k [124] then consGo l f (acc ++ [⟨posOf l j, c, t.args⟩]) (k + 1)
        else if markAt l k [59] then .ok (acc ++ [⟨posOf l j, c, t.args⟩], k + 1) else .error (failPos l k)
theorem consGo_fuel (l : List Tok) : ∀ (f f' : Nat) (acc : List Cn) (j : Nat), l.length < j + f → l.length < j + f' → consGo l f acc j = consGo l f' acc j
  | 0, 0, _, _, _, _ => rfl
  | 0, f' + 1, acc, j, h, _ => by
    have : nameAt l j 2 = none := by unfold nameAt; rw [List.getElem?_eq_none (by omega)]
    simp only [consGo, this]
  | f + 1, 0, acc, j, _, h => by
    have : nameAt l j 2 = none := by unfold nameAt; rw [List.getElem?_eq_none (by omega)]
    simp only [consGo, this]
  | f + 1, f' + 1, acc, j, h, h' => by
    simp only [consGo]
    cases nameAt l j 2 with
    | none => rfl
    | some c =>
      simp only
      cases hq : tread l (.args c []) (j + 1) with
      | error p => rfl
      | ok q =>
        obtain ⟨t, k⟩ := q
        have := tread_prog l _ _ _ _ (Nat.lt_succ_self _) hq
        simp only at this ⊢
        rw [consGo_fuel l f f' _ (k + 1) (by omega) (by omega)]
def consR (l : List Tok) (acc : List Cn) (j : Nat) : Except Int (List Cn × Nat) := consGo l (l.length + 1 - j) acc j
theorem consR_eq (l : List Tok) (acc : List Cn) (j : Nat) : consR l acc j = match nameAt l j 2 with
    | none => .error (failPos l j)
    | some c => match tread l (.args c []) (j + 1) with
      | .error p => .error p
      | .ok (t, k) => if markAt l k [124] then consR l (acc ++ [⟨posOf l j, c, t.args⟩]) (k + 1)
        else if markAt l k [59] then .ok (acc ++ [⟨posOf l j, c, t.args⟩], k + 1) else .error (failPos l k) := by
  unfold consR
  rw [consGo_fuel l (l.length + 1 - j) ((l.length + 1) + 1) acc j (by omega) (by omega)]
  show (match nameAt l j 2 with
    | none => _
    | some c => _) = _
  cases nameAt l j 2 with
  | none => rfl
  | some c =>
    simp only
    cases hq : tread l (.args c []) (j + 1) with
    | error p => rfl
    | ok q =>
      obtain ⟨t, k⟩ := q
      simp only
      rw [consGo_fuel l (l.length + 1) (l.length + 1 - (k + 1)) _ (k + 1) (by omega) (by omega)]
/-- A declaration of data. -/
def declR (l : List Tok) (i : Nat) : Except Int (Da × Nat) :=
  if wordAt l i dataB then match nameAt l (i + 1) 2 with
    | none => .error (failPos l (i + 1))
    | some n => if markAt l (i + 2 + (lowers (l.drop (i + 2))).length) [61] then match consR l [] (i + 2 + (lowers (l.drop (i + 2))).length + 1) with
        | .error p => .error p
        | .ok (cs, k) => .ok (⟨posOf l i, n, lowers (l.drop (i + 2)), cs⟩, k)
      else .error (failPos l (i + 2 + (lowers (l.drop (i + 2))).length))
  else .error (failPos l i)
/-- What stands behind a binding's name and type. -/
def bodyR (l : List Tok) (mk : Ex → Bi) (k : Nat) : Except Int (Bi × Nat) :=
  if markAt l k [61] then match eread l .expr (k + 1) with
    | .error p => .error p
    | .ok (e, m) => if markAt l m [59] then .ok (mk e, m + 1) else .error (failPos l m)
  else .error (failPos l k)
def sigR (l : List Tok) (pos : Int) (r : Bool) (j : Nat) : Except Int (Bi × Nat) := match nameAt l j 1 with
  | none => .error (failPos l j)
  | some n => if markAt l (j + 1) [58] then match tread l .whole (j + 2) with
      | .error p => .error p
      | .ok (t, k) => bodyR l (fun e => ⟨pos, r, n, true, t, e⟩) k
    else bodyR l (fun e => ⟨pos, r, n, false, noT, e⟩) (j + 1)
/-- A binding. -/
def bindR (l : List Tok) (i : Nat) : Except Int (Bi × Nat) :=
  if wordAt l i letB then (if wordAt l (i + 1) recB then sigR l (posOf l i) true (i + 2) else sigR l (posOf l i) false (i + 1)) else .error (failPos l i)
theorem consGo_bnd (l : List Tok) : ∀ (f : Nat) (acc : List Cn) (j : Nat) (x : List Cn × Nat), consGo l f acc j = .ok x → j < x.2 ∧ x.2 ≤ l.length
  | 0, _, _, _, h => by cases h
  | f + 1, acc, j, x, h => by
    simp only [consGo] at h
    split at h
    · cases h
    · split at h
      · cases h
      · rename_i c hc t k hq
        have h1 := tread_prog l _ _ _ _ (Nat.lt_succ_self _) hq
        simp only at h1
        split at h
        · have := consGo_bnd l f _ _ _ h; omega
        · split at h
          · rename_i hm
            have := tokAt_lt hm
            cases h
            simp only; omega
          · cases h
theorem declR_bnd {l : List Tok} {i : Nat} {d : Da} {j : Nat} (h : declR l i = .ok (d, j)) : i < j ∧ j ≤ l.length := by
  unfold declR at h
  split at h
  · split at h
    · cases h
    · split at h
      · split at h
        · cases h
        · rename_i cs k hq
          have := consGo_bnd l _ _ _ _ hq
          cases h
          simp only at this; omega
      · cases h
  · cases h
theorem bodyR_bnd {l : List Tok} {mk : Ex → Bi} {i : Nat} {d : Bi} {j : Nat} (h : bodyR l mk i = .ok (d, j)) : i < j ∧ j ≤ l.length := by
  unfold bodyR at h
  split at h
  · split at h
    · cases h
    · rename_i e m hq
      have := eread_le hq
      split at h
      · rename_i hm
        have := tokAt_lt hm
        cases h; omega
      · cases h
  · cases h
theorem sigR_bnd {l : List Tok} {p : Int} {r : Bool} {i : Nat} {d : Bi} {j : Nat} (h : sigR l p r i = .ok (d, j)) : i < j ∧ j ≤ l.length := by
  unfold sigR at h
  split at h
  · cases h
  · split at h
    · split at h
      · cases h
      · rename_i t k hq
        have h1 := tread_prog l _ _ _ _ (Nat.lt_succ_self _) hq
        have h2 := bodyR_bnd h
        simp only at h1; omega
    · have h2 := bodyR_bnd h; omega
theorem bindR_bnd {l : List Tok} {i : Nat} {d : Bi} {j : Nat} (h : bindR l i = .ok (d, j)) : i < j ∧ j ≤ l.length := by
  unfold bindR at h
  split at h
  · split at h
    · have h2 := sigR_bnd h; omega
    · have h2 := sigR_bnd h; omega
  · cases h
/-- The declarations and bindings from an index on. -/
def progGo (l : List Tok) : Nat → Pg → Nat → Except Int Pg
  | 0, p, _ => .ok p
  | f + 1, p, i => if i < l.length then (if wordAt l i dataB then match declR l i with
        | .error q => .error q
        | .ok (d, j) => progGo l f ⟨p.datas ++ [d], p.binds⟩ j
      else match bindR l i with
        | .error q => .error q
        | .ok (b, j) => progGo l f ⟨p.datas, p.binds ++ [b]⟩ j) else .ok p
theorem progGo_fuel (l : List Tok) : ∀ (f f' : Nat) (p : Pg) (i : Nat), l.length ≤ i + f → l.length ≤ i + f' → progGo l f p i = progGo l f' p i
  | 0, 0, _, _, _, _ => rfl
  | 0, f' + 1, p, i, h, _ => by simp only [progGo]; rw [if_neg (by omega)]
  | f + 1, 0, p, i, _, h => by simp only [progGo]; rw [if_neg (by omega)]
  | f + 1, f' + 1, p, i, h, h' => by
    simp only [progGo]
    split
    · split
      · cases hq : declR l i with
        | error q => rfl
        | ok x =>
          obtain ⟨d, j⟩ := x
          have := declR_bnd hq
          simp only
          exact progGo_fuel l f f' _ _ (by omega) (by omega)
      · cases hq : bindR l i with
        | error q => rfl
        | ok x =>
          obtain ⟨d, j⟩ := x
          have := bindR_bnd hq
          simp only
          exact progGo_fuel l f f' _ _ (by omega) (by omega)
    · rfl
def progR (l : List Tok) (p : Pg) (i : Nat) : Except Int Pg := progGo l (l.length - i) p i
theorem progR_eq (l : List Tok) (p : Pg) (i : Nat) : progR l p i = if i < l.length then (if wordAt l i dataB then match declR l i with
        | .error q => .error q
        | .ok (d, j) => progR l ⟨p.datas ++ [d], p.binds⟩ j
      else match bindR l i with
        | .error q => .error q
        | .ok (b, j) => progR l ⟨p.datas, p.binds ++ [b]⟩ j) else .ok p := by
  unfold progR
  rw [progGo_fuel l (l.length - i) (l.length + 1) p i (by omega) (by omega)]
  simp only [progGo]
  split
  · split
    · cases hq : declR l i with
      | error q => rfl
      | ok x =>
        obtain ⟨d, j⟩ := x
        simp only
        exact progGo_fuel l _ _ _ _ (by omega) (by omega)
    · cases hq : bindR l i with
      | error q => rfl
      | ok x =>
        obtain ⟨d, j⟩ := x
        simp only
        exact progGo_fuel l _ _ _ _ (by omega) (by omega)
  · rfl
end Go.Th
-- sum 792b6ade2bb218ac
/- Declarations, bindings and programs in memory. -/
namespace Go.Proofs.YtcapgcohhgjngaaGreatDoor
open Go Go.Eng Go.Th Go.Proofs
/-- A constructor's cells. -/
def CnAt (g : Ghost) (c : Cn) (cs : List Value) : Prop := ∃ sf xf, cs = [.int .i64 c.pos, str c.name, sf] ∧ SlAt g 5 sf c.fields.length xf ∧ TysAt g c.fields xf
def DaAt (g : Ghost) (d : Da) (cs : List Value) : Prop := ∃ sp sc xc, cs = [.int .i64 d.pos, str d.name, sp, sc] ∧ SlAt g 1 sp d.params.length (d.params.map str) ∧ SlAt g 3 sc d.cons.length xc ∧ AllAt (CnAt g) d.cons xc
def BiAt (g : Ghost) (x : Bi) (cs : List Value) : Prop := ∃ tc ec, cs = [.int .i64 x.pos, .bool x.isRec, str x.name, .bool x.hasSig] ++ (tc ++ ec) ∧ TyAt g x.sig tc ∧ ExAt g x.body ec
def PgAt (g : Ghost) (p : Pg) (cs : List Value) : Prop := ∃ sd xd sb xb, cs = [sd, sb] ∧ SlAt g 4 sd p.datas.length xd ∧ AllAt (DaAt g) p.datas xd ∧ SlAt g 20 sb p.binds.length xb ∧ AllAt (BiAt g) p.binds xb
theorem CnAt.mono {g g' : Ghost} (hle : Ghost.le g g') {c : Cn} {cs : List Value} (h : CnAt g c cs) : CnAt g' c cs := by
  obtain ⟨sf, xf, h1, h2, h3⟩ := h
  exact ⟨sf, xf, h1, h2.mono hle, h3.mono hle⟩
theorem cns_mono {g g' : Ghost} (hle : Ghost.le g g') {l : List Cn} {xs : List Value} (h : AllAt (CnAt g) l xs) : AllAt (CnAt g') l xs := AllAt.mono (fun _ _ h => h.mono hle) h
theorem DaAt.mono {g g' : Ghost} (hle : Ghost.le g g') {d : Da} {cs : List Value} (h : DaAt g d cs) : DaAt g' d cs := by
  obtain ⟨sp, sc, xc, h1, h2, h3, h4⟩ := h
  exact ⟨sp, sc, xc, h1, h2.mono hle, h3.mono hle, cns_mono hle h4⟩
theorem das_mono {g g' : Ghost} (hle : Ghost.le g g') {l : List Da} {xs : List Value} (h : AllAt (DaAt g) l xs) : AllAt (DaAt g') l xs := AllAt.mono (fun _ _ h => h.mono hle) h
theorem BiAt.mono {g g' : Ghost} (hle : Ghost.le g g') {d : Bi} {cs : List Value} (h : BiAt g d cs) : BiAt g' d cs := by
  obtain ⟨tc, ec, h1, h2, h3⟩ := h
  exact ⟨tc, ec, h1, h2.mono hle, h3.mono hle⟩
theorem bis_mono {g g' : Ghost} (hle : Ghost.le g g') {l : List Bi} {xs : List Value} (h : AllAt (BiAt g) l xs) : AllAt (BiAt g') l xs := AllAt.mono (fun _ _ h => h.mono hle) h
theorem PgAt.mono {g g' : Ghost} (hle : Ghost.le g g') {p : Pg} {cs : List Value} (h : PgAt g p cs) : PgAt g' p cs := by
  obtain ⟨sd, xd, sb, xb, h1, h2, h3, h4, h5⟩ := h
  exact ⟨sd, xd, sb, xb, h1, h2.mono hle, das_mono hle h3, h4.mono hle, bis_mono hle h5⟩
theorem CnAt.one {g : Ghost} {c : Cn} {cs : List Value} (h : CnAt g c cs) : cs.length = 3 ∧ ∀ u ∈ cs, oneC u = true := by
  obtain ⟨sf, xf, rfl, h2, h3⟩ := h
  obtain ⟨a, m, k, rfl⟩ := SlAt.form h2
  exact ⟨rfl, by simp [oneC]⟩
theorem DaAt.one {g : Ghost} {c : Da} {cs : List Value} (h : DaAt g c cs) : cs.length = 4 ∧ ∀ u ∈ cs, oneC u = true := by
  obtain ⟨sp, sc, xc, rfl, h2, h3, h4⟩ := h
  obtain ⟨a, m, k, rfl⟩ := SlAt.form h2
  obtain ⟨a', m', k', rfl⟩ := SlAt.form h3
  exact ⟨rfl, by simp [oneC]⟩
theorem BiAt.one {g : Ghost} {c : Bi} {cs : List Value} (h : BiAt g c cs) : cs.length = 20 ∧ ∀ u ∈ cs, oneC u = true := by
  obtain ⟨tc, ec, rfl, h2, h3⟩ := h
  have h4 := h2.one
  have h5 := h3.one
  refine ⟨by simp [h4.1, h5.1], fun u hu => ?_⟩
  rcases List.mem_append.1 hu with hu | hu
  · simp only [List.mem_cons, List.not_mem_nil, or_false] at hu
    rcases hu with rfl | rfl | rfl | rfl <;> rfl
  · rcases List.mem_append.1 hu with hu | hu
    · exact h4.2 u hu
    · exact h5.2 u hu
def DaV (g : Ghost) (v : Value) (d : Da) : Prop := ∃ cs, v = .agg cs.toArray ∧ DaAt g d cs
def BiV (g : Ghost) (v : Value) (x : Bi) : Prop := ∃ cs, v = .agg cs.toArray ∧ BiAt g x cs
def PgV (g : Ghost) (v : Value) (x : Pg) : Prop := ∃ cs, v = .agg cs.toArray ∧ PgAt g x cs
theorem DaAt.form {g : Ghost} {d : Da} {cs : List Value} (h : DaAt g d cs) : ∃ (a1 : Option Addr) (c1 : Nat) (a2 : Option Addr) (c2 : Nat) (xc : List Value), cs = [.int .i64 d.pos, str d.name, .slice a1 d.params.length c1, .slice a2 d.cons.length c2] ∧
    SlAt g 1 (.slice a1 d.params.length c1) d.params.length (d.params.map str) ∧ SlAt g 3 (.slice a2 d.cons.length c2) d.cons.length xc ∧ AllAt (CnAt g) d.cons xc := by
  obtain ⟨sp, sc, xc, rfl, h2, h3, h4⟩ := h
  have f : ∀ {size n : Nat} {v : Value} {xs : List Value}, SlAt g size v n xs → ∃ a c, v = .slice a n c := by
    intro size n v xs h
    rcases h.2 with ⟨⟨a, c, rfl⟩, h0⟩ | ⟨b, off, cap, rfl, _⟩
    · exact ⟨_, _, by rw [h0]⟩
    · exact ⟨_, _, rfl⟩
  obtain ⟨a1, c1, rfl⟩ := f h2
  obtain ⟨a2, c2, rfl⟩ := f h3
  exact ⟨a1, c1, a2, c2, xc, rfl, h2, h3, h4⟩
end Go.Proofs.YtcapgcohhgjngaaGreatDoor
-- sum e3d406f7f7374c19

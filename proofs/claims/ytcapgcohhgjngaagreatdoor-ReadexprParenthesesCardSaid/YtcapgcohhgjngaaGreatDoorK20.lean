/- The walks of chapter 6's laws: the sanity check; ReadexprStarts. -/
import Derived.Test.YtcapgcohhgjngaaGreatDoorK19
import Derived.Test.YtcapgcohhgjngaaGreatDoorK17
import Derived.Test.YtcapgcohhgjngaaGreatDoorK15
namespace Go.Proofs.YtcapgcohhgjngaaGreatDoor
open Go Go.Eng Go.Th Go.Proofs
set_option maxRecDepth 10000
set_option maxHeartbeats 4000000
attribute [local irreducible] wpList Code.wp Run bodyPost Go.Eng.Ends Exit.then Exit.inBlock Again Wq Kq
def ey1 : Bytes := [102, 32, 120, 32, 40, 32, 92, 32, 121, 32, 46, 32, 121, 32, 41]
def ey2 : Bytes := [92, 32, 120, 32, 120]
def eyE : Ex := kidsE 5 0 [] [kidsE 5 0 [] [leafE 1 0 [102] 0, leafE 1 2 [120] 0], kidsE 4 6 [121] [leafE 1 12 [121] 0]]
theorem ey1_read : eread (toksOf ey1) .expr (idxOf (toksOf ey1).length 0) = .ok (eyE, 8) := by kernel_rfl
theorem ey2_read : eread (toksOf ey2) .expr (idxOf (toksOf ey2).length 0) = .error 4 := by kernel_rfl
theorem eans_ok {t : Ex} {j : Nat} {v : Value} {g' : Ghost} (h : eansPost (.ok (t, j)) v g') : ∃ tv, v = .tuple #[tv, .int .i64 j, .agg #[.int .i64 0, .int .i64 0]] ∧ ExV g' tv t := h
theorem eans_err {p : Int} {v : Value} {g' : Ghost} (h : eansPost (.error p) v g') : ∃ tv, v = .tuple #[tv, .int .i64 0, .agg #[.int .i64 3, .int .i64 p]] ∧ ExV g' tv noE := h
theorem exs_rdA {g : Ghost} {ks : List Ex} {xa : List Value} {b off : Nat} (ht : ExsAt g ks xa) (hx : ∀ k x, xa[k]? = some x → g b (off + k) = some x) {i : Nat} (h : i < ks.length) :
    ∃ c, ExAt g ks[i] c ∧ ∀ own, Rd g own b (off + i * 11) c := by
  obtain ⟨c, h1, h2⟩ := AllAt.get (fun _ _ h => h.one.1) (exs_all.1 ht) i h
  exact ⟨c, h1, fun own => rd_g fun j x hj => by rw [Nat.add_assoc]; exact hx _ _ (h2 j x hj)⟩
theorem first6_spec (g : Ghost) (hg : ErrT g) : SpecN Tryz.prog 9 [] g fun v _ => v = .bool true := by
  refine spec_of_run Tryz.func9 rfl Tryz.ntmps9 rfl fun E hE => ?_
  refine r_sr ?_
  refine r_ev rfl rfl ?_; refine r_nn ?_; refine r_sr ?_
  refine r_callN rfl rfl (scan6_spec g ey1 (by decide)) ?_
  rintro w g1 hw hle1
  have hg1 := hg.mono hle1
  skip
  refine r_callN rfl rfl (eExpr_spec (toksOf_TB ey1) (toksOf_KW ey1) g1 hg1 w 0 hw) ?_
  rw [ey1_read]
  rintro _ g2 hans hle2
  obtain ⟨tv, rfl, hty⟩ := eans_ok hans
  have hg2 := hg1.mono hle2
  obtain ⟨a1, c1, a2, c2, a3, m3, c3, xk, xa, rfl, h1, h2, h3, h4, h5⟩ := hty.open
  refine r_ev rfl rfl ?_; refine r_ev rfl rfl ?_; refine r_ev rfl rfl ?_; refine r_ev rfl rfl ?_
  refine r_alloc rfl (fun b1 => ?_)
  skip
  refine r_alloc rfl (fun b3 => ?_)
  refine r_storeA 1 rfl rfl rfl rfl (by rfl) (by repeat' (first | exact rfl | assumption | refine all_cons ?_ ?_)) rfl ?_; refine r_ev rfl rfl ?_; refine r_storeA 0 rfl rfl rfl rfl (by rfl) (by repeat' (first | exact rfl | assumption | refine all_cons ?_ ?_)) rfl ?_; refine r_nn ?_; refine r_sr ?_
  refine r_callN rfl rfl (scan6_spec g2 ey2 (by decide)) ?_
  rintro w2 g3 hw2 hle3
  have hg3 := hg2.mono hle3
  skip
  refine r_callN rfl rfl (eExpr_spec (toksOf_TB ey2) (toksOf_KW ey2) g3 hg3 w2 0 hw2) ?_
  rw [ey2_read]
  rintro _ g4 hans2 hle4
  obtain ⟨tv2, rfl, hty2⟩ := eans_err hans2
  obtain ⟨b1', d1, b2', d2, b3', n3, d3, yk, ya, rfl, g1', g2', g3', g4', g5'⟩ := hty2.open
  refine r_ev rfl rfl ?_; refine r_ev rfl rfl ?_; refine r_ev rfl rfl ?_; refine r_ev rfl rfl ?_
  refine r_alloc rfl (fun b4 => ?_)
  skip
  refine r_alloc rfl (fun b6 => ?_)
  refine r_storeA 1 rfl rfl rfl rfl (by rfl) (by repeat' (first | exact rfl | assumption | refine all_cons ?_ ?_)) rfl ?_; refine r_ev rfl rfl ?_; refine r_storeA 0 rfl rfl rfl rfl (by rfl) (by repeat' (first | exact rfl | assumption | refine all_cons ?_ ?_)) rfl ?_; refine r_nn ?_; refine r_sr ?_; refine r_fieldAddr rfl rfl ?_; refine r_loadB1 2 rfl rfl rfl rfl ?_; refine r_ev rfl rfl ?_; refine r_ev rfl rfl ?_; refine r_tev rfl rfl rfl ?_; refine r_tev rfl rfl rfl ?_; refine r_ev rfl rfl ?_; refine r_ev rfl rfl ?_; refine r_take rfl ?_; refine r_fieldAddr rfl rfl ?_; refine r_take rfl ?_; refine r_loadB1 3 rfl rfl rfl rfl ?_; refine r_tev rfl rfl rfl ?_; refine r_ev rfl rfl ?_; refine r_ev rfl rfl ?_; refine r_take rfl ?_; refine r_fieldAddr rfl rfl ?_; refine r_take rfl ?_; refine r_loadB1 3 rfl rfl rfl rfl ?_; refine r_take rfl ?_; refine r_len_sl rfl rfl ?_; refine r_tev rfl rfl rfl ?_; refine r_ev rfl rfl ?_; refine r_ev rfl rfl ?_; refine r_take rfl ?_; refine r_fieldAddr rfl rfl ?_; refine r_take rfl ?_; refine r_loadB1 3 rfl rfl rfl rfl ?_; refine r_take rfl ?_
  have h1' := (h1.mono hle3).mono hle4
  have h2' := ExsAt.mono hle4 _ _ (ExsAt.mono hle3 _ _ h2)
  obtain ⟨b, off, cap, hsl, hxc⟩ := h1'.held (show 0 < eyE.kids.length by decide)
  cases hsl
  obtain ⟨k0, e0, r0⟩ := exs_rdA h2' hxc (show 0 < eyE.kids.length by decide)
  obtain ⟨k1, e1, r1⟩ := exs_rdA h2' hxc (show 1 < eyE.kids.length by decide)
  obtain ⟨q1, o1, p1, q2, o2, p2, q3, o3, p3, _, _, rfl, _⟩ := e0.form
  obtain ⟨q1', o1', p1', q2', o2', p2', q3', o3', p3', _, _, rfl, _⟩ := e1.form
  skip
  refine r_indexAddr (j := 0) rfl rfl rfl rfl (by decide) ?_
  refine r_take rfl ?_; refine r_fieldAddr rfl rfl ?_; refine r_take rfl ?_
  refine r_load1 rfl rfl (v := .int .i64 5) ((r0 _).at1 0 rfl) ?_
  refine r_tev rfl rfl rfl ?_; refine r_ev rfl rfl ?_; refine r_ev rfl rfl ?_; refine r_take rfl ?_; refine r_fieldAddr rfl rfl ?_; refine r_take rfl ?_; refine r_loadB1 3 rfl rfl rfl rfl ?_; refine r_take rfl ?_
  refine r_indexAddr (j := 1) rfl rfl rfl rfl (by decide) ?_
  refine r_take rfl ?_; refine r_fieldAddr rfl rfl ?_; refine r_take rfl ?_
  refine r_load1 rfl rfl (v := .int .i64 4) ((r1 _).at1 0 rfl) ?_
  refine r_tev rfl rfl rfl ?_; refine r_ev rfl rfl ?_; refine r_ev rfl rfl ?_; refine r_take rfl ?_; refine r_fieldAddr rfl rfl ?_; refine r_take rfl ?_; refine r_loadB1 0 rfl rfl rfl rfl ?_; refine r_tev rfl rfl rfl ?_; refine r_ev rfl rfl ?_; refine r_ev rfl rfl ?_; refine r_take rfl ?_; refine r_fieldAddr rfl rfl ?_; refine r_take rfl ?_; refine r_loadB1 0 rfl rfl rfl rfl ?_; refine r_tev rfl rfl rfl ?_; refine r_ev rfl rfl ?_; refine r_ev rfl rfl ?_; refine r_nn ?_; refine r_retc ?_
  exact r_ret1 [] rfl rfl (by simp) ⟨rfl, rfl⟩
end Go.Proofs.YtcapgcohhgjngaaGreatDoor
-- sum d22a06953772d895

/- The walk of ReadexprAny. -/
namespace Go.Th
theorem let_bnd {l : List Tok} {f : EQ → Nat → ER} {k p : Int} {i : Nat} {e : Ex} {j : Nat} (hf : ∀ q i e j, i ≤ l.length → f q i = .ok (e, j) → j ≤ l.length) (h : letStep l f k p i = .ok (e, j)) : j ≤ l.length := by
  unfold letStep at h
  split at h
  · cases h
  · split at h
    · rename_i hm
      have hi := tokAt_lt hm
      split at h
      · cases h
      · rename_i a k1 h1
        have i1 := hf _ _ _ _ hi h1
        split at h
        · rename_i hw
          have hi2 := tokAt_lt hw
          split at h
          · cases h
          · rename_i b m h2
            have i2 := hf _ _ _ _ hi2 h2
            cases h
            exact i2
        · cases h
    · cases h
theorem eread_bnd (l : List Tok) : ∀ (N : Nat) (q : EQ) (i : Nat) (e : Ex) (j : Nat), emu l q i < N → i ≤ l.length → eread l q i = .ok (e, j) → j ≤ l.length
  | 0, _, _, _, _, h, _, _ => by omega
  | N + 1, q, i, e, j, hN, hi, h => by
    have ih := eread_bnd l N
    rw [eread_eq] at h
    have hf : ∀ q' i' e' j', i' ≤ l.length → ecall l (eread l) q i q' i' = .ok (e', j') → j' ≤ l.length := fun q' i' e' j' hi' hc => by
      obtain ⟨h1, h2⟩ := ecall_ok hc
      exact ih q' i' e' j' (by omega) hi' h2
    cases q with
    | expr =>
      simp only [estep] at h
      split at h
      · split at h
        · cases h
        · split at h
          · rename_i hm
            have := tokAt_lt hm
            split at h
            · cases h
            · rename_i b k h1
              have i1 := hf _ _ _ _ this h1
              cases h; exact i1
          · cases h
      · split at h
        · rename_i hm
          have h0 := tokAt_lt hm
          split at h
          · exact let_bnd hf h
          · exact let_bnd hf h
        · split at h
          · rename_i hm
            have h0 := tokAt_lt hm
            split at h
            · cases h
            · rename_i e1 j1 h1
              split at h
              · rename_i hw
                exact hf _ _ _ _ (tokAt_lt hw) h
              · cases h
          · split at h
            · cases h
            · rename_i e1 j1 h1
              exact hf _ _ _ _ (hf _ _ _ _ hi h1) h
    | apps x =>
      simp only [estep] at h
      split at h
      · split at h
        · cases h
        · rename_i a j1 h1
          exact hf _ _ _ _ (hf _ _ _ _ hi h1) h
      · cases h; exact hi
    | arms p x acc =>
      simp only [estep] at h
      split at h
      · cases h
      · split at h
        · rename_i hm
          have h0 := tokAt_lt hm
          split at h
          · cases h
          · rename_i b m h1
            split at h
            · rename_i hw
              exact hf _ _ _ _ (tokAt_lt hw) h
            · split at h
              · rename_i hw
                cases h
                exact tokAt_lt hw
              · cases h
        · cases h
    | atom =>
      simp only [estep] at h
      split at h
      · cases h
      · rename_i t ht
        have h0 := (List.getElem?_eq_some_iff.1 ht).1
        split at h
        · cases h; exact h0
        · split at h
          · cases h; exact h0
          · split at h
            · cases h; exact h0
            · split at h
              · cases h; exact h0
              · split at h
                · split at h
                  · cases h
                  · rename_i x1 j1 h1
                    split at h
                    · rename_i hw
                      cases h; exact tokAt_lt hw
                    · cases h
                · split at h
                  · split at h
                    · cases h
                    · rename_i x1 j1 h1
                      split at h
                      · split at h
                        · cases h
                        · rename_i y k h2
                          split at h
                          · rename_i hw
                            cases h; exact tokAt_lt hw
                          · cases h
                      · split at h
                        · rename_i hw
                          cases h; exact tokAt_lt hw
                        · cases h
                  · cases h
end Go.Th
namespace Go.Proofs.YtcapgcohhgjngaaGreatDoor
open Go Go.Eng Go.Th Go.Proofs
set_option maxRecDepth 10000
set_option maxHeartbeats 4000000
attribute [local irreducible] wpList Code.wp Run bodyPost Go.Eng.Ends Exit.then Exit.inBlock Again Wq Kq
theorem idxOf_le (n : Nat) (i : Int) : idxOf n i ≤ n := by unfold idxOf; split <;> omega
theorem eans_size {l : List Tok} {k : Nat} (hk : k ≤ l.length) (hl : l.length ≤ 400000) : sizeE (eansT (eread l .expr k)) ≤ 1000000 ∧ sizeE (eansT (eread l .atom k)) ≤ 1000000 := by
  have hno : sizeE noE = 1 := by simp [noE, sizeE, sizeEs, sizeAs]
  constructor
  · cases h : eread l .expr k with
    | error p => simp only [eansT, hno]; omega
    | ok q =>
      obtain ⟨e, j⟩ := q
      have h1 := eread_size l _ .expr k e j (Nat.lt_succ_self _) h
      have h2 := eread_bnd l _ .expr k e j (Nat.lt_succ_self _) hk h
      simp only [eansT] at h1 ⊢
      omega
  · cases h : eread l .atom k with
    | error p => simp only [eansT, hno]; omega
    | ok q =>
      obtain ⟨e, j⟩ := q
      have h1 := eread_size l _ .atom k e j (Nat.lt_succ_self _) h
      have h2 := eread_bnd l _ .atom k e j (Nat.lt_succ_self _) hk h
      simp only [eansT] at h1 ⊢
      omega
end Go.Proofs.YtcapgcohhgjngaaGreatDoor
-- sum 26ef9dda96160e63
/- Texts of expressions: the walk of typedholesref8.Expr at a case. -/
namespace Go.Th
theorem showMore_app : ∀ (x y : List Ar), showMore (x ++ y) = showMore x ++ showMore y
  | [], y => by simp [showMore]
  | a :: x, y => by simp only [List.cons_append, showMore, showMore_app x y]; simp
def barS (i : Nat) : Bytes := if 0 < i then [32, 124, 32] else []
theorem showArms_succ {aa : List Ar} {i : Nat} (h : i < aa.length) : showArms (aa.take (i + 1)) = showArms (aa.take i) ++ (barS i ++ showAr aa[i]) := by
  rw [List.take_succ_eq_append_getElem h]
  cases i with
  | zero => simp [showArms, showMore, barS]
  | succ i =>
    cases aa with
    | nil => simp at h
    | cons a r =>
      have h' : i < r.length := by simpa using h
      have e : (a :: r).take (i + 1) = a :: r.take i := rfl
      rw [e]
      simp only [List.cons_append, showArms, showMore_app, List.getElem_cons_succ]
      simp [showMore, barS]
theorem showArms_take (aa : List Ar) (i : Nat) : (showArms (aa.take i)).length ≤ (showArms aa).length := by
  cases aa with
  | nil => simp
  | cons a r =>
    cases i with
    | zero => simp [showArms]
    | succ i =>
      have := congrArg List.length (showMore_app (r.take i) (r.drop i))
      rw [List.take_append_drop, List.length_append] at this
      simp only [List.take_succ_cons, showArms, List.length_append]
      omega
theorem showVars_succ {vs : List Bytes} {k : Nat} (h : k < vs.length) : showVars (vs.take (k + 1)) = showVars (vs.take k) ++ (32 :: vs[k]) := by
  rw [List.take_succ_eq_append_getElem h]
  unfold showVars
  rw [List.flatMap_append]
  simp
theorem showVars_take (vs : List Bytes) (k : Nat) : (showVars (vs.take k)).length ≤ (showVars vs).length := by
  have : showVars vs = showVars (vs.take k) ++ showVars (vs.drop k) := by
    unfold showVars
    rw [← List.flatMap_append, List.take_append_drop]
  rw [this, List.length_append]
  omega
theorem showAr_eq (a : Ar) : showAr a = a.con ++ (showVars a.vars ++ ([46, 32] ++ showE a.body)) := by
  cases a; simp [showAr, Ar.con, Ar.vars, Ar.body]
theorem sizeAs_get {aa : List Ar} {i : Nat} (h : i < aa.length) : sizeE aa[i].body < sizeAs aa := by
  have h1 := sizeAs_mem (List.getElem_mem h)
  generalize aa[i] = a at h1 ⊢
  cases a
  simp only [sizeA, Ar.body] at h1 ⊢
  omega
end Go.Th
namespace Go.Proofs.YtcapgcohhgjngaaGreatDoor
open Go Go.Eng Go.Th Go.Proofs
set_option maxRecDepth 10000
set_option maxHeartbeats 4000000
attribute [local irreducible] wpList Code.wp Run bodyPost Go.Eng.Ends Exit.then Exit.inBlock Again Wq Kq
theorem ars_rdA {g : Ghost} {ra : List Ar} {xa : List Value} {b off : Nat} (ht : ArsAt g ra xa) (hx : ∀ k x, xa[k]? = some x → g b (off + k) = some x) {i : Nat} (h : i < ra.length) :
    ∃ sv bc, SlAt g 1 sv ra[i].vars.length (ra[i].vars.map str) ∧ ExAt g ra[i].body bc ∧ ∀ own, Rd g own b (off + i * 14) (.int .i64 ra[i].pos :: str ra[i].con :: sv :: bc) := by
  obtain ⟨c, h1, h2⟩ := AllAt.get (fun _ _ h => h.one.1) (ars_all.1 ht) i h
  generalize ra[i] = a at h1 ⊢
  cases a with
  | mk p cn vs e =>
    unfold ArAt at h1
    obtain ⟨slv, bc, rfl, h3, h4⟩ := h1
    exact ⟨slv, bc, h3, h4, fun own => rd_g fun j x hj => by rw [Nat.add_assoc]; exact hx _ _ (h2 j x hj)⟩
theorem Expr8_case (g : Ghost) (N : Nat) (ih : ∀ (e : Ex) (v : Value), sizeE e < N → GoodE e → (showE e).length ≤ 100000 → ExV g v e → Pure Tryz.prog 14 [v] g (str (showE e)))
    (p : Int) (x : Ex) (aa : List Ar) (v : Value) (h : sizeE (caseE p x aa) < N + 1) (hx0 : GoodE x) (ha : ∀ a ∈ aa, GoodE a.body) (hl : (showE (caseE p x aa)).length ≤ 100000) (hv : ExV g v (caseE p x aa)) :
    Pure Tryz.prog 14 [v] g (str (showE (caseE p x aa))) := by
  obtain ⟨a1, c1, a2, c2, a3, m3, c3, xk, xa, rfl, h1, h2, h3, h4, h5⟩ := hv.open
  replace h1 : SlAt g 11 (.slice a1 1 c1) 1 xk := h1
  replace h2 : ExsAt g [x] xk := h2
  replace h3 : SlAt g 14 (.slice a2 aa.length c2) aa.length xa := h3
  replace h4 : ArsAt g aa xa := h4
  obtain ⟨b0, off, cap, hsl, hx⟩ := h1.held (show 0 < 1 by omega)
  cases hsl
  obtain ⟨c, k1, hr⟩ := exs_rdA h2 hx (i := 0) (by simp)
  replace k1 : ExAt g x c := k1
  have hsz : sizeE x < N := by simp [caseE, sizeE, sizeEs] at h; omega
  have hsa : sizeAs aa < N := by simp [caseE, sizeE] at h; omega
  have hlen := sizeAs_len aa
  rw [showE_case] at hl ⊢
  have e3 : caseB.length = 4 ∧ ofB.length = 2 ∧ endB.length = 3 := by decide
  simp only [List.length_append, List.length_cons, List.length_nil] at hl
  obtain ⟨S0, hS0⟩ : ∃ S0 : Bytes, S0 = [99, 97, 115, 101, 32] ++ showE x ++ [32, 111, 102, 32] := ⟨_, rfl⟩
  have hS0l : S0.length = (showE x).length + 9 := by rw [hS0]; simp only [List.length_append, List.length_cons, List.length_nil]; omega
  show Pure Tryz.prog 14 [.agg #[.int .i64 8, .int .i64 p, str [], .int .i64 0, .slice (some ⟨b0, off, none⟩) 1 c1, .slice a2 aa.length c2, .int .i64 0, str [], .int .i64 0, .int .i64 0, .slice a3 m3 c3]] g _
  refine spec_of_run Tryz.func14 rfl Tryz.ntmps14 rfl fun E hE => ?_
  refine r_sr ?_
  refine r_box rfl rfl rfl (fun b1 => ?_)
  refine r_ev rfl rfl ?_; refine r_nn ?_; refine r_seq ?_; refine r_sr ?_; refine r_fieldAddr rfl rfl ?_; refine r_loadB1 0 rfl rfl rfl rfl ?_; refine r_nn ?_; refine r_block ?_; refine r_seq ?_; refine r_sr ?_; refine r_ev rfl rfl ?_; refine r_ev rfl rfl ?_; refine r_nn ?_; refine r_cond_false rfl ?_; refine r_region ?_; refine r_ev rfl rfl ?_; refine r_ev rfl rfl ?_; refine r_nn ?_; refine r_cond_false rfl ?_; refine r_sr ?_; refine r_ev rfl rfl ?_; refine r_ev rfl rfl ?_; refine r_nn ?_; refine r_cond_false rfl ?_; refine r_sr ?_; refine r_ev rfl rfl ?_; refine r_ev rfl rfl ?_; refine r_nn ?_; refine r_cond_false rfl ?_; refine r_sr ?_; refine r_ev rfl rfl ?_; refine r_ev rfl rfl ?_; refine r_nn ?_; refine r_cond_false rfl ?_; refine r_sr ?_; refine r_ev rfl rfl ?_; refine r_ev rfl rfl ?_; refine r_nn ?_; refine r_cond_false rfl ?_; refine r_sr ?_; refine r_ev rfl rfl ?_; refine r_ev rfl rfl ?_; refine r_nn ?_; refine r_cond_false rfl ?_; refine r_sr ?_; refine r_ev rfl rfl ?_; refine r_ev rfl rfl ?_; refine r_nn ?_; refine r_cond_false rfl ?_; refine r_sr ?_; refine r_ev rfl rfl ?_; refine r_ev rfl rfl ?_; refine r_nn ?_; refine r_cond_false rfl ?_; refine r_sr ?_; refine r_ev rfl rfl ?_; refine r_ev rfl rfl ?_; refine r_nn ?_; refine r_cond_false rfl ?_; refine r_skip ?_; refine r_in_normal ?_; refine r_then_normal ?_; refine r_sr ?_; refine r_fieldAddr rfl rfl ?_; refine r_loadB1 0 rfl rfl rfl rfl ?_; refine r_indexAddr (j := 0) rfl rfl rfl rfl (by omega) ?_
  refine r_load rfl rfl (hr _) k1.one.1 ?_
  refine r_callP rfl rfl (ih x _ hsz hx0 (by omega) ⟨c, rfl, k1⟩) ?_
  refine r_add_str rfl rfl rfl (by simp; omega) ?_
  refine r_add_str rfl rfl rfl (by simp; omega) ?_
  rw [← hS0]
  refine r_ev rfl rfl ?_; refine r_nn ?_; refine r_seq ?_; refine r_sr ?_; refine r_ev rfl rfl ?_; refine r_nn ?_; refine r_block ?_
  refine r_loop (ι := Nat) (fun i => [(1, ptr b1 0), (5, str (S0 ++ showArms (aa.take i))), (6, .int .i64 i)]) (fun _ => g) (fun _ => [.blk b1 34 [.int .i64 8, .int .i64 p, str [], .int .i64 0, .slice (some ⟨b0, off, none⟩) 1 c1, .slice a2 aa.length c2, .int .i64 0, str [], .int .i64 0, .int .i64 0, .slice a3 m3 c3]]) (fun i => i ≤ aa.length) (fun i => aa.length - i) 0 (Nat.zero_le _) ⟨rfl, by simp [showArms]; rfl, rfl, trivial⟩ rfl rfl ?_
  intro i hi
  refine r_seq ?_; refine r_sr ?_; refine r_ev rfl rfl ?_; refine r_fieldAddr rfl rfl ?_; refine r_loadB1 0 rfl rfl rfl rfl ?_; refine r_len_sl rfl rfl ?_; refine r_ev rfl rfl ?_; refine r_nn ?_
  refine r_cond rfl (fun hlt => ?_) (fun hlt => ?_)
  · have hlt' : i < aa.length := by omega
    have hS := showArms_succ hlt'
    have hSt := showArms_take aa (i + 1)
    rw [hS] at hSt
    have hae := showAr_eq aa[i]
    rw [hae] at hSt
    simp only [List.length_append, List.length_cons, List.length_nil] at hSt
    obtain ⟨bb, oo, cp, hsl2, hxx⟩ := h3.held hlt'
    cases hsl2
    obtain ⟨sv, bc, hb1, hb2, hra⟩ := ars_rdA h4 hxx hlt'
    obtain ⟨va, vc, rfl⟩ := slForm2 hb1
    have hszi := sizeAs_get hlt'
    have hga := ha _ (List.getElem_mem hlt')
    have hle := hb1.le
    have hle3 := h3.le
    generalize aa[i] = ai at hae hS hb1 hb2 hra hszi hga hSt hle
    refine r_skip ?_; refine r_then_normal ?_
    refine r_seq ?_
    refine r_block ?_
    refine r_cutG (ι := Unit) (fun _ => [(1, ptr b1 0), (5, str (S0 ++ showArms (aa.take i) ++ barS i)), (6, .int .i64 i)]) (fun _ => g) (fun _ => [.blk b1 34 [.int .i64 8, .int .i64 p, str [], .int .i64 0, .slice (some ⟨b0, off, none⟩) 1 c1, .slice (some ⟨bb, oo, none⟩) aa.length c2, .int .i64 0, str [], .int .i64 0, .int .i64 0, .slice a3 m3 c3]]) (fun _ => True) ?_ ?_
    · rintro _ -
      refine r_sr ?_; refine r_ev rfl rfl ?_; refine r_fieldAddr rfl rfl ?_; refine r_loadB1 0 rfl rfl rfl rfl ?_; refine r_ev rfl rfl ?_; refine r_indexAddr rfl rfl rfl rfl (by omega) ?_; refine r_fieldAddr rfl rfl ?_
      refine r_load1 rfl rfl ((hra _).at1 1 rfl) ?_
      refine r_add_str rfl rfl rfl (by simp; omega) ?_
      refine r_ev rfl rfl ?_; refine r_nn ?_; refine r_seq ?_; refine r_sr ?_; refine r_ev rfl rfl ?_; refine r_nn ?_; refine r_block ?_
      obtain ⟨S1, hS1⟩ : ∃ S1 : Bytes, S1 = S0 ++ showArms (aa.take i) ++ barS i ++ ai.con := ⟨_, rfl⟩
      have hS1l : S1.length = S0.length + (showArms (aa.take i)).length + (barS i).length + ai.con.length := by rw [hS1]; simp; omega
      rw [← hS1]
      refine r_loop (ι := Nat) (fun k => [(1, ptr b1 0), (5, str (S1 ++ showVars (ai.vars.take k))), (6, .int .i64 i), (7, .int .i64 k)]) (fun _ => g) (fun _ => [.blk b1 34 [.int .i64 8, .int .i64 p, str [], .int .i64 0, .slice (some ⟨b0, off, none⟩) 1 c1, .slice (some ⟨bb, oo, none⟩) aa.length c2, .int .i64 0, str [], .int .i64 0, .int .i64 0, .slice a3 m3 c3]]) (fun k => k ≤ ai.vars.length) (fun k => ai.vars.length - k) 0 (Nat.zero_le _) ⟨rfl, by simp [showVars]; rfl, rfl, rfl, trivial⟩ rfl rfl ?_
      intro k hk
      refine r_seq ?_; refine r_sr ?_; refine r_ev rfl rfl ?_; refine r_fieldAddr rfl rfl ?_; refine r_loadB1 0 rfl rfl rfl rfl ?_; refine r_ev rfl rfl ?_; refine r_indexAddr rfl rfl rfl rfl (by omega) ?_; refine r_fieldAddr rfl rfl ?_
      refine r_load1 rfl rfl ((hra _).at1 2 rfl) ?_
      refine r_len_sl rfl rfl ?_; refine r_ev rfl rfl ?_; refine r_nn ?_
      refine r_cond rfl (fun hlt2 => ?_) (fun hlt2 => ?_)
      · have hlt2' : k < ai.vars.length := by omega
        have hV := showVars_succ hlt2'
        have hVt := showVars_take ai.vars (k + 1)
        rw [hV] at hVt
        simp only [List.length_append, List.length_cons, List.length_nil] at hVt
        obtain ⟨b5, o5, p5, hsl5, hx5⟩ := hb1.held hlt2'
        cases hsl5
        have hrv : ∀ own, Rd g own b5 (o5 + k * 1) [str ai.vars[k]] := fun own => rd_g1 (by
          rw [Nat.mul_one]
          refine hx5 k _ ?_
          rw [List.getElem?_map, List.getElem?_eq_getElem hlt2']
          rfl)
        refine r_skip ?_; refine r_then_normal ?_; refine r_seq ?_; refine r_block ?_; refine r_region ?_; refine r_ev rfl rfl ?_; refine r_fieldAddr rfl rfl ?_; refine r_loadB1 0 rfl rfl rfl rfl ?_; refine r_ev rfl rfl ?_; refine r_indexAddr rfl rfl rfl rfl (by omega) ?_; refine r_fieldAddr rfl rfl ?_
        refine r_load1 rfl rfl ((hra _).at1 2 rfl) ?_
        refine r_ev rfl rfl ?_; refine r_indexAddr rfl rfl rfl rfl (by omega) ?_
        refine r_load1 rfl rfl (hrv _) ?_
        refine r_add_str rfl rfl rfl (by simp; omega) ?_
        refine r_add_str rfl rfl rfl (by simp; omega) ?_
        refine r_ev rfl rfl ?_; refine r_nil ?_; refine r_in_normal ?_; refine r_then_normal ?_; refine r_region ?_; refine r_ev rfl rfl ?_; refine r_add rfl rfl rfl (by omega) ?_; refine r_ev rfl rfl ?_; refine r_nn ?_
        exact r_again (k + 1) (by omega) (by omega) ⟨rfl, by rw [hV]; simp; rfl, rfl, rfl, trivial⟩ rfl rfl
      · have hkl : k = ai.vars.length := by omega
        subst hkl
        rw [List.take_length]
        refine r_exit ?_; refine r_then_exit ?_; refine r_then_exit ?_; refine r_in_exit ?_; refine r_then_normal ?_; refine r_region ?_; refine r_ev rfl rfl ?_; refine r_fieldAddr rfl rfl ?_; refine r_loadB1 0 rfl rfl rfl rfl ?_; refine r_ev rfl rfl ?_; refine r_indexAddr rfl rfl rfl rfl (by omega) ?_; refine r_fieldAddr rfl rfl ?_
        refine r_load rfl rfl ((hra _).tail3) hb2.one.1 ?_
        refine r_callP rfl rfl (ih ai.body _ (by omega) hga (by omega) ⟨bc, rfl, hb2⟩) ?_
        refine r_add_str rfl rfl rfl (by simp; omega) ?_
        refine r_add_str rfl rfl rfl (by simp; omega) ?_
        refine r_ev rfl rfl ?_; refine r_nil ?_; refine r_in_normal ?_; refine r_then_normal ?_; refine r_region ?_; refine r_ev rfl rfl ?_; refine r_add rfl rfl rfl (by omega) ?_; refine r_ev rfl rfl ?_; refine r_nn ?_
        exact r_again (i + 1) (by omega) (by omega) ⟨rfl, by rw [hS, hae, hS1]; simp; rfl, rfl, trivial⟩ rfl rfl
    · intro K hK
      refine r_sr ?_; refine r_ev rfl rfl ?_; refine r_ev rfl rfl ?_; refine r_nn ?_
      refine r_cond rfl (fun h0 => ?_) (fun h0 => ?_)
      · have hb : barS i = [32, 124, 32] := by unfold barS; rw [if_pos (by omega)]
        rw [hb] at hSt hK
        refine r_region ?_; refine r_ev rfl rfl ?_
        refine r_add_str rfl rfl rfl (by simp; omega) ?_
        refine r_ev rfl rfl ?_; refine r_nn ?_
        exact hK () _ trivial ⟨rfl, rfl, rfl, trivial⟩
      · have hb : barS i = [] := by unfold barS; rw [if_neg (by omega)]
        rw [hb, List.append_nil] at hK
        refine r_skip ?_; refine r_then_normal ?_
        exact hK () _ trivial ⟨rfl, rfl, rfl, trivial⟩
  · have hil : i = aa.length := by omega
    subst hil
    rw [List.take_length]
    refine r_exit ?_; refine r_then_exit ?_; refine r_then_exit ?_; refine r_in_exit ?_; refine r_then_normal ?_; refine r_sr ?_; refine r_ev rfl rfl ?_
    refine r_add_str rfl rfl rfl (by simp; omega) ?_
    refine r_ev rfl rfl ?_; refine r_nn ?_; refine r_retc ?_
    exact r_ret1 [] rfl rfl (by simp) ⟨by rw [hS0]; simp [caseB, ofB, endB], rfl, rfl⟩
end Go.Proofs.YtcapgcohhgjngaaGreatDoor
-- sum 062d20be28c4ef8c

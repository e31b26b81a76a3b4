/- Types in memory, and the walks of what makes and compares them: types.Con, types.Arrow, the reference's Con, Arrow, Named, Int, Equal. -/
import Derived.Test.YtblbbjhbigpgnaaDoorTypA
import Derived.Test.YtblbbjhbigpgnaaDoorOpsG
import Derived.Test.YtblbbjhbigpgnaaDoorBase
import Derived.Test.YtblbbjhbigpgnaaDoorOpsD
namespace Go.Proofs.YtblbbjhbigpgnaaDoor
open Go Go.Eng Go.Th Go.Proofs
set_option maxRecDepth 10000
set_option maxHeartbeats 4000000
attribute [local irreducible] wpList Code.wp Run bodyPost Go.Eng.Ends Exit.then Exit.inBlock Again Wq Kq
def tyCells (t : Ty) (sl : Value) : List Value := [.int .i64 t.kind, str t.name, .int .i64 t.id, .int .i64 t.home, sl]
mutual
/-- A type's cells. -/
def TyAt (g : Ghost) : Ty → List Value → Prop
  | .mk k n i h ta, cs => ∃ sl xs, cs = [.int .i64 k, str n, .int .i64 i, .int .i64 h, sl] ∧ SlAt g 5 sl ta.length xs ∧ TysAt g ta xs
def TysAt (g : Ghost) : List Ty → List Value → Prop
  | [], xs => xs = []
  | a :: ta, xs => ∃ c r, xs = c ++ r ∧ TyAt g a c ∧ TysAt g ta r
end
mutual
theorem TyAt.mono {g g' : Ghost} (hle : Ghost.le g g') : ∀ (t : Ty) (cs : List Value), TyAt g t cs → TyAt g' t cs
  | .mk k n i h ta, cs, ht => by
    unfold TyAt at ht ⊢
    obtain ⟨sl, xs, h1, h2, h3⟩ := ht
    exact ⟨sl, xs, h1, h2.mono hle, TysAt.mono hle ta xs h3⟩
theorem TysAt.mono {g g' : Ghost} (hle : Ghost.le g g') : ∀ (ta : List Ty) (xs : List Value), TysAt g ta xs → TysAt g' ta xs
  | [], xs, ht => by unfold TysAt at ht ⊢; exact ht
  | a :: ta, xs, ht => by
    unfold TysAt at ht ⊢
    obtain ⟨c, r, h1, h2, h3⟩ := ht
    exact ⟨c, r, h1, TyAt.mono hle a c h2, TysAt.mono hle ta r h3⟩
end
theorem SlAt.one {g : Ghost} {size : Nat} {v : Value} {n : Nat} {xs : List Value} (h : SlAt g size v n xs) : oneC v = true := by
  rcases h.2 with ⟨⟨a, c, rfl⟩, _⟩ | ⟨b, off, cap, rfl, _⟩ <;> rfl
theorem SlAt.form {g : Ghost} {size : Nat} {v : Value} {n : Nat} {xs : List Value} (h : SlAt g size v n xs) : ∃ a m c, v = .slice a m c := by
  rcases h.2 with ⟨⟨a, c, rfl⟩, _⟩ | ⟨b, off, cap, rfl, _⟩
  · exact ⟨_, _, _, rfl⟩
  · exact ⟨_, _, _, rfl⟩
theorem TyAt.one {g : Ghost} {t : Ty} {cs : List Value} (h : TyAt g t cs) : cs.length = 5 ∧ ∀ u ∈ cs, oneC u = true := by
  cases t with
  | mk k n i hh ta =>
    unfold TyAt at h
    obtain ⟨sl, xs, rfl, h2, _⟩ := h
    refine ⟨rfl, ?_⟩
    intro u hu
    simp only [List.mem_cons, List.not_mem_nil, or_false] at hu
    rcases hu with rfl | rfl | rfl | rfl | rfl
    · rfl
    · rfl
    · rfl
    · rfl
    · exact SlAt.one h2
theorem TysAt.one {g : Ghost} : ∀ {ta : List Ty} {xs : List Value}, TysAt g ta xs → xs.length = ta.length * 5 ∧ ∀ u ∈ xs, oneC u = true
  | [], xs, h => by unfold TysAt at h; subst h; simp
  | a :: ta, xs, h => by
    unfold TysAt at h
    obtain ⟨c, r, rfl, h1, h2⟩ := h
    have i1 := h1.one
    have i2 := TysAt.one h2
    refine ⟨by rw [List.length_append, i1.1, i2.1, List.length_cons]; omega, fun u hu => ?_⟩
    rcases List.mem_append.1 hu with hu | hu
    · exact i1.2 u hu
    · exact i2.2 u hu
theorem TysAt.get {g : Ghost} : ∀ {ta : List Ty} {xs : List Value}, TysAt g ta xs → ∀ (i : Nat) (h : i < ta.length), ∃ c, TyAt g ta[i] c ∧ ∀ j x, c[j]? = some x → xs[i * 5 + j]? = some x
  | [], xs, _, i, h => by simp at h
  | a :: ta, xs, ht, 0, _ => by
    unfold TysAt at ht
    obtain ⟨c, r, rfl, h1, h2⟩ := ht
    refine ⟨c, h1, fun j x hx => ?_⟩
    rw [Nat.zero_mul, Nat.zero_add, List.getElem?_append_left (List.getElem?_eq_some_iff.1 hx).1]
    exact hx
  | a :: ta, xs, ht, i + 1, h => by
    unfold TysAt at ht
    obtain ⟨c, r, rfl, h1, h2⟩ := ht
    obtain ⟨c', h3, h4⟩ := TysAt.get h2 i (by simpa using h)
    refine ⟨c', h3, fun j x hx => ?_⟩
    have hl := h1.one.1
    rw [List.getElem?_append_right (by rw [hl]; omega), hl, show (i + 1) * 5 + j - 5 = i * 5 + j by omega]
    exact h4 j x hx
theorem TysAt.snoc {g : Ghost} {a : Ty} {c : List Value} (hc : TyAt g a c) : ∀ {ta : List Ty} {xs : List Value}, TysAt g ta xs → TysAt g (ta ++ [a]) (xs ++ c)
  | [], xs, h => by
    unfold TysAt at h
    subst h
    simp only [List.nil_append]
    unfold TysAt
    exact ⟨c, [], by simp, hc, by unfold TysAt; rfl⟩
  | b :: ta, xs, h => by
    unfold TysAt at h
    obtain ⟨d, r, rfl, h1, h2⟩ := h
    simp only [List.cons_append]
    unfold TysAt
    exact ⟨d, r ++ c, by simp, h1, TysAt.snoc hc h2⟩
/-- A type as a value. -/
def TyV (g : Ghost) (v : Value) (t : Ty) : Prop := ∃ sl, v = .agg #[.int .i64 t.kind, str t.name, .int .i64 t.id, .int .i64 t.home, sl] ∧ TyAt g t (tyCells t sl)
theorem TyV.mono {g g' : Ghost} (hle : Ghost.le g g') {v : Value} {t : Ty} (h : TyV g v t) : TyV g' v t := by
  obtain ⟨sl, h1, h2⟩ := h
  exact ⟨sl, h1, h2.mono hle⟩
theorem TyAt.args {g : Ghost} {t : Ty} {sl : Value} (h : TyAt g t (tyCells t sl)) : ∃ xs, SlAt g 5 sl t.args.length xs ∧ TysAt g t.args xs := by
  cases t with
  | mk k n i hh ta =>
    unfold TyAt at h
    obtain ⟨sl', xs, h1, h2, h3⟩ := h
    simp only [tyCells, List.cons.injEq, and_true, true_and, Ty.kind, Ty.name, Ty.id, Ty.home] at h1
    obtain ⟨_, _, _, _, rfl⟩ := h1
    exact ⟨xs, h2, h3⟩
theorem TyAt.mk {g : Ghost} {t : Ty} {sl : Value} {xs : List Value} (h2 : SlAt g 5 sl t.args.length xs) (h3 : TysAt g t.args xs) : TyAt g t (tyCells t sl) := by
  cases t with
  | mk k n i hh ta =>
    unfold TyAt
    exact ⟨sl, xs, rfl, h2, h3⟩
theorem TyAt.cells {g : Ghost} {t : Ty} {cs : List Value} (h : TyAt g t cs) : ∃ sl, cs = tyCells t sl := by
  cases t with
  | mk k n i hh ta =>
    unfold TyAt at h
    obtain ⟨sl, xs, h1, _⟩ := h
    exact ⟨sl, h1⟩
theorem TyV.of {g : Ghost} {t : Ty} {sl : Value} {xs : List Value} (h2 : SlAt g 5 sl t.args.length xs) (h3 : TysAt g t.args xs) : TyV g (.agg #[.int .i64 t.kind, str t.name, .int .i64 t.id, .int .i64 t.home, sl]) t := ⟨sl, rfl, .mk h2 h3⟩
theorem slNil (g : Ghost) (size : Nat) : SlAt g size (.slice none 0 0) 0 [] := ⟨by simp, .inl ⟨⟨_, _, rfl⟩, rfl⟩⟩
theorem tysNil (g : Ghost) : TysAt g [] [] := by unfold TysAt; rfl
theorem noT_V (g : Ghost) : TyV g (.agg #[.int .i64 0, str [], .int .i64 0, .int .i64 0, .slice none 0 0]) noT := TyV.of (t := noT) (slNil g 5) (tysNil g)
theorem Clone_spec (g : Ghost) (v : Value) (n : Nat) (xs : List Value) (hs : SlAt g 5 v n xs) (h1 : ∀ u ∈ xs, oneC u = true) (hn : n ≤ 1000000) :
    SpecN Tryd.prog 77 [v] g fun w g' => SlAt g' 5 w n xs := by
  obtain ⟨a, m, c, rfl⟩ := SlAt.form hs
  refine spec_of_run Tryd.func77 rfl Tryd.ntmps77 rfl fun E hE => ?_
  refine r_sr ?_; refine r_ev rfl rfl ?_; refine r_nn ?_; refine r_seq ?_; refine r_sr ?_; refine r_ev rfl rfl ?_
  refine r_v rfl (val_eql_slnil rfl rfl) ?_
  refine r_nn ?_
  cases a with
  | none =>
    have h0 : n = 0 ∧ xs = [] := by
      rcases hs.2 with ⟨_, h0⟩ | ⟨b, off, cap, he, _⟩
      · have hl := hs.1
        rw [h0, Nat.zero_mul] at hl
        exact ⟨h0, List.eq_nil_of_length_eq_zero hl⟩
      · simp at he
    obtain ⟨rfl, rfl⟩ := h0
    refine r_cond_true rfl ?_; refine r_sr ?_; refine r_ev rfl rfl ?_; refine r_nn ?_; refine r_retc ?_; refine r_then_ret ?_
    exact r_ret1 [] rfl rfl (by simp) ⟨slNil g 5, rfl⟩
  | some ad =>
    refine r_cond_false rfl ?_; refine r_skip ?_; refine r_then_normal ?_; refine r_sr ?_
    refine r_buildSlice rfl rfl (by rfl) (by rfl) (by rfl) (by rfl) (by rfl) (fun b2 => ?_)
    refine r_ev rfl rfl ?_
    refine r_appendAt 0 rfl rfl rfl rfl hs (by rfl) (by rfl) h1 (by unfold maxLen; omega) (by omega) (fun v' _ => ?_)
    rw [Nat.zero_add]
    refine r_publishRow (fun g1 hg1 hs1 => ?_)
    refine r_ev rfl rfl ?_; refine r_nn ?_; refine r_retc ?_
    exact r_ret1 [] rfl rfl (by simp) ⟨hs1, rfl⟩
theorem tCon_spec (g : Ghost) (name : Bytes) (v : Value) (ta : List Ty) (xs : List Value) (hs : SlAt g 5 v ta.length xs) (ht : TysAt g ta xs) (hn : ta.length ≤ 1000000) :
    SpecN Tryd.prog 62 [str name, v] g fun w g' => TyV g' w (conT name ta) := by
  refine spec_of_run Tryd.func62 rfl Tryd.ntmps62 rfl fun E hE => ?_
  refine r_sr ?_
  refine r_alloc rfl (fun b4 => ?_)
  refine r_nn ?_; refine r_sr ?_; refine r_ev rfl rfl ?_; refine r_ev rfl rfl ?_
  refine r_callN rfl rfl (Clone_spec g v ta.length xs hs ht.one.2 hn) ?_
  rintro w g1 hs1 hle
  obtain ⟨a, m, c, rfl⟩ := SlAt.form hs1
  refine r_build rfl rfl (by rfl) ?_; refine r_storeA 0 rfl rfl rfl rfl (by rfl) (by repeat' (first | exact rfl | assumption | refine all_cons ?_ ?_)) rfl ?_; refine r_nn ?_; refine r_retc ?_
  exact r_retA [] rfl (res_blk 0 rfl rfl (by rfl)) (by simp) ⟨TyV.of (t := conT name ta) hs1 (ht.mono hle), rfl⟩
theorem two_tys {g : Ghost} {t u : Ty} {sl sl' : Value} (h1 : TyAt g t (tyCells t sl)) (h2 : TyAt g u (tyCells u sl')) : TysAt g [t, u] (tyCells t sl ++ tyCells u sl') := by
  unfold TysAt
  refine ⟨_, _, rfl, h1, ?_⟩
  unfold TysAt
  exact ⟨_, [], by simp, h2, tysNil g⟩
theorem tArrow_spec (g : Ghost) (t u : Ty) (v w : Value) (hv : TyV g v t) (hw : TyV g w u) : SpecN Tryd.prog 51 [v, w] g fun x g' => TyV g' x (arrowT t u) := by
  obtain ⟨sl, rfl, h1⟩ := hv
  obtain ⟨sl', rfl, h2⟩ := hw
  obtain ⟨_, hs1, _⟩ := h1.args
  obtain ⟨_, hs2, _⟩ := h2.args
  obtain ⟨a, m, c, rfl⟩ := SlAt.form hs1
  obtain ⟨a', m', c', rfl⟩ := SlAt.form hs2
  refine spec_of_run Tryd.func51 rfl Tryd.ntmps51 rfl fun E hE => ?_
  refine r_sr ?_
  refine r_box rfl rfl rfl (fun b2 => ?_)
  refine r_box rfl rfl rfl (fun b3 => ?_)
  refine r_alloc rfl (fun b4 => ?_)
  refine r_nn ?_; refine r_sr ?_; refine r_loadB 2 rfl rfl rfl (by rfl) ?_; refine r_loadB 1 rfl rfl rfl (by rfl) ?_
  refine r_buildSlice rfl rfl (by rfl) (by rfl) (by rfl) (by rfl) (by rfl) (fun b5 => ?_)
  refine r_publishRow (fun g1 hg1 hs => ?_)
  refine r_callN rfl rfl (tCon_spec g1 arrowB _ [t, u] _ hs (two_tys (h1.mono hg1) (h2.mono hg1)) (by simp)) ?_
  rintro x g2 ⟨sx, rfl, hx⟩ hle
  obtain ⟨_, hsx, _⟩ := hx.args
  obtain ⟨ax, mx, cx, rfl⟩ := SlAt.form hsx
  refine r_storeA 0 rfl rfl rfl rfl (by rfl) (by repeat' (first | exact rfl | assumption | refine all_cons ?_ ?_)) rfl ?_; refine r_nn ?_; refine r_retc ?_
  exact r_retA [] rfl (res_blk 0 rfl rfl (by rfl)) (by simp) ⟨⟨_, rfl, hx⟩, rfl⟩
theorem rCon_spec (g : Ghost) (name : Bytes) (v : Value) (ta : List Ty) (xs : List Value) (hs : SlAt g 5 v ta.length xs) (ht : TysAt g ta xs) (hn : ta.length ≤ 1000000) :
    SpecN Tryd.prog 26 [str name, v] g fun w g' => TyV g' w (conT name ta) := by
  refine spec_of_run Tryd.func26 rfl Tryd.ntmps26 rfl fun E hE => ?_
  refine r_sr ?_
  refine r_alloc rfl (fun b4 => ?_)
  refine r_nn ?_; refine r_sr ?_; refine r_ev rfl rfl ?_; refine r_ev rfl rfl ?_
  refine r_nilRow 30 5 ?_
  refine r_appendAt 0 rfl rfl rfl rfl hs (by rfl) (by rfl) ht.one.2 (by unfold maxLen; omega) (by omega) (fun v' _ => ?_)
  rw [Nat.zero_add]
  refine r_publishRow (fun g1 hg1 hs1 => ?_)
  obtain ⟨a, m, c, rfl⟩ := SlAt.form hs1
  refine r_build rfl rfl (by rfl) ?_; refine r_storeA 0 rfl rfl rfl rfl (by rfl) (by repeat' (first | exact rfl | assumption | refine all_cons ?_ ?_)) rfl ?_; refine r_nn ?_; refine r_retc ?_
  exact r_retA [] rfl (res_blk 0 rfl rfl (by rfl)) (by simp) ⟨TyV.of (t := conT name ta) hs1 (ht.mono hg1), rfl⟩
theorem rArrow_spec (g : Ghost) (t u : Ty) (v w : Value) (hv : TyV g v t) (hw : TyV g w u) : SpecN Tryd.prog 25 [v, w] g fun x g' => TyV g' x (arrowT t u) := by
  obtain ⟨sl, rfl, h1⟩ := hv
  obtain ⟨sl', rfl, h2⟩ := hw
  obtain ⟨_, hs1, _⟩ := h1.args
  obtain ⟨_, hs2, _⟩ := h2.args
  obtain ⟨a, m, c, rfl⟩ := SlAt.form hs1
  obtain ⟨a', m', c', rfl⟩ := SlAt.form hs2
  refine spec_of_run Tryd.func25 rfl Tryd.ntmps25 rfl fun E hE => ?_
  refine r_sr ?_
  refine r_box rfl rfl rfl (fun b2 => ?_)
  refine r_box rfl rfl rfl (fun b3 => ?_)
  refine r_alloc rfl (fun b4 => ?_)
  refine r_nn ?_; refine r_sr ?_; refine r_loadB 2 rfl rfl rfl (by rfl) ?_; refine r_loadB 1 rfl rfl rfl (by rfl) ?_
  refine r_buildSlice rfl rfl (by rfl) (by rfl) (by rfl) (by rfl) (by rfl) (fun b5 => ?_)
  refine r_publishRow (fun g1 hg1 hs => ?_)
  refine r_callN rfl rfl (rCon_spec g1 arrowB _ [t, u] _ hs (two_tys (h1.mono hg1) (h2.mono hg1)) (by simp)) ?_
  rintro x g2 ⟨sx, rfl, hx⟩ hle
  obtain ⟨_, hsx, _⟩ := hx.args
  obtain ⟨ax, mx, cx, rfl⟩ := SlAt.form hsx
  refine r_storeA 0 rfl rfl rfl rfl (by rfl) (by repeat' (first | exact rfl | assumption | refine all_cons ?_ ?_)) rfl ?_; refine r_nn ?_; refine r_retc ?_
  exact r_retA [] rfl (res_blk 0 rfl rfl (by rfl)) (by simp) ⟨⟨_, rfl, hx⟩, rfl⟩
theorem rNamed_spec (g : Ghost) (name : Bytes) : Pure Tryd.prog 27 [str name] g (.agg #[.int .i64 5, str name, .int .i64 0, .int .i64 0, .slice none 0 0]) := by
  refine spec_of_run Tryd.func27 rfl Tryd.ntmps27 rfl fun E hE => ?_
  refine r_sr ?_; refine r_alloc rfl (fun b => ?_); refine r_nn ?_; refine r_sr ?_; refine r_ev rfl rfl ?_; refine r_build rfl rfl (by rfl) ?_; refine r_storeA 0 rfl rfl rfl rfl (by rfl) (by repeat' (first | exact rfl | assumption | refine all_cons ?_ ?_)) rfl ?_; refine r_nn ?_; refine r_retc ?_
  exact r_retA [] rfl (res_blk 0 rfl rfl (by rfl)) (by simp) ⟨rfl, rfl, rfl⟩
theorem nameT_V (g : Ghost) (name : Bytes) : TyV g (.agg #[.int .i64 5, str name, .int .i64 0, .int .i64 0, .slice none 0 0]) (nameT name) := TyV.of (t := nameT name) (slNil g 5) (tysNil g)
theorem rInt_spec (g : Ghost) : SpecN Tryd.prog 28 [] g fun w g' => TyV g' w intT := by
  refine spec_of_run Tryd.func28 rfl Tryd.ntmps28 rfl fun E hE => ?_
  refine r_sr ?_
  refine r_alloc rfl (fun b0 => ?_)
  refine r_nn ?_; refine r_sr ?_
  refine r_callN rfl rfl (rCon_spec g intB _ [] _ (slNil g 5) (tysNil g) (by simp)) ?_
  rintro x g2 ⟨sx, rfl, hx⟩ hle
  obtain ⟨_, hsx, _⟩ := hx.args
  obtain ⟨ax, mx, cx, rfl⟩ := SlAt.form hsx
  refine r_storeA 0 rfl rfl rfl rfl (by rfl) (by repeat' (first | exact rfl | assumption | refine all_cons ?_ ?_)) rfl ?_; refine r_nn ?_; refine r_retc ?_
  exact r_retA [] rfl (res_blk 0 rfl rfl (by rfl)) (by simp) ⟨⟨_, rfl, hx⟩, rfl⟩
end Go.Proofs.YtblbbjhbigpgnaaDoor
-- sum 1646cac9616c9c58

/- The walk of typedholeslaw7.many: a program with many parts, of any content. Printed by mklve.py. -/
import Derived.Test.YtpjehhnaojjanaaGreatDoorK17
import Derived.Test.YtpjehhnaojjanaaGreatDoorK8
namespace Go.Proofs.YtpjehhnaojjanaaGreatDoor
open Go Go.Eng Go.Th Go.Proofs
set_option maxRecDepth 10000
set_option maxHeartbeats 4000000
attribute [local irreducible] wpList Code.wp Run bodyPost Go.Eng.Ends Exit.then Exit.inBlock Again Wq Kq
def okDa (d : Da) : Prop := ∀ c ∈ d.cons, ∀ t ∈ c.fields, depthT t ≤ 1000000
def okBi (b : Bi) : Prop := (b.hasSig = false → depthT b.sig ≤ 40) ∧ depthT b.sig ≤ 1000000 ∧ sizeE b.body ≤ 1000000 ∧ WfE 1000000 b.body
def okX (w k : Nat) (x : Bi) : Prop := (x.hasSig = false → depthT x.sig ≤ 40) ∧ depthT x.sig ≤ 3 * k ∧ sizeE x.body ≤ 5000 ∧ (w = 5 → sizeE x.body + 3 = 4 * 2 ^ k) ∧ WfE 1000000 x.body
theorem okX.bi {w k : Nat} {x : Bi} (h : okX w k x) (hk : k ≤ 20) : okBi x := ⟨h.1, by have := h.2.1; omega, by have := h.2.2.1; omega, h.2.2.2.2⟩
def MSt (w k : Nat) (g : Ghost) (b4 b5 b7 b8 : Nat) (own : List Res) : Prop := ∃ (ds : List Da) (xd : List Value) (a : Option Addr) (m c : Nat) (bs : List Bi) (xb : List Value) (a' : Option Addr) (m' c' : Nat) (d : Da) (dc : List Value) (x : Bi) (xc : List Value),
 own = [.row 86 4 (.slice a m c) ds.length xd, .row 73 20 (.slice a' m' c') bs.length xb, .blk b8 73 xc, .blk b7 86 dc, .blk b5 29 [.slice a m c, .slice a' m' c'], .blk b4 29 [.slice none 0 0, .slice none 0 0]] ∧
 AllAt (DaAt g) ds xd ∧ AllAt (BiAt g) bs xb ∧ DaAt g d dc ∧ BiAt g x xc ∧ ds.length ≤ k ∧ bs.length ≤ k ∧ (∀ d' ∈ ds ++ [d], okDa d') ∧ (∀ b ∈ bs, okBi b) ∧ okX w k x
def MEn (g : Ghost) (b4 b5 : Nat) (own : List Res) : Prop := ∃ (ds : List Da) (xd : List Value) (a : Option Addr) (m c : Nat) (bs : List Bi) (xb : List Value) (a' : Option Addr) (m' c' : Nat) (u u' : Res),
 own = [.row 86 4 (.slice a m c) ds.length xd, .row 73 20 (.slice a' m' c') bs.length xb, u, u', .blk b5 29 [.slice a m c, .slice a' m' c'], .blk b4 29 [.slice none 0 0, .slice none 0 0]] ∧
 AllAt (DaAt g) ds xd ∧ AllAt (BiAt g) bs xb ∧ ds.length ≤ 21 ∧ bs.length ≤ 21 ∧ (∀ d' ∈ ds, okDa d') ∧ ∀ b ∈ bs, okBi b
def ManyPost (v : Value) (g' : Ghost) (own' : List Res) : Prop := ∃ (p : Pg) (sd : Value) (xd : List Value) (sb : Value) (xb : List Value), v = .agg #[sd, sb] ∧ own' = [.row 86 4 sd p.datas.length xd, .row 73 20 sb p.binds.length xb] ∧
 AllAt (DaAt g') p.datas xd ∧ AllAt (BiAt g') p.binds xb ∧ WfP p ∧ p.datas.length ≤ 21 ∧ p.binds.length ≤ 21
theorem num20 (g : Ghost) (k : Nat) (hk : k < 20) : ∃ s : Bytes, s.length ≤ 3 ∧ Pure Tryz.prog 59 [.int .i64 k] g (str s) := by
 have hd : (Lib.decDigits k).length ≤ 2 := by
  by_cases h : k < 10
  ·rw [dec_small h]; simp
  ·rw [dec_big h, dec_small (by omega)]; simp
 exact ⟨_, by unfold Lib.itoa; rw [if_neg (by omega)]; simpa using Nat.le_succ_of_le hd, rNumber_spec g k (by omega) (by simpa using Nat.le_trans hd (by omega))⟩
def d0 (cs : List Cn) (ps : List Bytes) : Da := ⟨3, [84], ps, cs⟩
def c0 (fs : List Ty) : Cn := ⟨4, [65], fs⟩
def x0 : Bi := ⟨8, false, [120], false, noT, leafE 3 9 [] 0⟩
theorem x0_at (g : Ghost) : BiAt g x0 ([.int .i64 8, .bool false, str [120], .bool false] ++ (tyCells noT (.slice none 0 0) ++ [.int .i64 3, .int .i64 9, str [], .int .i64 0, .slice none 0 0, .slice none 0 0, .int .i64 0, str [], .int .i64 0, .int .i64 0, .slice none 0 0])) :=
 ⟨_, _, rfl, TyAt.mk (t := noT) (slNil g 5) (tysNil g), (leafE_V g 3 9 [] 0).at_⟩
theorem x0_ok (w : Nat) : okX w 0 x0 := by
 have h : depthT x0.sig = 0 := depth_noT
 refine ⟨fun _ => by omega, by omega, ?_, fun _ => ?_, WfE.leaf _ _ _ _ _⟩ <;> simp [x0, leafE, sizeE, sizeEs, sizeAs]
theorem one_at {α : Type} {R : α → List Value → Prop} {a : α} {c : List Value} (h : R a c) : AllAt R [a] c := ⟨c, [], by simp, h, rfl⟩
theorem hmem2 {ds : List Da} {d e : Da} (h : ∀ x ∈ ds ++ [d], okDa x) (he : okDa e) : ∀ x ∈ ds ++ [e] ++ [d], okDa x := fun x hx => by
 simp only [List.mem_append, List.mem_singleton] at h hx
 rcases hx with (hx | rfl) | rfl
 ·exact h x (.inl hx)
 ·exact he
 ·exact h x (.inr rfl)
theorem memB {bs : List Bi} {e : Bi} (h : ∀ x ∈ bs, okBi x) (he : okBi e) : ∀ x ∈ bs ++ [e], okBi x := fun x hx => by
 rcases List.mem_append.1 hx with hx | hx
 ·exact h x hx
 ·rw [List.mem_singleton.1 hx]; exact he
theorem newB {w k : Nat} (p : Int) (s : Bytes) {x : Bi} (h : okX w k x) : okBi ⟨p, false, s, false, noT, x.body⟩ := ⟨fun _ => by rw [depth_noT]; omega, by rw [depth_noT]; omega, by have := h.2.2.1; simp only; omega, h.2.2.2.2⟩
def bodyX (x : Bi) : Bi := ⟨x.pos, x.isRec, x.name, x.hasSig, x.sig, kidsE 4 0 [120] [kidsE 11 0 [] [kidsE 5 0 [] [x.body, x.body]]]⟩
theorem bodyX_ok {k : Nat} {x : Bi} (h : okX 5 k x) (hk : k ≤ 8) : okX 5 (k + 1) (bodyX x) := by
 obtain ⟨h1, h2, h3, h4, h5⟩ := h
 have h6 := h4 rfl
 have hp : 2 ^ k ≤ 2 ^ 8 := Nat.pow_le_pow_right (by omega) hk
 have hs : sizeE (bodyX x).body = 2 * sizeE x.body + 3 := by simp only [bodyX, kidsE, sizeE, sizeEs, sizeAs]; omega
 have hq : 2 ^ (k + 1) = 2 * 2 ^ k := by rw [Nat.pow_succ]; omega
 refine ⟨h1, by show depthT x.sig ≤ _; omega, by rw [hs]; omega, fun _ => by rw [hs, hq]; omega, ?_⟩
 refine .kids _ _ _ fun c hc => ?_
 rw [List.mem_singleton.1 hc]
 refine .kids _ _ _ fun c hc => ?_
 rw [List.mem_singleton.1 hc]
 refine .kids _ _ _ fun c hc => ?_
 simp only [List.mem_cons, List.not_mem_nil, or_false] at hc
 rcases hc with rfl | rfl <;> exact h5
def sigX (x : Bi) (t : Ty) : Bi := ⟨x.pos, x.isRec, x.name, true, t, x.body⟩
theorem sigX_ok {w k : Nat} {x : Bi} {t : Ty} (h : okX w k x) (hw : depthT t ≤ 3 * (k + 1)) (h5 : w ≠ 5 := by decide) : okX w (k + 1) (sigX x t) := ⟨fun h => (by cases h), hw, h.2.2.1, fun h => absurd h h5, h.2.2.2.2⟩
theorem tys1 {g : Ghost} {t : Ty} {c : List Value} (h : TyAt g t c) : TysAt g [t] c := by
 unfold TysAt
 exact ⟨c, [], by simp, h, tysNil g⟩
theorem okX0 (w k : Nat) (h5 : w ≠ 5 := by decide) : okX w k x0 := by
 obtain ⟨h1, h2, h3, _, h4⟩ := x0_ok w
 exact ⟨h1, by omega, h3, fun h => absurd h h5, h4⟩
theorem memC {cs : List Cn} {c : Cn} (h : ∀ x ∈ cs, x.fields = []) (hc : c.fields = []) : ∀ x ∈ cs ++ [c], x.fields = [] := fun x hx => by
 rcases List.mem_append.1 hx with hx | hx
 ·exact h x hx
 ·rw [List.mem_singleton.1 hx]; exact hc
theorem okD0 {cs : List Cn} {ps : List Bytes} (h : ∀ x ∈ cs, x.fields = []) : ∀ d' ∈ [] ++ [d0 cs ps], okDa d' := fun d' hd c hc t ht => by
 rw [List.nil_append, List.mem_singleton] at hd
 subst hd
 rw [h c hc] at ht
 cases ht
theorem perm3 {α : Type} {a b c d e f g : α} : [a, b, c, d, e, f, g].Perm [e, a, b, c, d, f, g] := by
 have : ([a, b, c, d] ++ e :: [f, g]).Perm (e :: ([a, b, c, d] ++ [f, g])) := List.perm_middle
 exact this
theorem memT {fs : List Ty} (h : ∀ t ∈ fs, t = intT) : ∀ t ∈ fs ++ [intT], t = intT := fun t ht => by
 rcases List.mem_append.1 ht with ht | ht
 ·exact h t ht
 ·exact List.mem_singleton.1 ht
theorem okDf {fs : List Ty} {ps : List Bytes} (h : ∀ t ∈ fs, t = intT) : ∀ d' ∈ [] ++ [d0 [c0 fs] ps], okDa d' := fun d' hd c hc t ht => by
 rw [List.nil_append, List.mem_singleton] at hd
 subst hd
 rw [d0, List.mem_singleton] at hc
 subst hc
 rw [h t ht]
 simp [intT, conT, depthT, depthTs]
theorem tys_len {g : Ghost} {ta : List Ty} {xs : List Value} (h : TysAt g ta xs) : xs.length = ta.length * 5 := h.one.1
theorem take_len {n : Nat} {xs cs rest : List Value} (h : xs.length = n * 5) (hc : cs.length = 5) : ((xs ++ (cs ++ rest)).take ((n + 1) * 5)).length = (n + 1) * 5 := by
 rw [List.length_take, List.length_append, List.length_append]; omega
theorem take_mid {n : Nat} {xs cs rest : List Value} (h : xs.length = n * 5) (hc : cs.length = 5) : (xs ++ (cs ++ rest)).take ((n + 1) * 5) = xs ++ cs := by
 rw [← List.append_assoc, List.take_append_of_le_length (by rw [List.length_append]; omega), List.take_of_length_le (by rw [List.length_append]; omega)]
theorem c0_at (g : Ghost) : CnAt g (c0 []) [.int .i64 4, str [65], .slice none 0 0] := ⟨_, _, rfl, slNil g 5, tysNil g⟩
theorem lmany_spec (g : Ghost) (way n : Int) (h5 : modI way 7 = 5 → modI n 20 ≤ 9) : Eng.Spec Tryz.prog 19 [.int .i64 way, .int .i64 n] g [] ManyPost := by
 obtain ⟨w, hw⟩ : ∃ w : Nat, modI way 7 = w := ⟨(modI way 7).toNat, by have := modI_lt4 way 7 (by omega); omega⟩
 have hw7 : w < 7 := by have := modI_lt4 way 7 (by omega); omega
 obtain ⟨i, hi⟩ : ∃ i : Nat, modI n 20 = i := ⟨(modI n 20).toNat, by have := modI_lt4 n 20 (by omega); omega⟩
 have hi20 : i < 20 := by have := modI_lt4 n 20 (by omega); omega
 rw [hw, hi] at h5
 refine spec_of_run Tryz.func19 rfl Tryz.ntmps19 rfl fun E hE => ?_
 refine r_sr ?_
 refine r_alloc rfl (fun b4 => ?_)
 refine r_nn <| r_sr ?_
 refine r_alloc rfl (fun b5 => ?_)
 refine r_nn <| r_sr <| r_ev rfl rfl ?_
 refine r_callP rfl rfl (Mod_spec g n 20 (by omega)) ?_
 rw [hi]
 refine r_ev rfl rfl <| r_nn <| r_sr <| r_build rfl rfl (by rfl) ?_
 refine r_buildSlice rfl rfl (by rfl) (by rfl) (by rfl) (by rfl) (by rfl) (fun bc => ?_)
 refine r_build rfl rfl (by rfl) ?_
 refine r_alloc rfl (fun b7 => ?_)
 refine r_storeA 0 rfl rfl rfl rfl (by rfl) (by repeat' (first | exact rfl | assumption | refine all_cons ?_ ?_)) rfl ?_; refine r_nn <| r_sr <| r_build rfl rfl (by rfl) ?_; refine r_build rfl rfl (by rfl) ?_
 refine r_alloc rfl (fun b8 => ?_)
 refine r_storeA 0 rfl rfl rfl rfl (by rfl) rfl rfl ?_; refine r_nn ?_
 refine r_cutG (ι := Ghost × List Res) (fun _ => [(4, ptr b4 0), (5, ptr b5 0), (7, ptr b7 0), (8, ptr b8 0)]) (fun p => p.1) (fun p => p.2) (fun p => ∃ k, k ≤ 20 ∧ MSt w k p.1 b4 b5 b7 b8 p.2) ?_ ?_
 ·rintro ⟨g3, own⟩ ⟨k, hk20, ds, xd, a, m, c, bs, xb, a', m', c', d, dc, x, xc, ho, hds, hbs, hd, hx, hdl, hbl, hdo, hbo, hox⟩
  simp only at ho hds hbs hd hx
  subst ho
  have hdl1 : ds.length + 1 = (ds ++ [d]).length := by simp
  have hbl1 : bs.length + 1 = (bs ++ [x]).length := by simp
  replace hbo : ∀ b ∈ bs ++ [x], okBi b := fun b h => by
   rcases List.mem_append.1 h with h | h
   ·exact hbo b h
   ·rw [List.mem_singleton.1 h]; exact hox.bi hk20
  obtain ⟨y1, y2, y3, y4, y5, rfl, _⟩ := id hd.form
  obtain ⟨e1, e2, e3, e4, e5, e6, e7, e8, e9, e10, e11, e12, rfl, _⟩ := id hx.form
  show Run E _ [(4, ptr b4 0), (5, ptr b5 0), (7, ptr b7 0), (8, ptr b8 0)] g3 [.row 86 4 (.slice a m c) ds.length xd, .row 73 20 (.slice a' m' c') bs.length xb, .blk b8 73 _, .blk b7 86 _, .blk b5 29 [.slice a m c, .slice a' m' c'], .blk b4 29 [.slice none 0 0, .slice none 0 0]] _
  refine r_cutG (ι := Ghost × List Res) (fun _ => [(4, ptr b4 0), (5, ptr b5 0)]) (fun p => p.1) (fun p => p.2) (fun p => MEn p.1 b4 b5 p.2) ?_ ?_
  ·rintro ⟨g4, own⟩ ⟨ds', xd', a, m, c, bs', xb', a', m', c', u, u', ho, hds, hbs, hdl, hbl, hdo, hbo⟩
   simp only at ho hds hbs
   subst ho
   show Run E _ [(4, ptr b4 0), (5, ptr b5 0)] g4 [.row 86 4 (.slice a m c) ds'.length xd', .row 73 20 (.slice a' m' c') bs'.length xb', u, u', .blk b5 29 [.slice a m c, .slice a' m' c'], .blk b4 29 [.slice none 0 0, .slice none 0 0]] _
   refine r_sr <| r_loadB 4 rfl rfl rfl (by rfl) ?_
   refine r_storeA 5 rfl rfl rfl rfl (by rfl) rfl rfl ?_
   refine r_nn <| r_retc ?_
   exact r_retA [_, _] rfl (res_blk 5 rfl rfl (by rfl)) (.cons_cons _ (.cons_cons _ (List.nil_sublist _))) ⟨⟨ds', bs'⟩, _, _, _, _, rfl, rfl, hds, hbs, ⟨hdo, hbo⟩, hdl, hbl⟩
  ·intro K hK
   refine m_begin 11 [1, 0] mixed (by kernel_rfl) (fun hG => ?_)
   refine m_takeXA 0 rfl (by kernel_rfl) rfl hG ?_; refine ⟨_, (val_fieldAddr rfl), ?_⟩; refine m_takeXA 1 rfl (by kernel_rfl) rfl hG ?_; refine ⟨_, (val_loadB1 2 rfl rfl rfl), ?_⟩; refine m_takeXA 2 rfl (by kernel_rfl) rfl hG ?_; refine ⟨_, (val_loadB 1 rfl rfl (by rfl)), ?_⟩
   refine m_takeXA 5 rfl (by kernel_rfl) rfl hG ?_; refine ⟨_, (val_fieldAddr rfl), ?_⟩; refine m_takeXA 6 rfl (by kernel_rfl) rfl hG ?_; refine ⟨_, (val_loadB1 2 rfl rfl rfl), ?_⟩; refine m_takeXA 7 rfl (by kernel_rfl) rfl hG ?_; refine ⟨_, (val_loadB 0 rfl rfl (by rfl)), ?_⟩
   refine m_two 3 8 (by kernel_rfl) rfl rfl rfl rfl ?_ ?_
   ·skip
    refine r_buildSlice rfl rfl (by rfl) (by rfl) (by rfl) (by rfl) (by rfl) (fun y1 => ?_)
    refine r_nn ?_
    refine h_keptA hG ?_
    refine m_two 4 8 (by kernel_rfl) rfl rfl rfl rfl ?_ ?_
    ·skip
     refine r_appendRow 1 0 rfl rfl rfl rfl rfl (by rfl) (by rfl) rfl (by unfold maxLen; omega) (by omega) (fun w1 _ => ?_)
     refine r_rowForm 1 rfl ?_
     rintro ⟨z1, z2, z3, rfl⟩
     refine r_nn ?_
     refine h_keptA hG ?_
     refine m_takeXA 10 rfl (by kernel_rfl) rfl hG ?_; refine ⟨_, (val_fieldAddr rfl), ?_⟩
     refine m_one 8 (by kernel_rfl) rfl rfl ?_
     skip
     refine r_buildSlice rfl rfl (by rfl) (by rfl) (by rfl) (by rfl) (by rfl) (fun y2 => ?_)
     refine r_nn ?_
     refine h_keptA hG ?_
     refine m_one 9 (by kernel_rfl) rfl rfl ?_
     skip
     refine r_appendRow 3 0 rfl rfl rfl rfl rfl (by rfl) (by rfl) rfl (by unfold maxLen; omega) (by omega) (fun w2 _ => ?_)
     refine r_rowForm 3 rfl ?_
     rintro ⟨z4, z5, z6, rfl⟩
     refine r_nn ?_
     refine h_keptA hG ?_
     refine m_done (by kernel_rfl) ?_
     refine r_drop (own' := [_, _, _, _, _, _]) (.cons _ (.cons _ (List.Sublist.refl _))) ?_
     skip
     refine r_store1 4 rfl rfl rfl rfl rfl rfl ?_
     refine r_fieldAddr rfl rfl ?_
     refine r_store1 4 rfl rfl rfl rfl rfl rfl ?_
     refine r_nn ?_
     exact hK (g3, _) _ ⟨ds ++ [d], _, _, _, _, bs ++ [x], _, _, _, _, _, _, by first | (rw [← hdl1, ← hbl1]; done) | (rw [← hdl1, ← hbl1]; rfl), AllAt.snoc hd hds, AllAt.snoc hx hbs, by omega, by omega, hdo, hbo⟩ ⟨rfl, rfl, trivial⟩
    ·skip
     refine r_buildSlice rfl rfl (by rfl) (by rfl) (by rfl) (by rfl) (by rfl) (fun y2 => ?_)
     refine r_nn ?_
     refine h_keptA hG ?_
     refine m_one 4 (by kernel_rfl) rfl rfl ?_
     skip
     refine r_appendRow 2 1 rfl rfl rfl rfl rfl (by rfl) (by rfl) rfl (by unfold maxLen; omega) (by omega) (fun w1 _ => ?_)
     refine r_rowForm 2 rfl ?_
     rintro ⟨z1, z2, z3, rfl⟩
     refine r_nn ?_
     refine h_keptA hG ?_
     refine m_takeXA 10 rfl (by kernel_rfl) rfl hG ?_; refine ⟨_, (val_fieldAddr rfl), ?_⟩
     refine m_one 9 (by kernel_rfl) rfl rfl ?_
     skip
     refine r_appendRow 3 0 rfl rfl rfl rfl rfl (by rfl) (by rfl) rfl (by unfold maxLen; omega) (by omega) (fun w2 _ => ?_)
     refine r_rowForm 3 rfl ?_
     rintro ⟨z4, z5, z6, rfl⟩
     refine r_nn ?_
     refine h_keptA hG ?_
     refine m_done (by kernel_rfl) ?_
     refine r_drop (own' := [_, _, _, _, _, _]) (.cons _ (.cons _ (List.Sublist.refl _))) ?_
     skip
     refine r_store1 4 rfl rfl rfl rfl rfl rfl ?_
     refine r_fieldAddr rfl rfl ?_
     refine r_store1 4 rfl rfl rfl rfl rfl rfl ?_
     refine r_nn ?_
     exact hK (g3, _) _ ⟨ds ++ [d], _, _, _, _, bs ++ [x], _, _, _, _, _, _, by first | (rw [← hdl1, ← hbl1]; done) | (rw [← hdl1, ← hbl1]; rfl), AllAt.snoc hd hds, AllAt.snoc hx hbs, by omega, by omega, hdo, hbo⟩ ⟨rfl, rfl, trivial⟩
   ·skip
    refine r_buildSlice rfl rfl (by rfl) (by rfl) (by rfl) (by rfl) (by rfl) (fun y2 => ?_)
    refine r_nn ?_
    refine h_keptA hG ?_
    refine m_one 3 (by kernel_rfl) rfl rfl ?_
    skip
    refine r_buildSlice rfl rfl (by rfl) (by rfl) (by rfl) (by rfl) (by rfl) (fun y1 => ?_)
    refine r_nn ?_
    refine h_keptA hG ?_
    refine m_one 4 (by kernel_rfl) rfl rfl ?_
    skip
    refine r_appendRow 2 0 rfl rfl rfl rfl rfl (by rfl) (by rfl) rfl (by unfold maxLen; omega) (by omega) (fun w1 _ => ?_)
    refine r_rowForm 2 rfl ?_
    rintro ⟨z1, z2, z3, rfl⟩
    refine r_nn ?_
    refine h_keptA hG ?_
    refine m_takeXA 10 rfl (by kernel_rfl) rfl hG ?_; refine ⟨_, (val_fieldAddr rfl), ?_⟩
    refine m_one 9 (by kernel_rfl) rfl rfl ?_
    skip
    refine r_appendRow 3 1 rfl rfl rfl rfl rfl (by rfl) (by rfl) rfl (by unfold maxLen; omega) (by omega) (fun w2 _ => ?_)
    refine r_rowForm 3 rfl ?_
    rintro ⟨z4, z5, z6, rfl⟩
    refine r_nn ?_
    refine h_keptA hG ?_
    refine m_done (by kernel_rfl) ?_
    refine r_drop (own' := [_, _, _, _, _, _]) (.cons _ (.cons _ (List.Sublist.refl _))) ?_
    skip
    refine r_store1 4 rfl rfl rfl rfl rfl rfl ?_
    refine r_fieldAddr rfl rfl ?_
    refine r_store1 4 rfl rfl rfl rfl rfl rfl ?_
    refine r_nn ?_
    exact hK (g3, _) _ ⟨ds ++ [d], _, _, _, _, bs ++ [x], _, _, _, _, _, _, by first | (rw [← hdl1, ← hbl1]; done) | (rw [← hdl1, ← hbl1]; rfl), AllAt.snoc hd hds, AllAt.snoc hx hbs, by omega, by omega, hdo, hbo⟩ ⟨rfl, rfl, trivial⟩
 ·intro K hK
  have hc : w = 0 ∨ w = 1 ∨ w = 2 ∨ w = 3 ∨ w = 4 ∨ w = 5 ∨ w = 6 := by omega
  rcases hc with rfl | rfl | rfl | rfl | rfl | rfl | rfl
  ·refine r_perm (own' := [_, _, _, _, _]) (List.Perm.trans (List.Perm.cons _ (List.Perm.swap _ _ _)) (List.Perm.swap _ _ _)) ?_
   refine r_publishRow (fun g1 hle1 hs1 => ?_)
   refine r_nilRow 73 20 ?_
   refine r_nilRow 86 4 ?_
   refine r_sr <| r_ev rfl rfl <| r_nn <| r_block ?_
   refine r_loop (ι := Nat × Ghost × List Res) (fun o => [(0, .int .i64 way), (4, ptr b4 0), (5, ptr b5 0), (6, .int .i64 i), (7, ptr b7 0), (8, ptr b8 0), (9, .int .i64 o.1)]) (fun o => o.2.1) (fun o => o.2.2) (fun o => o.1 ≤ i ∧ MSt 0 o.1 o.2.1 b4 b5 b7 b8 o.2.2) (fun o => i - o.1) (0, g1, _) ⟨by omega, ⟨[], [], none, 0, 0, [], [], none, 0, 0, d0 [c0 []] [], _, x0, _, rfl, rfl, rfl, ⟨_, _, _, rfl, slNil g1 1, hs1, one_at (c0_at g1)⟩, x0_at g1, Nat.le_refl _, Nat.le_refl _, by simp [okDa, d0, c0], by simp, x0_ok _⟩⟩ ⟨rfl, rfl, rfl, rfl, rfl, rfl, rfl, trivial⟩ rfl rfl ?_
   rintro ⟨k, g2, own⟩ ⟨hk, hM⟩
   simp only at hk hM
   have hM0 := hM
   obtain ⟨ds, xd, a, m, c, bs, xb, a', m', c', d, dc, x, xc, ho, hds, hbs, hd, hx, hdl, hbl, hdo, hbo, hox⟩ := hM
   subst ho
   obtain ⟨y1, y2, y3, y4, y5, rfl, hd1, hd2, hd3⟩ := id hd.form
   obtain ⟨e1, e2, e3, e4, e5, e6, e7, e8, e9, e10, e11, e12, rfl, hxs, hxe⟩ := id hx.form
   show Run E _ [(0, .int .i64 way), (4, ptr b4 0), (5, ptr b5 0), (6, .int .i64 i), (7, ptr b7 0), (8, ptr b8 0), (9, .int .i64 k)] g2 [.row 86 4 (.slice a m c) ds.length xd, .row 73 20 (.slice a' m' c') bs.length xb, .blk b8 73 _, .blk b7 86 _, .blk b5 29 [.slice a m c, .slice a' m' c'], .blk b4 29 [.slice none 0 0, .slice none 0 0]] _
   refine r_seq <| r_sr <| r_ev rfl rfl <| r_ev rfl rfl <| r_ev rfl rfl <| r_nn ?_
   refine r_cond rfl (fun hlt => ?_) (fun hlt => ?_)
   ·have hlt' : k < i := by omega
    refine r_skip <| r_then_normal <| r_seq <| r_block <| r_sr <| r_ev rfl rfl ?_
    refine r_callP rfl rfl (Mod_spec g2 way 7 (by omega)) ?_
    rw [hw]
    refine r_nn <| r_block <| r_sr <| r_ev rfl rfl <| r_ev rfl rfl <| r_nn <| r_cond_true rfl <| r_region <| r_fieldAddr rfl rfl <| r_loadB1 4 rfl rfl rfl rfl <| r_ev rfl rfl <| r_fieldAddr rfl rfl <| r_loadB1 3 rfl rfl rfl rfl <| r_build rfl rfl (by rfl) ?_
    refine r_buildSlice rfl rfl (by rfl) (by rfl) (by rfl) (by rfl) (by rfl) (fun y6 => ?_)
    skip
    refine r_appendRow 1 0 rfl rfl rfl rfl rfl (by rfl) (by rfl) rfl (by unfold maxLen; omega) (by omega) (fun w1 _ => ?_)
    refine r_rowForm 1 rfl ?_
    rintro ⟨z1, z2, z3, rfl⟩
    refine r_drop (own' := [_, _, _, _, _, _]) (.cons _ (List.Sublist.refl _)) ?_
    refine r_fieldAddr rfl rfl ?_
    refine r_store1 4 rfl rfl rfl rfl rfl rfl ?_
    refine r_nil <| r_in_normal <| r_in_normal <| r_then_normal <| r_region <| r_ev rfl rfl <| r_add rfl rfl rfl (by omega) ?_; refine r_ev rfl rfl <| r_nn ?_
    have hn : ds.length + 1 = (ds ++ [(⟨k, [84], [], d.cons⟩ : Da)]).length := by simp
    have hdok := hdo d (by simp)
    refine r_again (k + 1, g2, _) ⟨by omega, ds ++ [(⟨k, [84], [], d.cons⟩ : Da)], _, _, _, _, bs, _, _, _, _, d, _, x, _, by first | (rw [← hn]; done) | (rw [← hn]; rfl), AllAt.snoc ⟨_, _, _, rfl, slNil g2 1, hd2, hd3⟩ hds, hbs, hd, hx, by omega, by omega, hmem2 hdo hdok, hbo, ⟨hox.1, by have := hox.2.1; omega, hox.2.2.1, fun h => absurd h (by decide), hox.2.2.2.2⟩⟩ (by simp only; omega) ⟨rfl, rfl, rfl, rfl, rfl, rfl, rfl, trivial⟩ rfl rfl
   ·obtain rfl : k = i := by omega
    refine r_exit <| r_then_exit <| r_then_exit <| r_in_exit <| r_then_normal ?_
    exact hK (g2, _) _ ⟨k, by omega, hM0⟩ ⟨rfl, rfl, rfl, rfl, trivial⟩
  ·refine r_perm (own' := [_, _, _, _, _]) (List.Perm.trans (List.Perm.cons _ (List.Perm.swap _ _ _)) (List.Perm.swap _ _ _)) ?_
   refine r_publishRow (fun g1 hle1 hs1 => ?_)
   refine r_nilRow 73 20 ?_
   refine r_nilRow 86 4 ?_
   refine r_nilRow 9 1 ?_
   refine r_sr <| r_ev rfl rfl <| r_nn <| r_block ?_
   refine r_loop (ι := Nat × Ghost × List Res) (fun o => [(0, .int .i64 way), (4, ptr b4 0), (5, ptr b5 0), (6, .int .i64 i), (7, ptr b7 0), (8, ptr b8 0), (9, .int .i64 o.1)]) (fun o => o.2.1) (fun o => o.2.2) (fun o => o.1 ≤ i ∧ ∃ (ps : List Bytes) (a : Option Addr) (m c : Nat), ps.length = o.1 ∧ Ghost.le g1 o.2.1 ∧ o.2.2 = [.row 9 1 (.slice a m c) ps.length (ps.map str), .row 86 4 (.slice none 0 0) 0 [], .row 73 20 (.slice none 0 0) 0 [], .blk b8 73 [.int .i64 8, .bool false, str [120], .bool false, .int .i64 0, str [], .int .i64 0, .int .i64 0, .slice none 0 0, .int .i64 3, .int .i64 9, str [], .int .i64 0, .slice none 0 0, .slice none 0 0, .int .i64 0, str [], .int .i64 0, .int .i64 0, .slice none 0 0], .blk b7 86 [.int .i64 3, str [84], .slice a m c, (.slice (some ⟨bc, 0, none⟩) 1 1)], .blk b5 29 [.slice none 0 0, .slice none 0 0], .blk b4 29 [.slice none 0 0, .slice none 0 0]]) (fun o => i - o.1) (0, g1, _) ⟨by omega, [], none, 0, 0, rfl, Ghost.le_refl _, rfl⟩ ⟨rfl, rfl, rfl, rfl, rfl, rfl, rfl, trivial⟩ rfl rfl ?_
   rintro ⟨k, g2, own⟩ ⟨hk, hM⟩
   simp only at hk hM
   obtain ⟨ps, a, m, c, hpl, hle2, ho⟩ := hM
   subst ho
   show Run E _ [(0, .int .i64 way), (4, ptr b4 0), (5, ptr b5 0), (6, .int .i64 i), (7, ptr b7 0), (8, ptr b8 0), (9, .int .i64 k)] g2 [.row 9 1 (.slice a m c) ps.length (ps.map str), .row 86 4 (.slice none 0 0) 0 [], .row 73 20 (.slice none 0 0) 0 [], .blk b8 73 [.int .i64 8, .bool false, str [120], .bool false, .int .i64 0, str [], .int .i64 0, .int .i64 0, .slice none 0 0, .int .i64 3, .int .i64 9, str [], .int .i64 0, .slice none 0 0, .slice none 0 0, .int .i64 0, str [], .int .i64 0, .int .i64 0, .slice none 0 0], .blk b7 86 [.int .i64 3, str [84], .slice a m c, (.slice (some ⟨bc, 0, none⟩) 1 1)], .blk b5 29 [.slice none 0 0, .slice none 0 0], .blk b4 29 [.slice none 0 0, .slice none 0 0]] _
   refine r_seq <| r_sr <| r_ev rfl rfl <| r_ev rfl rfl <| r_ev rfl rfl <| r_nn ?_
   refine r_cond rfl (fun hlt => ?_) (fun hlt => ?_)
   ·have hlt' : k < i := by omega
    refine r_skip <| r_then_normal <| r_seq <| r_block <| r_sr <| r_ev rfl rfl ?_
    refine r_callP rfl rfl (Mod_spec g2 way 7 (by omega)) ?_
    rw [hw]
    refine r_nn <| r_block <| r_sr <| r_ev rfl rfl <| r_ev rfl rfl <| r_nn <| r_cond_false rfl <| r_sr <| r_ev rfl rfl <| r_ev rfl rfl <| r_nn <| r_cond_true rfl ?_
    obtain ⟨s, hs3, hns⟩ := num20 g2 k (by omega)
    refine m_begin 7 [0] mixed (by kernel_rfl) (fun hG => ?_)
    refine m_takeXA 0 rfl (by kernel_rfl) rfl hG ?_; refine ⟨_, (val_fieldAddr rfl), ?_⟩; refine m_takeXA 1 rfl (by kernel_rfl) rfl hG ?_; refine ⟨_, (val_loadB1 3 rfl rfl rfl), ?_⟩; refine m_takeXA 2 rfl (by kernel_rfl) rfl hG ?_; refine ⟨_, (val_ev rfl), ?_⟩
    refine m_one 3 (by kernel_rfl) rfl rfl ?_
    skip
    refine r_callP rfl rfl hns ?_
    refine r_nn ?_
    refine h_keptA hG ?_
    refine m_takeXA 4 rfl (by kernel_rfl) rfl hG ⟨_, (val_add_str rfl rfl (by simp; omega)), ?_⟩
    refine m_one 5 (by kernel_rfl) rfl rfl ?_
    skip
    refine r_buildSlice rfl rfl (by rfl) (by rfl) (by rfl) (by rfl) (by rfl) (fun y6 => ?_)
    refine r_nn ?_
    refine h_keptA hG ?_
    refine m_one 6 (by kernel_rfl) rfl rfl ?_
    skip
    refine r_appendRow 1 0 rfl rfl rfl rfl rfl (by rfl) (by rfl) rfl (by unfold maxLen; omega) (by omega) (fun w1 _ => ?_)
    refine r_rowForm 1 rfl ?_
    rintro ⟨z1, z2, z3, rfl⟩
    refine r_nn ?_
    refine h_keptA hG ?_
    refine m_done (by kernel_rfl) ?_
    refine r_drop (own' := [_, _, _, _, _, _, _]) (.cons _ (List.Sublist.refl _)) ?_
    refine r_fieldAddr rfl rfl ?_
    refine r_store1 4 rfl rfl rfl rfl rfl rfl ?_
    refine r_nil <| r_in_normal <| r_in_normal <| r_then_normal <| r_region <| r_ev rfl rfl <| r_add rfl rfl rfl (by omega) ?_; refine r_ev rfl rfl <| r_nn ?_
    have hn : ps.length + 1 = (ps ++ [[110] ++ s]).length := by simp
    have hn2 : (ps ++ [[110] ++ s]).map str = ps.map str ++ [str ([110] ++ s)] := by simp
    exact r_again (k + 1, g2, _) ⟨by omega, ps ++ [[110] ++ s], _, _, _, by simp; omega, hle2, by first | (rw [← hn, hn2]; done) | (rw [← hn, hn2]; rfl)⟩ (by simp only; omega) ⟨rfl, rfl, rfl, rfl, rfl, rfl, rfl, trivial⟩ rfl rfl
   ·obtain rfl : k = i := by omega
    refine r_exit <| r_then_exit <| r_then_exit <| r_in_exit <| r_then_normal ?_
    refine r_publishRow (fun g3 hle3 hs3 => ?_)
    have hle := Ghost.le_trans hle2 hle3
    exact hK (g3, _) _ ⟨k, by omega, [], [], none, 0, 0, [], [], none, 0, 0, d0 [c0 []] ps, _, x0, _, rfl, rfl, rfl, ⟨_, _, _, rfl, hs3, hs1.mono hle, one_at (c0_at g3)⟩, x0_at g3, Nat.zero_le _, Nat.zero_le _, by simp [okDa, d0, c0], by simp, okX0 _ _⟩ ⟨rfl, rfl, rfl, rfl, trivial⟩
  ·refine r_nilRow 73 20 ?_
   refine r_nilRow 86 4 ?_
   refine r_perm (own' := [_, _, _, _, _, _, _]) perm3 ?_
   refine r_sr <| r_ev rfl rfl <| r_nn <| r_block ?_
   refine r_loop (ι := Nat × Ghost × List Res) (fun o => [(0, .int .i64 way), (4, ptr b4 0), (5, ptr b5 0), (6, .int .i64 i), (7, ptr b7 0), (8, ptr b8 0), (9, .int .i64 o.1)]) (fun o => o.2.1) (fun o => o.2.2) (fun o => o.1 ≤ i ∧ ∃ (cs : List Cn) (xs : List Value) (a : Option Addr) (m c : Nat), AllAt (CnAt o.2.1) cs xs ∧ (∀ c ∈ cs, c.fields = []) ∧ cs.length ≤ o.1 + 1 ∧ o.2.2 = [.row 98 3 (.slice a m c) cs.length xs, .row 86 4 (.slice none 0 0) 0 [], .row 73 20 (.slice none 0 0) 0 [], .blk b8 73 [.int .i64 8, .bool false, str [120], .bool false, .int .i64 0, str [], .int .i64 0, .int .i64 0, .slice none 0 0, .int .i64 3, .int .i64 9, str [], .int .i64 0, .slice none 0 0, .slice none 0 0, .int .i64 0, str [], .int .i64 0, .int .i64 0, .slice none 0 0], .blk b7 86 [.int .i64 3, str [84], .slice none 0 0, .slice a m c], .blk b5 29 [.slice none 0 0, .slice none 0 0], .blk b4 29 [.slice none 0 0, .slice none 0 0]]) (fun o => i - o.1) (0, g, _) ⟨by omega, [c0 []], _, _, _, _, one_at (c0_at g), by simp [c0], Nat.le_refl _, rfl⟩ ⟨rfl, rfl, rfl, rfl, rfl, rfl, rfl, trivial⟩ rfl rfl ?_
   rintro ⟨k, g2, own⟩ ⟨hk, hM⟩
   simp only at hk hM
   obtain ⟨cs, xs, a, m, c, hcs, hcf, hcl, ho⟩ := hM
   subst ho
   show Run E _ [(0, .int .i64 way), (4, ptr b4 0), (5, ptr b5 0), (6, .int .i64 i), (7, ptr b7 0), (8, ptr b8 0), (9, .int .i64 k)] g2 [.row 98 3 (.slice a m c) cs.length xs, .row 86 4 (.slice none 0 0) 0 [], .row 73 20 (.slice none 0 0) 0 [], .blk b8 73 [.int .i64 8, .bool false, str [120], .bool false, .int .i64 0, str [], .int .i64 0, .int .i64 0, .slice none 0 0, .int .i64 3, .int .i64 9, str [], .int .i64 0, .slice none 0 0, .slice none 0 0, .int .i64 0, str [], .int .i64 0, .int .i64 0, .slice none 0 0], .blk b7 86 [.int .i64 3, str [84], .slice none 0 0, .slice a m c], .blk b5 29 [.slice none 0 0, .slice none 0 0], .blk b4 29 [.slice none 0 0, .slice none 0 0]] _
   refine r_seq <| r_sr <| r_ev rfl rfl <| r_ev rfl rfl <| r_ev rfl rfl <| r_nn ?_
   refine r_cond rfl (fun hlt => ?_) (fun hlt => ?_)
   ·have hlt' : k < i := by omega
    refine r_skip <| r_then_normal <| r_seq <| r_block <| r_sr <| r_ev rfl rfl ?_
    refine r_callP rfl rfl (Mod_spec g2 way 7 (by omega)) ?_
    rw [hw]
    refine r_nn <| r_block <| r_sr <| r_ev rfl rfl <| r_ev rfl rfl <| r_nn <| r_cond_false rfl <| r_sr <| r_ev rfl rfl <| r_ev rfl rfl <| r_nn <| r_cond_false rfl <| r_sr <| r_ev rfl rfl ?_; refine r_ev rfl rfl <| r_nn <| r_cond_true rfl <| r_region <| r_fieldAddr rfl rfl <| r_loadB1 4 rfl rfl rfl rfl <| r_ev rfl rfl <| r_build rfl rfl (by rfl) ?_
    refine r_buildSlice rfl rfl (by rfl) (by rfl) (by rfl) (by rfl) (by rfl) (fun y6 => ?_)
    skip
    refine r_appendRow 1 0 rfl rfl rfl rfl rfl (by rfl) (by rfl) rfl (by unfold maxLen; omega) (by omega) (fun w1 _ => ?_)
    refine r_rowForm 1 rfl ?_
    rintro ⟨z1, z2, z3, rfl⟩
    refine r_drop (own' := [_, _, _, _, _, _, _]) (.cons _ (List.Sublist.refl _)) ?_
    refine r_fieldAddr rfl rfl ?_
    refine r_store1 4 rfl rfl rfl rfl rfl rfl ?_
    refine r_nil <| r_in_normal <| r_in_normal <| r_then_normal <| r_region <| r_ev rfl rfl <| r_add rfl rfl rfl (by omega) ?_; refine r_ev rfl rfl <| r_nn ?_
    have hn : cs.length + 1 = (cs ++ [(⟨k, [66], []⟩ : Cn)]).length := by simp
    exact r_again (k + 1, g2, _) ⟨by omega, cs ++ [(⟨k, [66], []⟩ : Cn)], _, _, _, _, AllAt.snoc ⟨_, _, rfl, slNil g2 5, tysNil g2⟩ hcs, memC hcf rfl, by omega, by first | (rw [← hn]; done) | (rw [← hn]; rfl)⟩ (by simp only; omega) ⟨rfl, rfl, rfl, rfl, rfl, rfl, rfl, trivial⟩ rfl rfl
   ·obtain rfl : k = i := by omega
    refine r_exit <| r_then_exit <| r_then_exit <| r_in_exit <| r_then_normal ?_
    refine r_publishRow (fun g3 hle3 hs3 => ?_)
    exact hK (g3, _) _ ⟨k, by omega, [], [], none, 0, 0, [], [], none, 0, 0, d0 cs [], _, x0, _, rfl, rfl, rfl, ⟨_, _, _, rfl, slNil g3 1, hs3, cns_mono hle3 hcs⟩, x0_at g3, Nat.zero_le _, Nat.zero_le _, okD0 hcf, by simp, okX0 _ _⟩ ⟨rfl, rfl, rfl, rfl, trivial⟩
  ·refine r_nilRow 73 20 ?_
   refine r_nilRow 86 4 ?_
   refine r_perm (own' := [_, _, _, _, _, _, _]) perm3 ?_
   refine r_rowBlkL (fun rest _ _ _ hrl => ?_)
   obtain rfl : rest = [] := by simp at hrl; exact hrl.2
   rw [List.append_nil]
   refine r_nilRow 49 5 ?_
   refine r_sr <| r_ev rfl rfl <| r_nn <| r_block ?_
   refine r_loop (ι := Nat × Ghost × List Res) (fun o => [(0, .int .i64 way), (4, ptr b4 0), (5, ptr b5 0), (6, .int .i64 i), (7, ptr b7 0), (8, ptr b8 0), (9, .int .i64 o.1)]) (fun o => o.2.1) (fun o => o.2.2) (fun o => o.1 ≤ i ∧ ∃ (fs : List Ty) (xs : List Value) (a : Option Addr) (c : Nat), TysAt o.2.1 fs xs ∧ (∀ t ∈ fs, t = intT) ∧ fs.length = o.1 ∧ o.2.2 = [.row 49 5 (.slice a fs.length c) fs.length xs, .blk bc 98 [.int .i64 4, str [65], .slice a fs.length c], .row 86 4 (.slice none 0 0) 0 [], .row 73 20 (.slice none 0 0) 0 [], .blk b8 73 [.int .i64 8, .bool false, str [120], .bool false, .int .i64 0, str [], .int .i64 0, .int .i64 0, .slice none 0 0, .int .i64 3, .int .i64 9, str [], .int .i64 0, .slice none 0 0, .slice none 0 0, .int .i64 0, str [], .int .i64 0, .int .i64 0, .slice none 0 0], .blk b7 86 [.int .i64 3, str [84], .slice none 0 0, (.slice (some ⟨bc, 0, none⟩) 1 1)], .blk b5 29 [.slice none 0 0, .slice none 0 0], .blk b4 29 [.slice none 0 0, .slice none 0 0]]) (fun o => i - o.1) (0, g, _) ⟨by omega, [], _, _, _, tysNil g, by simp, rfl, rfl⟩ ⟨rfl, rfl, rfl, rfl, rfl, rfl, rfl, trivial⟩ rfl rfl ?_
   rintro ⟨k, g2, own⟩ ⟨hk, hM⟩
   simp only at hk hM
   obtain ⟨fs, xs, a, c, hts, hft, hfl, ho⟩ := hM
   subst ho
   show Run E _ [(0, .int .i64 way), (4, ptr b4 0), (5, ptr b5 0), (6, .int .i64 i), (7, ptr b7 0), (8, ptr b8 0), (9, .int .i64 k)] g2 [.row 49 5 (.slice a fs.length c) fs.length xs, .blk bc 98 [.int .i64 4, str [65], .slice a fs.length c], .row 86 4 (.slice none 0 0) 0 [], .row 73 20 (.slice none 0 0) 0 [], .blk b8 73 [.int .i64 8, .bool false, str [120], .bool false, .int .i64 0, str [], .int .i64 0, .int .i64 0, .slice none 0 0, .int .i64 3, .int .i64 9, str [], .int .i64 0, .slice none 0 0, .slice none 0 0, .int .i64 0, str [], .int .i64 0, .int .i64 0, .slice none 0 0], .blk b7 86 [.int .i64 3, str [84], .slice none 0 0, (.slice (some ⟨bc, 0, none⟩) 1 1)], .blk b5 29 [.slice none 0 0, .slice none 0 0], .blk b4 29 [.slice none 0 0, .slice none 0 0]] _
   refine r_seq <| r_sr <| r_ev rfl rfl <| r_ev rfl rfl <| r_ev rfl rfl <| r_nn ?_
   refine r_cond rfl (fun hlt => ?_) (fun hlt => ?_)
   ·have hlt' : k < i := by omega
    refine r_skip <| r_then_normal <| r_seq <| r_block <| r_sr <| r_ev rfl rfl ?_
    refine r_callP rfl rfl (Mod_spec g2 way 7 (by omega)) ?_
    rw [hw]
    refine r_nn <| r_block <| r_sr <| r_ev rfl rfl <| r_ev rfl rfl <| r_nn <| r_cond_false rfl <| r_sr <| r_ev rfl rfl <| r_ev rfl rfl <| r_nn <| r_cond_false rfl <| r_sr <| r_ev rfl rfl ?_; refine r_ev rfl rfl <| r_nn <| r_cond_false rfl <| r_sr <| r_ev rfl rfl <| r_ev rfl rfl <| r_nn <| r_cond_true rfl <| r_seq ?_
    refine h_beginE [] mixed (fun hG => ?_)
    refine h_one 0 (by kernel_rfl) rfl ?_
    skip
    refine r_alloc rfl (fun y0 => ?_)
    refine r_nn ?_
    refine h_keptA hG ?_
    refine h_two 1 2 (by kernel_rfl) rfl rfl ?_ ?_
    ·refine r_store1 0 rfl rfl rfl rfl rfl rfl <| r_nn ?_
     refine h_keptA hG ?_
     refine h_one 2 (by kernel_rfl) rfl ?_
     refine r_store1 0 rfl rfl rfl rfl rfl rfl <| r_nn ?_
     refine h_keptA hG ?_
     refine h_one 3 (by kernel_rfl) rfl ?_
     refine r_loadB1 0 rfl rfl rfl rfl <| r_nn ?_
     refine h_keptA hG ?_
     refine h_done (by kernel_rfl) ?_
     refine r_drop (own' := [_, _, _, _, _, _, _, _]) (.cons _ (List.Sublist.refl _)) ?_
     refine r_then_normal <| r_cond_false rfl ?_
     refine m_begin 10 [0] mixed (by kernel_rfl) (fun hG => ?_)
     refine m_takeXA 0 rfl (by kernel_rfl) rfl hG ?_; refine ⟨_, (val_fieldAddr rfl), ?_⟩; refine m_takeXA 1 rfl (by kernel_rfl) rfl hG ?_; refine ⟨_, (val_loadB1 4 rfl rfl rfl), ?_⟩; refine m_takeXA 2 rfl (by kernel_rfl) rfl hG ?_; refine ⟨_, (val_fieldAddr rfl), ?_⟩; refine m_takeXA 3 rfl (by kernel_rfl) rfl hG ?_; refine ⟨_, (val_loadB1 4 rfl rfl rfl), ?_⟩; refine m_takeXA 4 rfl (by kernel_rfl) rfl hG ?_; refine ⟨_, (val_indexAddr (j := 0) rfl rfl rfl (by omega)), ?_⟩; refine m_takeXA 5 rfl (by kernel_rfl) rfl hG ?_; refine ⟨_, (val_fieldAddr rfl), ?_⟩; refine m_takeXA 6 rfl (by kernel_rfl) rfl hG ?_; refine ⟨_, (val_loadB1 0 rfl rfl rfl), ?_⟩
     refine m_one 7 (by kernel_rfl) rfl rfl ?_
     skip
     refine r_callN rfl rfl (rInt_spec g2) ?_
     rintro u g3 hu hle3
     obtain ⟨q1, q2, q3, rfl, hut⟩ := hu.cells5
     refine r_nn ?_
     refine h_keptA hG ?_
     refine m_one 8 (by kernel_rfl) rfl rfl ?_
     skip
     refine r_buildSlice rfl rfl (by rfl) (by rfl) (by rfl) (by rfl) (by rfl) (fun y6 => ?_)
     refine r_nn ?_
     refine h_keptA hG ?_
     refine m_one 9 (by kernel_rfl) rfl rfl ?_
     skip
     refine r_appendRow 1 0 rfl rfl rfl rfl rfl (by rfl) (by rfl) rfl (by unfold maxLen; omega) (by omega) (fun w1 _ => ?_)
     refine r_rowLen 1 rfl ?_
     rintro ⟨z1, z2, rfl⟩
     refine r_nn ?_
     refine h_keptA hG ?_
     refine m_done (by kernel_rfl) ?_
     refine r_drop (own' := [_, _, _, _, _, _, _, _]) (.cons _ (List.Sublist.refl _)) ?_
     refine r_indexAddr (j := 0) rfl rfl rfl rfl (by omega) ?_; refine r_fieldAddr rfl rfl <| r_store1 1 rfl rfl rfl rfl rfl rfl <| r_nil <| r_in_normal <| r_in_normal <| r_then_normal <| r_region <| r_ev rfl rfl <| r_add rfl rfl rfl (by omega) ?_; refine r_ev rfl rfl <| r_nn ?_
     have hn : fs.length + 1 = (fs ++ [intT]).length := by simp
     exact r_again (k + 1, g3, _) ⟨by omega, fs ++ [intT], _, _, _, TysAt.snoc hut (hts.mono hle3), memT hft, by simp; omega, by first | (rw [← hn]; done) | (rw [← hn]; rfl)⟩ (by simp only; omega) ⟨rfl, rfl, rfl, rfl, rfl, rfl, rfl, trivial⟩ rfl rfl
    ·refine r_store1 0 rfl rfl rfl rfl rfl rfl <| r_nn ?_
     refine h_keptA hG ?_
     refine h_one 1 (by kernel_rfl) rfl ?_
     refine r_store1 0 rfl rfl rfl rfl rfl rfl <| r_nn ?_
     refine h_keptA hG ?_
     refine h_one 3 (by kernel_rfl) rfl ?_
     refine r_loadB1 0 rfl rfl rfl rfl <| r_nn ?_
     refine h_keptA hG ?_
     refine h_done (by kernel_rfl) ?_
     refine r_drop (own' := [_, _, _, _, _, _, _, _]) (.cons _ (List.Sublist.refl _)) ?_
     refine r_then_normal <| r_cond_true rfl <| r_seq ?_
     refine m_begin 9 [0] mixed (by kernel_rfl) (fun hG => ?_)
     refine m_takeXA 0 rfl (by kernel_rfl) rfl hG ?_; refine ⟨_, (val_fieldAddr rfl), ?_⟩; refine m_takeXA 1 rfl (by kernel_rfl) rfl hG ?_; refine ⟨_, (val_loadB1 4 rfl rfl rfl), ?_⟩; refine m_takeXA 2 rfl (by kernel_rfl) rfl hG ?_; refine ⟨_, (val_indexAddr (j := 0) rfl rfl rfl (by omega)), ?_⟩; refine m_takeXA 3 rfl (by kernel_rfl) rfl hG ?_; refine ⟨_, (val_fieldAddr rfl), ?_⟩; refine m_takeXA 4 rfl (by kernel_rfl) rfl hG ?_; refine ⟨_, (val_loadB1 0 rfl rfl rfl), ?_⟩
     refine m_takeXA 6 rfl (by kernel_rfl) rfl hG ?_; refine ⟨_, (val_len_sl rfl), ?_⟩
     refine m_two 5 7 (by kernel_rfl) rfl rfl rfl rfl ?_ ?_
     ·skip
      refine r_callN rfl rfl (rInt_spec g2) ?_
      rintro u g3 hu hle3
      obtain ⟨q1, q2, q3, rfl, hut⟩ := hu.cells5
      refine r_nn ?_
      refine h_keptA hG ?_
      refine m_one 7 (by kernel_rfl) rfl rfl ?_
      skip
      refine r_buildSlice rfl rfl (by rfl) (by rfl) (by rfl) (by rfl) (by rfl) (fun y6 => ?_)
      refine r_nn ?_
      refine h_keptA hG ?_
      refine m_one 8 (by kernel_rfl) rfl rfl ?_
      skip
      refine r_appendRow 1 0 rfl rfl rfl rfl rfl (by rfl) (by rfl) rfl (by unfold maxLen; omega) (by omega) (fun w1 _ => ?_)
      refine r_rowSome 1 rfl (by omega) ?_
      rintro ⟨z1, z2, rfl⟩
      refine r_nn ?_
      refine h_keptA hG ?_
      refine m_done (by kernel_rfl) ?_
      refine r_drop (own' := [_, _, _, _, _, _, _, _]) (.cons _ (List.Sublist.refl _)) ?_
      refine r_indexAddr (j := 0) rfl rfl rfl rfl (by omega) ?_; refine r_fieldAddr rfl rfl <| r_store1 1 rfl rfl rfl rfl rfl rfl <| r_nn <| r_region <| r_indexAddr rfl rfl rfl rfl (by omega) ?_
      refine r_rowBlkL (fun rest hr1 hr2 hr3 hr4 => ?_)
      rw [List.append_assoc]
      have hxl := tys_len hts
      refine r_storeA 0 rfl rfl rfl rfl (by rfl) rfl (splice_mid _ _ _ _ _ (by rw [hxl]; omega) rfl) ?_
      refine r_blkRow (m := fs.length + 1) (cap := z2) (by rw [← hr4]; simp [repN]) hr1 hr2 rfl (take_len hxl rfl) ?_
      rw [take_mid hxl rfl]
      refine r_nil <| r_in_normal <| r_in_normal <| r_then_normal <| r_region <| r_ev rfl rfl <| r_add rfl rfl rfl (by omega) ?_; refine r_ev rfl rfl <| r_nn ?_
      have hn : fs.length + 1 = (fs ++ [intT]).length := by simp
      exact r_again (k + 1, g3, _) ⟨by omega, fs ++ [intT], _, _, _, TysAt.snoc hut (hts.mono hle3), memT hft, by simp; omega, by first | (rw [← hn]; done) | (rw [← hn]; rfl)⟩ (by simp only; omega) ⟨rfl, rfl, rfl, rfl, rfl, rfl, rfl, trivial⟩ rfl rfl
     ·skip
      refine r_buildSlice rfl rfl (by rfl) (by rfl) (by rfl) (by rfl) (by rfl) (fun y6 => ?_)
      refine r_nn ?_
      refine h_keptA hG ?_
      refine m_one 5 (by kernel_rfl) rfl rfl ?_
      skip
      refine r_callN rfl rfl (rInt_spec g2) ?_
      rintro u g3 hu hle3
      obtain ⟨q1, q2, q3, rfl, hut⟩ := hu.cells5
      refine r_nn ?_
      refine h_keptA hG ?_
      refine m_one 8 (by kernel_rfl) rfl rfl ?_
      skip
      refine r_appendRow 1 0 rfl rfl rfl rfl rfl (by rfl) (by rfl) rfl (by unfold maxLen; omega) (by omega) (fun w1 _ => ?_)
      refine r_rowSome 1 rfl (by omega) ?_
      rintro ⟨z1, z2, rfl⟩
      refine r_nn ?_
      refine h_keptA hG ?_
      refine m_done (by kernel_rfl) ?_
      refine r_drop (own' := [_, _, _, _, _, _, _, _]) (.cons _ (List.Sublist.refl _)) ?_
      refine r_indexAddr (j := 0) rfl rfl rfl rfl (by omega) ?_; refine r_fieldAddr rfl rfl <| r_store1 1 rfl rfl rfl rfl rfl rfl <| r_nn <| r_region <| r_indexAddr rfl rfl rfl rfl (by omega) ?_
      refine r_rowBlkL (fun rest hr1 hr2 hr3 hr4 => ?_)
      rw [List.append_assoc]
      have hxl := tys_len hts
      refine r_storeA 0 rfl rfl rfl rfl (by rfl) rfl (splice_mid _ _ _ _ _ (by rw [hxl]; omega) rfl) ?_
      refine r_blkRow (m := fs.length + 1) (cap := z2) (by rw [← hr4]; simp [repN]) hr1 hr2 rfl (take_len hxl rfl) ?_
      rw [take_mid hxl rfl]
      refine r_nil <| r_in_normal <| r_in_normal <| r_then_normal <| r_region <| r_ev rfl rfl <| r_add rfl rfl rfl (by omega) ?_; refine r_ev rfl rfl <| r_nn ?_
      have hn : fs.length + 1 = (fs ++ [intT]).length := by simp
      exact r_again (k + 1, g3, _) ⟨by omega, fs ++ [intT], _, _, _, TysAt.snoc hut (hts.mono hle3), memT hft, by simp; omega, by first | (rw [← hn]; done) | (rw [← hn]; rfl)⟩ (by simp only; omega) ⟨rfl, rfl, rfl, rfl, rfl, rfl, rfl, trivial⟩ rfl rfl
   ·obtain rfl : k = i := by omega
    refine r_exit <| r_then_exit <| r_then_exit <| r_in_exit <| r_then_normal ?_
    refine r_publishRow (fun g3 hle3 hs3 => ?_)
    refine r_publishBlk (fun g4 hle4 hs4 => ?_)
    have hle := Ghost.le_trans hle3 hle4
    exact hK (g4, _) _ ⟨k, by omega, [], [], none, 0, 0, [], [], none, 0, 0, d0 [c0 fs] [], _, x0, _, rfl, rfl, rfl, ⟨_, _, _, rfl, slNil g4 1, ⟨rfl, .inr ⟨_, _, _, rfl, Nat.le_refl _, by unfold maxLen; omega, fun j x h => by rw [Nat.zero_add]; exact hs4 j x h⟩⟩, one_at ⟨_, _, rfl, hs3.mono hle4, hts.mono hle⟩⟩, x0_at g4, Nat.zero_le _, Nat.zero_le _, okDf hft, by simp, okX0 _ _⟩ ⟨rfl, rfl, rfl, rfl, trivial⟩
  ·refine r_perm (own' := [_, _, _, _, _]) (List.Perm.trans (List.Perm.cons _ (List.Perm.swap _ _ _)) (List.Perm.swap _ _ _)) ?_
   refine r_publishRow (fun g1 hle1 hs1 => ?_)
   refine r_nilRow 73 20 ?_
   refine r_nilRow 86 4 ?_
   refine r_sr <| r_ev rfl rfl <| r_nn <| r_block ?_
   refine r_loop (ι := Nat × Ghost × List Res) (fun o => [(0, .int .i64 way), (4, ptr b4 0), (5, ptr b5 0), (6, .int .i64 i), (7, ptr b7 0), (8, ptr b8 0), (9, .int .i64 o.1)]) (fun o => o.2.1) (fun o => o.2.2) (fun o => o.1 ≤ i ∧ MSt 4 o.1 o.2.1 b4 b5 b7 b8 o.2.2) (fun o => i - o.1) (0, g1, _) ⟨by omega, ⟨[], [], none, 0, 0, [], [], none, 0, 0, d0 [c0 []] [], _, x0, _, rfl, rfl, rfl, ⟨_, _, _, rfl, slNil g1 1, hs1, one_at (c0_at g1)⟩, x0_at g1, Nat.le_refl _, Nat.le_refl _, by simp [okDa, d0, c0], by simp, x0_ok _⟩⟩ ⟨rfl, rfl, rfl, rfl, rfl, rfl, rfl, trivial⟩ rfl rfl ?_
   rintro ⟨k, g2, own⟩ ⟨hk, hM⟩
   simp only at hk hM
   have hM0 := hM
   obtain ⟨ds, xd, a, m, c, bs, xb, a', m', c', d, dc, x, xc, ho, hds, hbs, hd, hx, hdl, hbl, hdo, hbo, hox⟩ := hM
   subst ho
   obtain ⟨y1, y2, y3, y4, y5, rfl, hd1, hd2, hd3⟩ := id hd.form
   obtain ⟨e1, e2, e3, e4, e5, e6, e7, e8, e9, e10, e11, e12, rfl, hxs, hxe⟩ := id hx.form
   show Run E _ [(0, .int .i64 way), (4, ptr b4 0), (5, ptr b5 0), (6, .int .i64 i), (7, ptr b7 0), (8, ptr b8 0), (9, .int .i64 k)] g2 [.row 86 4 (.slice a m c) ds.length xd, .row 73 20 (.slice a' m' c') bs.length xb, .blk b8 73 _, .blk b7 86 _, .blk b5 29 [.slice a m c, .slice a' m' c'], .blk b4 29 [.slice none 0 0, .slice none 0 0]] _
   refine r_seq <| r_sr <| r_ev rfl rfl <| r_ev rfl rfl <| r_ev rfl rfl <| r_nn ?_
   refine r_cond rfl (fun hlt => ?_) (fun hlt => ?_)
   ·have hlt' : k < i := by omega
    refine r_skip <| r_then_normal <| r_seq <| r_block <| r_sr <| r_ev rfl rfl ?_
    refine r_callP rfl rfl (Mod_spec g2 way 7 (by omega)) ?_
    rw [hw]
    refine r_nn <| r_block <| r_sr <| r_ev rfl rfl <| r_ev rfl rfl <| r_nn <| r_cond_false rfl <| r_sr <| r_ev rfl rfl <| r_ev rfl rfl <| r_nn <| r_cond_false rfl <| r_sr <| r_ev rfl rfl ?_; refine r_ev rfl rfl <| r_nn <| r_cond_false rfl <| r_sr <| r_ev rfl rfl <| r_ev rfl rfl <| r_nn <| r_cond_false rfl <| r_sr <| r_ev rfl rfl <| r_ev rfl rfl <| r_nn <| r_cond_true rfl ?_
    obtain ⟨s, hs3, hns⟩ := num20 g2 k (by omega)
    refine m_begin 11 [1] mixed (by kernel_rfl) (fun hG => ?_)
    refine m_takeXA 0 rfl (by kernel_rfl) rfl hG ?_; refine ⟨_, (val_fieldAddr rfl), ?_⟩; refine m_takeXA 1 rfl (by kernel_rfl) rfl hG ?_; refine ⟨_, (val_loadB1 3 rfl rfl rfl), ?_⟩; refine m_takeXA 2 rfl (by kernel_rfl) rfl hG ?_; refine ⟨_, (val_ev rfl), ?_⟩; refine m_takeXA 3 rfl (by kernel_rfl) rfl hG ?_; refine ⟨_, (val_ev rfl), ?_⟩
    refine m_takeXA 6 rfl (by kernel_rfl) rfl hG ?_; refine ⟨_, (val_fieldAddr rfl), ?_⟩; refine m_takeXA 7 rfl (by kernel_rfl) rfl hG ?_; refine ⟨_, (val_loadB 1 rfl rfl (by rfl)), ?_⟩
    refine m_one 4 (by kernel_rfl) rfl rfl ?_
    skip
    refine r_callP rfl rfl hns ?_
    refine r_nn ?_
    refine h_keptA hG ?_
    refine m_takeXA 5 rfl (by kernel_rfl) rfl hG ⟨_, (val_add_str rfl rfl (by simp; omega)), ?_⟩
    refine m_takeXA 8 rfl (by kernel_rfl) rfl hG ?_; refine ⟨_, (val_build rfl (by rfl)), ?_⟩
    refine m_one 9 (by kernel_rfl) rfl rfl ?_
    skip
    refine r_buildSlice rfl rfl (by rfl) (by rfl) (by rfl) (by rfl) (by rfl) (fun y6 => ?_)
    refine r_nn ?_
    refine h_keptA hG ?_
    refine m_one 10 (by kernel_rfl) rfl rfl ?_
    skip
    refine r_appendRow 2 0 rfl rfl rfl rfl rfl (by rfl) (by rfl) rfl (by unfold maxLen; omega) (by omega) (fun w1 _ => ?_)
    refine r_rowForm 2 rfl ?_
    rintro ⟨z1, z2, z3, rfl⟩
    refine r_nn ?_
    refine h_keptA hG ?_
    refine m_done (by kernel_rfl) ?_
    refine r_drop (own' := [_, _, _, _, _, _]) (.cons _ (List.Sublist.refl _)) ?_
    refine r_fieldAddr rfl rfl ?_
    refine r_store1 4 rfl rfl rfl rfl rfl rfl ?_
    refine r_nil <| r_in_normal <| r_in_normal <| r_then_normal <| r_region <| r_ev rfl rfl <| r_add rfl rfl rfl (by omega) ?_; refine r_ev rfl rfl <| r_nn ?_
    have hn : bs.length + 1 = (bs ++ [(⟨k, false, [110] ++ s, false, noT, x.body⟩ : Bi)]).length := by simp
    exact r_again (k + 1, g2, _) ⟨by omega, ds, _, _, _, _, bs ++ [(⟨k, false, [110] ++ s, false, noT, x.body⟩ : Bi)], _, _, _, _, d, _, x, _, by first | (rw [← hn]; done) | (rw [← hn]; rfl), hds, AllAt.snoc ⟨_, _, rfl, TyAt.mk (t := noT) (slNil g2 5) (tysNil g2), hxe⟩ hbs, hd, hx, by omega, by omega, hdo, memB hbo (newB _ _ hox), ⟨hox.1, by have := hox.2.1; omega, hox.2.2.1, fun h => absurd h (by decide), hox.2.2.2.2⟩⟩ (by simp only; omega) ⟨rfl, rfl, rfl, rfl, rfl, rfl, rfl, trivial⟩ rfl rfl
   ·obtain rfl : k = i := by omega
    refine r_exit <| r_then_exit <| r_then_exit <| r_in_exit <| r_then_normal ?_
    exact hK (g2, _) _ ⟨k, by omega, hM0⟩ ⟨rfl, rfl, rfl, rfl, trivial⟩
  ·refine r_perm (own' := [_, _, _, _, _]) (List.Perm.trans (List.Perm.cons _ (List.Perm.swap _ _ _)) (List.Perm.swap _ _ _)) ?_
   refine r_publishRow (fun g1 hle1 hs1 => ?_)
   refine r_nilRow 73 20 ?_
   refine r_nilRow 86 4 ?_
   refine r_sr <| r_ev rfl rfl <| r_nn <| r_block ?_
   refine r_loop (ι := Nat × Ghost × List Res) (fun o => [(0, .int .i64 way), (4, ptr b4 0), (5, ptr b5 0), (6, .int .i64 i), (7, ptr b7 0), (8, ptr b8 0), (9, .int .i64 o.1)]) (fun o => o.2.1) (fun o => o.2.2) (fun o => o.1 ≤ i ∧ MSt 5 o.1 o.2.1 b4 b5 b7 b8 o.2.2) (fun o => i - o.1) (0, g1, _) ⟨by omega, ⟨[], [], none, 0, 0, [], [], none, 0, 0, d0 [c0 []] [], _, x0, _, rfl, rfl, rfl, ⟨_, _, _, rfl, slNil g1 1, hs1, one_at (c0_at g1)⟩, x0_at g1, Nat.le_refl _, Nat.le_refl _, by simp [okDa, d0, c0], by simp, x0_ok _⟩⟩ ⟨rfl, rfl, rfl, rfl, rfl, rfl, rfl, trivial⟩ rfl rfl ?_
   rintro ⟨k, g2, own⟩ ⟨hk, hM⟩
   simp only at hk hM
   have hM0 := hM
   obtain ⟨ds, xd, a, m, c, bs, xb, a', m', c', d, dc, x, xc, ho, hds, hbs, hd, hx, hdl, hbl, hdo, hbo, hox⟩ := hM
   subst ho
   obtain ⟨y1, y2, y3, y4, y5, rfl, hd1, hd2, hd3⟩ := id hd.form
   obtain ⟨e1, e2, e3, e4, e5, e6, e7, e8, e9, e10, e11, e12, rfl, hxs, hxe⟩ := id hx.form
   show Run E _ [(0, .int .i64 way), (4, ptr b4 0), (5, ptr b5 0), (6, .int .i64 i), (7, ptr b7 0), (8, ptr b8 0), (9, .int .i64 k)] g2 [.row 86 4 (.slice a m c) ds.length xd, .row 73 20 (.slice a' m' c') bs.length xb, .blk b8 73 _, .blk b7 86 _, .blk b5 29 [.slice a m c, .slice a' m' c'], .blk b4 29 [.slice none 0 0, .slice none 0 0]] _
   refine r_seq <| r_sr <| r_ev rfl rfl <| r_ev rfl rfl <| r_ev rfl rfl <| r_nn ?_
   refine r_cond rfl (fun hlt => ?_) (fun hlt => ?_)
   ·have hlt' : k < i := by omega
    refine r_skip <| r_then_normal <| r_seq <| r_block <| r_sr <| r_ev rfl rfl ?_
    refine r_callP rfl rfl (Mod_spec g2 way 7 (by omega)) ?_
    rw [hw]
    refine r_nn <| r_block <| r_sr <| r_ev rfl rfl <| r_ev rfl rfl <| r_nn <| r_cond_false rfl <| r_sr <| r_ev rfl rfl <| r_ev rfl rfl <| r_nn <| r_cond_false rfl <| r_sr <| r_ev rfl rfl ?_; refine r_ev rfl rfl <| r_nn <| r_cond_false rfl <| r_sr <| r_ev rfl rfl <| r_ev rfl rfl <| r_nn <| r_cond_false rfl <| r_sr <| r_ev rfl rfl <| r_ev rfl rfl <| r_nn <| r_cond_false rfl <| r_sr ?_; refine r_ev rfl rfl <| r_ev rfl rfl <| r_nn <| r_cond_true rfl <| r_sr <| r_fieldAddr rfl rfl <| r_loadB 2 rfl rfl rfl (by rfl) ?_; refine r_fieldAddr rfl rfl <| r_loadB 2 rfl rfl rfl (by rfl) ?_
    refine r_buildSlice rfl rfl (by rfl) (by rfl) (by rfl) (by rfl) (by rfl) (fun y6 => ?_)
    refine r_publishRow (fun g3 hle3 hs3 => ?_)
    refine r_build rfl rfl (by rfl) ?_
    refine r_buildSlice rfl rfl (by rfl) (by rfl) (by rfl) (by rfl) (by rfl) (fun y7 => ?_)
    refine r_publishRow (fun g4 hle4 hs4 => ?_)
    refine r_build rfl rfl (by rfl) ?_
    refine r_buildSlice rfl rfl (by rfl) (by rfl) (by rfl) (by rfl) (by rfl) (fun y8 => ?_)
    refine r_publishRow (fun g5 hle5 hs5 => ?_)
    refine r_build rfl rfl (by rfl) ?_; refine r_fieldAddr rfl rfl <| r_storeA 2 rfl rfl rfl rfl (by rfl) (by repeat' (first | exact rfl | assumption | refine all_cons ?_ ?_)) rfl ?_; refine r_nn <| r_sr <| r_ev rfl rfl <| r_ev rfl rfl <| r_nn ?_
    refine r_cond rfl (fun h14 => ?_) (fun h14 => ?_)
    ·exact absurd (h5 rfl) (by omega)
    refine r_skip <| r_in_normal <| r_in_normal <| r_then_normal <| r_region <| r_ev rfl rfl <| r_add rfl rfl rfl (by omega) ?_; refine r_ev rfl rfl <| r_nn ?_
    have hle := Ghost.le_trans hle3 (Ghost.le_trans hle4 hle5)
    have hxe3 := hxe.mono hle3
    exact r_again (k + 1, g5, _) ⟨by omega, ds, _, _, _, _, bs, _, _, _, _, d, _, bodyX x, _, rfl, das_mono hle hds, bis_mono hle hbs, hd.mono hle, ⟨_, _, rfl, hxs.mono hle, (kidsE_V g5 4 0 [120] hs5 (exs1 (ExAt.mono hle5 _ _ (kidsE_V g4 11 0 [] hs4 (exs1 (ExAt.mono hle4 _ _ (kidsE_V g3 5 0 [] hs3 (exs2 hxe3 hxe3)).at_))).at_))).at_⟩, by omega, by omega, hdo, hbo, bodyX_ok hox (by have := h5 rfl; omega)⟩ (by simp only; omega) ⟨rfl, rfl, rfl, rfl, rfl, rfl, rfl, trivial⟩ rfl rfl
   ·obtain rfl : k = i := by omega
    refine r_exit <| r_then_exit <| r_then_exit <| r_in_exit <| r_then_normal ?_
    exact hK (g2, _) _ ⟨k, by omega, hM0⟩ ⟨rfl, rfl, rfl, rfl, trivial⟩
  ·refine r_perm (own' := [_, _, _, _, _]) (List.Perm.trans (List.Perm.cons _ (List.Perm.swap _ _ _)) (List.Perm.swap _ _ _)) ?_
   refine r_publishRow (fun g1 hle1 hs1 => ?_)
   refine r_nilRow 73 20 ?_
   refine r_nilRow 86 4 ?_
   refine r_sr <| r_ev rfl rfl <| r_nn <| r_block ?_
   refine r_loop (ι := Nat × Ghost × List Res) (fun o => [(0, .int .i64 way), (4, ptr b4 0), (5, ptr b5 0), (6, .int .i64 i), (7, ptr b7 0), (8, ptr b8 0), (9, .int .i64 o.1)]) (fun o => o.2.1) (fun o => o.2.2) (fun o => o.1 ≤ i ∧ MSt 6 o.1 o.2.1 b4 b5 b7 b8 o.2.2) (fun o => i - o.1) (0, g1, _) ⟨by omega, ⟨[], [], none, 0, 0, [], [], none, 0, 0, d0 [c0 []] [], _, x0, _, rfl, rfl, rfl, ⟨_, _, _, rfl, slNil g1 1, hs1, one_at (c0_at g1)⟩, x0_at g1, Nat.le_refl _, Nat.le_refl _, by simp [okDa, d0, c0], by simp, x0_ok _⟩⟩ ⟨rfl, rfl, rfl, rfl, rfl, rfl, rfl, trivial⟩ rfl rfl ?_
   rintro ⟨k, g2, own⟩ ⟨hk, hM⟩
   simp only at hk hM
   have hM0 := hM
   obtain ⟨ds, xd, a, m, c, bs, xb, a', m', c', d, dc, x, xc, ho, hds, hbs, hd, hx, hdl, hbl, hdo, hbo, hox⟩ := hM
   subst ho
   obtain ⟨y1, y2, y3, y4, y5, rfl, hd1, hd2, hd3⟩ := id hd.form
   obtain ⟨e1, e2, e3, e4, e5, e6, e7, e8, e9, e10, e11, e12, rfl, hxs, hxe⟩ := id hx.form
   show Run E _ [(0, .int .i64 way), (4, ptr b4 0), (5, ptr b5 0), (6, .int .i64 i), (7, ptr b7 0), (8, ptr b8 0), (9, .int .i64 k)] g2 [.row 86 4 (.slice a m c) ds.length xd, .row 73 20 (.slice a' m' c') bs.length xb, .blk b8 73 _, .blk b7 86 _, .blk b5 29 [.slice a m c, .slice a' m' c'], .blk b4 29 [.slice none 0 0, .slice none 0 0]] _
   refine r_seq <| r_sr <| r_ev rfl rfl <| r_ev rfl rfl <| r_ev rfl rfl <| r_nn ?_
   refine r_cond rfl (fun hlt => ?_) (fun hlt => ?_)
   ·have hlt' : k < i := by omega
    refine r_skip <| r_then_normal <| r_seq <| r_block <| r_sr <| r_ev rfl rfl ?_
    refine r_callP rfl rfl (Mod_spec g2 way 7 (by omega)) ?_
    rw [hw]
    refine r_nn <| r_block <| r_sr <| r_ev rfl rfl <| r_ev rfl rfl <| r_nn <| r_cond_false rfl <| r_sr <| r_ev rfl rfl <| r_ev rfl rfl <| r_nn <| r_cond_false rfl <| r_sr <| r_ev rfl rfl ?_; refine r_ev rfl rfl <| r_nn <| r_cond_false rfl <| r_sr <| r_ev rfl rfl <| r_ev rfl rfl <| r_nn <| r_cond_false rfl <| r_sr <| r_ev rfl rfl <| r_ev rfl rfl <| r_nn <| r_cond_false rfl <| r_sr ?_; refine r_ev rfl rfl <| r_ev rfl rfl <| r_nn <| r_cond_false rfl <| r_sr <| r_ev rfl rfl <| r_ev rfl rfl <| r_nn <| r_cond_true rfl <| r_sr <| r_fieldAddr rfl rfl <| r_store1 2 rfl rfl rfl rfl rfl rfl <| r_nn <| r_sr ?_; refine r_fieldAddr rfl rfl <| r_loadB 2 rfl rfl rfl (by rfl) ?_
    refine r_buildSlice rfl rfl (by rfl) (by rfl) (by rfl) (by rfl) (by rfl) (fun y6 => ?_)
    refine r_publishRow (fun g3 hle3 hs3 => ?_)
    refine r_callN rfl rfl (rCon_spec g3 [84] _ [x.sig] _ hs3 (tys1 (hxs.mono hle3)) (by simp)) ?_
    rintro u1 g4 hu1 hle4
    obtain ⟨q1, q2, q3, rfl, hu1t⟩ := hu1.cells5
    skip
    refine r_buildSlice rfl rfl (by rfl) (by rfl) (by rfl) (by rfl) (by rfl) (fun y7 => ?_)
    refine r_publishRow (fun g5 hle5 hs5 => ?_)
    refine r_callN rfl rfl (rCon_spec g5 [84] _ [conT [84] [x.sig]] _ hs5 (tys1 (hu1t.mono hle5)) (by simp)) ?_
    rintro u2 g6 hu2 hle6
    skip
    refine r_callN rfl rfl (rInt_spec g6) ?_
    rintro u3 g7 hu3 hle7
    refine r_callN rfl rfl (rArrow_spec g7 _ _ _ _ (hu2.mono hle7) hu3) ?_
    rintro u4 g8 hu4 hle8
    obtain ⟨q4, q5, q6, rfl, hu4t⟩ := hu4.cells5
    refine r_fieldAddr rfl rfl <| r_storeA 2 rfl rfl rfl rfl (by rfl) (by repeat' (first | exact rfl | assumption | refine all_cons ?_ ?_)) rfl ?_; refine r_nn <| r_sr <| r_ev rfl rfl <| r_ev rfl rfl <| r_nn ?_
    have hle28 := Ghost.le_trans hle3 (Ghost.le_trans hle4 (Ghost.le_trans hle5 (Ghost.le_trans hle6 (Ghost.le_trans hle7 hle8))))
    refine r_cond rfl (fun hk0 => ?_) (fun hk0 => ?_)
    ·refine r_region ?_
     refine r_callN rfl rfl (rInt_spec g8) ?_
     rintro u5 g9 hu5 hle9
     obtain ⟨q7, q8, q9, rfl, hu5t⟩ := hu5.cells5
     refine r_fieldAddr rfl rfl <| r_storeA 2 rfl rfl rfl rfl (by rfl) (by repeat' (first | exact rfl | assumption | refine all_cons ?_ ?_)) rfl ?_; refine r_nil <| r_in_normal <| r_in_normal <| r_then_normal <| r_region <| r_ev rfl rfl <| r_add rfl rfl rfl (by omega) ?_; refine r_ev rfl rfl <| r_nn ?_
     have hle := Ghost.le_trans hle28 hle9
     exact r_again (k + 1, g9, _) ⟨by omega, ds, _, _, _, _, bs, _, _, _, _, d, _, sigX x intT, _, rfl, das_mono hle hds, bis_mono hle hbs, hd.mono hle, ⟨_, _, rfl, hu5t, ExAt.mono hle _ _ hxe⟩, by omega, by omega, hdo, hbo, sigX_ok hox (by simp [intT, conT, depthT, depthTs])⟩ (by simp only; omega) ⟨rfl, rfl, rfl, rfl, rfl, rfl, rfl, trivial⟩ rfl rfl
    ·refine r_skip <| r_in_normal <| r_in_normal <| r_then_normal <| r_region <| r_ev rfl rfl <| r_add rfl rfl rfl (by omega) ?_; refine r_ev rfl rfl <| r_nn ?_
     exact r_again (k + 1, g8, _) ⟨by omega, ds, _, _, _, _, bs, _, _, _, _, d, _, sigX x (arrowT (conT [84] [conT [84] [x.sig]]) intT), _, rfl, das_mono hle28 hds, bis_mono hle28 hbs, hd.mono hle28, ⟨_, _, rfl, hu4t, ExAt.mono hle28 _ _ hxe⟩, by omega, by omega, hdo, hbo, sigX_ok hox (by have := hox.2.1; simp [arrowT, conT, intT, depthT, depthTs]; omega)⟩ (by simp only; omega) ⟨rfl, rfl, rfl, rfl, rfl, rfl, rfl, trivial⟩ rfl rfl
   ·obtain rfl : k = i := by omega
    refine r_exit <| r_then_exit <| r_then_exit <| r_in_exit <| r_then_normal ?_
    exact hK (g2, _) _ ⟨k, by omega, hM0⟩ ⟨rfl, rfl, rfl, rfl, trivial⟩
end Go.Proofs.YtpjehhnaojjanaaGreatDoor
-- sum 0d8b9480220fba5f


/- The walks of the reference's reader of expressions: atom. -/
import Derived.Test.YtpjehhnaojjanaaGreatDoorK8
import Derived.Test.YtpjehhnaojjanaaGreatDoorK1
import Derived.Test.YtpjehhnaojjanaaGreatDoorK2
namespace Go.Th
theorem kind3 {s : Bytes} (h : kindOf s = 3) : s.length ≤ 9 ∧ ∀ c ∈ s, digit c = true := by
 unfold kindOf at h
 split at h
 ·cases h
 split at h
 ·cases h
 split at h
 ·cases h
 split at h
 ·rename_i h3
  simp only [isInteger, Bool.and_eq_true, decide_eq_true_eq] at h3
  exact ⟨h3.1.1.2, fun c hc => List.all_eq_true.1 h3.2 c hc⟩
 split at h
 ·cases h
 ·cases h
end Go.Th
namespace Go.Proofs.YtpjehhnaojjanaaGreatDoor
open Go Go.Eng Go.Th Go.Proofs
set_option maxRecDepth 10000
set_option maxHeartbeats 4000000
attribute [local irreducible] wpList Code.wp Run bodyPost Go.Eng.Ends Exit.then Exit.inBlock Again Wq Kq
theorem isAt_word {l : List Tok} (h : KW l) {w : Bytes} (hw : kindOf w = 4) (i : Nat) : isAt l i w = wordAt l i w := by
 unfold isAt wordAt
 have : tokAt l i 5 w = false := by
  unfold tokAt
  cases hl : l[i]? with
  | none => rfl
  | some t =>
   simp only [Bool.and_eq_false_iff, decide_eq_false_iff_not]
   by_cases hk : t.kind = 5
   ·refine .inr fun ht => ?_
    have := h t (List.mem_of_getElem? hl)
    rw [ht, hw] at this
    omega
   ·exact .inl hk
 rw [this, Bool.false_or]
theorem text_good (l : List Tok) (k : Int) (i : Nat) : RS.text l k (.good i) = match l[i]? with | some t => if t.kind = k then t.text else [] | none => [] := rfl
theorem nameAt_yes {l : List Tok} {i : Nat} {k : Int} (h : kindAt l i k = true) : nameAt l i k = some (RS.text l k (.good i)) ∧ RS.word l k (.good i) = .good (i + 1) ∧ i < l.length := by
 have e : RS.word l k (.good i) = .good (i + 1) := by simp [RS.word, h]
 unfold kindAt at h
 rw [text_good]
 unfold nameAt
 cases hl : l[i]? with
 | none => rw [hl] at h; cases h
 | some t =>
  rw [hl] at h
  simp only [decide_eq_true_eq] at h
  simp only [h, if_true]
  exact ⟨trivial, e, (List.getElem?_eq_some_iff.1 hl).1⟩
theorem nameAt_no {l : List Tok} {i : Nat} {k : Int} (h : kindAt l i k = false) : nameAt l i k = none ∧ RS.word l k (.good i) = .bad i (failPos l i) ∧ RS.text l k (.good i) = [] := by
 have e : RS.word l k (.good i) = .bad i (failPos l i) := by simp [RS.word, h]
 unfold kindAt at h
 rw [text_good]
 unfold nameAt
 cases hl : l[i]? with
 | none => exact ⟨rfl, e, rfl⟩
 | some t =>
  rw [hl] at h
  simp only [decide_eq_false_iff_not] at h
  simp only [h, if_false]
  exact ⟨trivial, e, trivial⟩
theorem skip_yes {l : List Tok} {i : Nat} {w : Bytes} (h : isAt l i w = true) : RS.skip l w (.good i) = .good (i + 1) ∧ RS.need l w (.good i) = .good (i + 1) ∧ i < l.length := by
 refine ⟨by simp [RS.skip, h], by simp [RS.need, h], ?_⟩
 unfold isAt at h
 rcases Bool.or_eq_true_iff.1 h with h | h
 ·exact tokAt_lt h
 ·exact tokAt_lt h
theorem skip_no {l : List Tok} {i : Nat} {w : Bytes} (h : isAt l i w = false) : RS.skip l w (.good i) = .good i ∧ RS.need l w (.good i) = .bad i (failPos l i) := ⟨by simp [RS.skip, h], by simp [RS.need, h]⟩
def post6 (l : List Tok) (i : Nat) (b : Nat) (lv : Value) (r : ER) (v : Value) (g' : Ghost) (r' : Res) : Prop := match r with
 | .ok (e, j) => ExV g' v e ∧ r' = rdB b lv (.good j) ∧ i < j ∧ j ≤ l.length
 | .error p => (∃ e, ExV g' v e) ∧ ∃ j, j ≤ l.length ∧ r' = rdB b lv (.bad j p)
theorem exsNil (g : Ghost) : ExsAt g [] [] := by unfold ExsAt; rfl
theorem arsNil (g : Ghost) : ArsAt g [] [] := by unfold ArsAt; rfl
theorem exs1 {g : Ghost} {a : Ex} {c : List Value} (h : ExAt g a c) : ExsAt g [a] c := by
 unfold ExsAt
 exact ⟨c, [], by simp, h, exsNil g⟩
theorem exs2 {g : Ghost} {a b : Ex} {c d : List Value} (h : ExAt g a c) (h' : ExAt g b d) : ExsAt g [a, b] (c ++ d) := by
 unfold ExsAt
 exact ⟨c, d, rfl, h, exs1 h'⟩
theorem ExV.form {g : Ghost} {v : Value} {e : Ex} (h : ExV g v e) : ∃ (a1 : Option Addr) (m1 c1 : Nat) (a2 : Option Addr) (m2 c2 : Nat) (a3 : Option Addr) (m3 c3 : Nat),
  v = .agg #[.int .i64 e.kind, .int .i64 e.pos, str e.name, .int .i64 e.num, .slice a1 m1 c1, .slice a2 m2 c2, .int .i64 e.ty.kind, str e.ty.name, .int .i64 e.ty.id, .int .i64 e.ty.home, .slice a3 m3 c3] ∧
  ExAt g e [.int .i64 e.kind, .int .i64 e.pos, str e.name, .int .i64 e.num, .slice a1 m1 c1, .slice a2 m2 c2, .int .i64 e.ty.kind, str e.ty.name, .int .i64 e.ty.id, .int .i64 e.ty.home, .slice a3 m3 c3] := by
 obtain ⟨cs, rfl, h⟩ := h
 obtain ⟨a1, m1, c1, a2, m2, c2, a3, m3, c3, xk, xa, rfl, _⟩ := h.form
 exact ⟨a1, m1, c1, a2, m2, c2, a3, m3, c3, rfl, h⟩
theorem leafE_V (g : Ghost) (k p : Int) (n : Bytes) (m : Int) : ExV g (.agg #[.int .i64 k, .int .i64 p, str n, .int .i64 m, .slice none 0 0, .slice none 0 0, .int .i64 0, str [], .int .i64 0, .int .i64 0, .slice none 0 0]) (leafE k p n m) :=
 ⟨_, rfl, ExAt.mk (e := leafE k p n m) (slNil g 11) (exsNil g) (slNil g 14) (arsNil g) (TyAt.mk (t := noT) (slNil g 5) (tysNil g))⟩
theorem kidsE_V (g : Ghost) (k p : Int) (n : Bytes) {v : Value} {ks : List Ex} {xs : List Value} (h1 : SlAt g 11 v ks.length xs) (h2 : ExsAt g ks xs) : ExV g (.agg #[.int .i64 k, .int .i64 p, str n, .int .i64 0, v, .slice none 0 0, .int .i64 0, str [], .int .i64 0, .int .i64 0, .slice none 0 0]) (kidsE k p n ks) :=
 ⟨_, rfl, ExAt.mk (e := kidsE k p n ks) h1 h2 (slNil g 14) (arsNil g) (TyAt.mk (t := noT) (slNil g 5) (tysNil g))⟩
theorem annE_V (g : Ghost) (p : Int) (t : Ty) {v sl : Value} {x : Ex} {xs : List Value} (h1 : SlAt g 11 v 1 xs) (h2 : ExAt g x xs) (h3 : TyAt g t (tyCells t sl)) : ExV g (.agg #[.int .i64 9, .int .i64 p, str [], .int .i64 0, v, .slice none 0 0, .int .i64 t.kind, str t.name, .int .i64 t.id, .int .i64 t.home, sl]) (annE p x t) :=
 ⟨_, rfl, ExAt.mk (e := annE p x t) h1 (exs1 h2) (slNil g 14) (arsNil g) h3⟩
theorem atom6_step {l : List Tok} (hb : TB l) (hkw : KW l) (m : Nat) (lv : Value) (b : Nat)
  (hR : ∀ g i, ToksAt g lv l → i ≤ l.length → l.length - i < m → SpecL Tryz.prog 78 [ptr b 0] g (rdB b lv (.good i)) (post6 l i b lv (eread l .expr i)))
  (g : Ghost) (i : Nat) (hs : ToksAt g lv l) (hi : i ≤ l.length) (hm : l.length - i < m + 1) : SpecL Tryz.prog 120 [ptr b 0] g (rdB b lv (.good i)) (post6 l i b lv (eread l .atom i)) := by
 have hb1 := hb.1
 have hr := eread_step l .atom i
 simp only [estep] at hr
 have hp : isAt l i [40] = markAt l i [40] := isAt_mark hkw (by decide) i
 have hq : isAt l i [63] = markAt l i [63] := isAt_mark hkw (by decide) i
 have hc : isAt l i [123] = markAt l i [123] := isAt_mark hkw (by decide) i
 refine spec_of_run Tryz.func120 rfl Tryz.ntmps120 rfl fun E hE => ?_
 refine r_sr ?_
 refine r_alloc rfl (fun b2 => ?_)
 refine r_nn <| r_sr <| r_ev rfl rfl ?_
 refine r_callO 1 rfl rfl rfl (Pos5_spec g l lv hs b (.good i)) ?_
 rw [show posAt l (RS.good i).idx = posOf l i from rfl]
 refine r_ev rfl rfl <| r_nn <| r_seq <| r_block <| r_sr <| r_ev rfl rfl ?_
 refine r_callO 1 rfl rfl rfl (Kind5_spec g l lv hs b (.good i) 1) ?_
 rw [show RS.kindIs l 1 (.good i) = kindAt l i 1 from rfl]
 cases h1 : kindAt l i 1 with
 | true =>
  obtain ⟨f1, f2, hlt⟩ := nameAt_yes h1
  have hk := h1
  rw [kindAt_lt hlt] at hk
  have hk' : l[i].kind = 1 := of_decide_eq_true hk
  have e2 : RS.text l 1 (.good i) = l[i].text := by
   show (match l[i]? with | some t => if t.kind = 1 then t.text else [] | none => []) = _
   rw [toks_some hlt]; simp [hk']
  have e3 : posOf l i = l[i].pos := by unfold posOf; rw [toks_some hlt]
  rw [toks_some hlt] at hr
  simp only [hk', if_true] at hr
  refine r_ev rfl rfl <| r_nn <| r_cond_true rfl <| r_sr <| r_ev rfl rfl <| r_ev rfl rfl ?_
  refine r_callL 1 rfl rfl rfl (Word5_spec g l hb lv hs b (.good i) hi 1) ?_
  rintro v g' r' ⟨rfl, rfl, rfl⟩ _
  rw [f2, e2]
  refine r_build rfl rfl (by rfl) ?_; refine r_storeA 0 rfl rfl rfl rfl (by rfl) (by repeat' (first | exact rfl | assumption | refine all_cons ?_ ?_)) rfl ?_; refine r_nn <| r_retc <| r_in_ret <| r_then_ret ?_
  refine r_retA [_] rfl (res_blk 0 rfl rfl (by rfl)) (.cons _ (List.Sublist.refl _)) ⟨_, rfl, ?_⟩
  rw [hr, e3]
  exact ⟨leafE_V g' 1 _ _ 0, rfl, by omega, by omega⟩
 | false =>
 refine r_ev rfl rfl <| r_nn <| r_cond_false rfl <| r_sr <| r_ev rfl rfl ?_
 refine r_callO 1 rfl rfl rfl (Kind5_spec g l lv hs b (.good i) 2) ?_
 rw [show RS.kindIs l 2 (.good i) = kindAt l i 2 from rfl]
 cases h2 : kindAt l i 2 with
 | true =>
  obtain ⟨f1, f2, hlt⟩ := nameAt_yes h2
  have hk := h2
  rw [kindAt_lt hlt] at hk
  have hk' : l[i].kind = 2 := of_decide_eq_true hk
  have e2 : RS.text l 2 (.good i) = l[i].text := by
   show (match l[i]? with | some t => if t.kind = 2 then t.text else [] | none => []) = _
   rw [toks_some hlt]; simp [hk']
  have e3 : posOf l i = l[i].pos := by unfold posOf; rw [toks_some hlt]
  rw [toks_some hlt] at hr
  simp only [hk'] at hr
  rw [if_neg (by decide), if_pos (by simp)] at hr
  refine r_ev rfl rfl <| r_nn <| r_cond_true rfl <| r_sr <| r_ev rfl rfl <| r_ev rfl rfl ?_
  refine r_callL 1 rfl rfl rfl (Word5_spec g l hb lv hs b (.good i) hi 2) ?_
  rintro v g' r' ⟨rfl, rfl, rfl⟩ _
  rw [f2, e2]
  refine r_build rfl rfl (by rfl) ?_; refine r_storeA 0 rfl rfl rfl rfl (by rfl) (by repeat' (first | exact rfl | assumption | refine all_cons ?_ ?_)) rfl ?_; refine r_nn <| r_retc <| r_in_ret <| r_then_ret ?_
  refine r_retA [_] rfl (res_blk 0 rfl rfl (by rfl)) (.cons _ (List.Sublist.refl _)) ⟨_, rfl, ?_⟩
  rw [hr, e3]
  exact ⟨leafE_V g' 2 _ _ 0, rfl, by omega, by omega⟩
 | false =>
 refine r_ev rfl rfl <| r_nn <| r_cond_false rfl <| r_sr <| r_ev rfl rfl ?_
 refine r_callO 1 rfl rfl rfl (Kind5_spec g l lv hs b (.good i) 3) ?_
 rw [show RS.kindIs l 3 (.good i) = kindAt l i 3 from rfl]
 cases h3 : kindAt l i 3 with
 | true =>
  obtain ⟨f1, f2, hlt⟩ := nameAt_yes h3
  have hk := h3
  rw [kindAt_lt hlt] at hk
  have hk' : l[i].kind = 3 := of_decide_eq_true hk
  have e2 : RS.text l 3 (.good i) = l[i].text := by
   show (match l[i]? with | some t => if t.kind = 3 then t.text else [] | none => []) = _
   rw [toks_some hlt]; simp [hk']
  have e3 : posOf l i = l[i].pos := by unfold posOf; rw [toks_some hlt]
  have hnum := kind3 ((hkw _ (List.getElem_mem hlt)).symm.trans hk')
  rw [toks_some hlt] at hr
  simp only [hk'] at hr
  rw [if_neg (by decide), if_neg (by decide), if_pos (by simp)] at hr
  refine r_ev rfl rfl <| r_nn <| r_cond_true rfl <| r_sr <| r_ev rfl rfl <| r_ev rfl rfl ?_
  refine r_callL 1 rfl rfl rfl (Word5_spec g l hb lv hs b (.good i) hi 3) ?_
  rintro v g' r' ⟨rfl, rfl, rfl⟩ _
  rw [f2, e2]
  refine r_callP rfl rfl (number_spec g' l[i].text hnum.1 hnum.2) ?_
  refine r_build rfl rfl (by rfl) ?_; refine r_storeA 0 rfl rfl rfl rfl (by rfl) (by repeat' (first | exact rfl | assumption | refine all_cons ?_ ?_)) rfl ?_; refine r_nn <| r_retc <| r_in_ret <| r_then_ret ?_
  refine r_retA [_] rfl (res_blk 0 rfl rfl (by rfl)) (.cons _ (List.Sublist.refl _)) ⟨_, rfl, ?_⟩
  rw [hr, e3]
  exact ⟨leafE_V g' 3 _ [] _, rfl, by omega, by omega⟩
 | false =>
 refine r_ev rfl rfl <| r_nn <| r_cond_false rfl <| r_sr <| r_ev rfl rfl ?_
 refine r_callL 1 rfl rfl rfl (Skip5_spec g l hb lv hs b (.good i) hi [63]) ?_
 rintro v g' r' ⟨rfl, rfl, rfl⟩ _
 rw [show RS.isIs l [63] (.good i) = markAt l i [63] from hq]
 cases h4 : markAt l i [63] with
 | true =>
  have hlt := tokAt_lt h4
  have f2 := (skip_yes (hq.trans h4)).1
  have e3 : posOf l i = l[i].pos := by unfold posOf; rw [toks_some hlt]
  have hk := h4
  unfold markAt tokAt at hk
  rw [toks_some hlt] at hk hr
  simp only [Bool.and_eq_true, decide_eq_true_eq] at hk
  simp only [hk.1, hk.2] at hr
  rw [if_neg (by decide), if_neg (by decide), if_neg (by decide), if_pos (by simp)] at hr
  rw [f2]
  refine r_ev rfl rfl <| r_nn <| r_cond_true rfl <| r_sr <| r_ev rfl rfl <| r_build rfl rfl (by rfl) ?_; refine r_storeA 0 rfl rfl rfl rfl (by rfl) (by repeat' (first | exact rfl | assumption | refine all_cons ?_ ?_)) rfl ?_; refine r_nn <| r_retc <| r_in_ret <| r_then_ret ?_
  refine r_retA [_] rfl (res_blk 0 rfl rfl (by rfl)) (.cons _ (List.Sublist.refl _)) ⟨_, rfl, ?_⟩
  rw [hr, e3]
  exact ⟨leafE_V g' 10 _ [] 0, rfl, by omega, by omega⟩
 | false =>
 rw [(skip_no (hq.trans h4)).1]
 refine r_ev rfl rfl <| r_nn <| r_cond_false rfl <| r_sr <| r_ev rfl rfl ?_
 refine r_callL 1 rfl rfl rfl (Skip5_spec g' l hb lv hs b (.good i) hi [123]) ?_
 rintro v g' r' ⟨rfl, rfl, rfl⟩ _
 rw [show RS.isIs l [123] (.good i) = markAt l i [123] from hc]
 cases h5 : markAt l i [123] with
 | true =>
  have hlt := tokAt_lt h5
  have f2 := (skip_yes (hc.trans h5)).1
  have e3 : posOf l i = l[i].pos := by unfold posOf; rw [toks_some hlt]
  have hk := h5
  unfold markAt tokAt at hk
  rw [toks_some hlt] at hk hr
  simp only [Bool.and_eq_true, decide_eq_true_eq] at hk
  simp only [hk.1, hk.2] at hr
  rw [if_neg (by decide), if_neg (by decide), if_neg (by decide), if_neg (by decide), if_pos (by simp)] at hr
  rw [f2]
  refine r_ev rfl rfl <| r_nn <| r_cond_true rfl <| r_sr <| r_ev rfl rfl ?_
  refine r_callL 1 rfl rfl rfl (hR g' (i + 1) hs (by omega) (by omega)) ?_
  rintro v g1 r' hw hle
  have hs1 := hs.mono hle
  cases hq1 : eread l .expr (i + 1) with
  | error p =>
   rw [hq1] at hw hr
   simp only at hr
   obtain ⟨⟨x, hx⟩, j, hj, rfl⟩ := hw
   obtain ⟨a1, m1, c1, a2, m2, c2, a3, m3, c3, rfl, hx'⟩ := hx.form
   skip
   refine r_alloc rfl (fun b4 => ?_)
   refine r_storeA 0 rfl rfl rfl rfl (by rfl) (by repeat' (first | exact rfl | assumption | refine all_cons ?_ ?_)) rfl ?_; refine r_nn <| r_sr <| r_ev rfl rfl ?_
   refine r_callL 2 rfl rfl rfl (Need5_spec g1 l hb lv hs1 b (.bad j p) hj [125]) ?_
   rintro v g2 r' ⟨rfl, rfl⟩ _
   refine r_nn <| r_sr <| r_ev rfl rfl <| r_loadB 0 rfl rfl rfl (by rfl) ?_
   refine r_buildSlice rfl rfl (by rfl) (by rfl) (by rfl) (by rfl) (by rfl) (fun b5 => ?_)
   refine r_publishRow (fun g3 hg3 hs3 => ?_)
   refine r_build rfl rfl (by rfl) ?_; refine r_storeA 1 rfl rfl rfl rfl (by rfl) (by repeat' (first | exact rfl | assumption | refine all_cons ?_ ?_)) rfl ?_; refine r_nn <| r_retc <| r_in_ret <| r_then_ret ?_
   refine r_retA [_] rfl (res_blk 1 rfl rfl (by rfl)) (.cons _ (.cons _ (List.Sublist.refl _))) ⟨_, rfl, ?_⟩
   rw [hr]
   exact ⟨⟨kidsE 11 (posOf l i) [] [x], kidsE_V g3 11 _ [] hs3 (exs1 (hx'.mono hg3))⟩, j, hj, rfl⟩
  | ok q =>
   obtain ⟨x, j⟩ := q
   rw [hq1] at hw hr
   simp only at hr
   obtain ⟨hx, rfl, hj1, hj2⟩ := hw
   obtain ⟨a1, m1, c1, a2, m2, c2, a3, m3, c3, rfl, hx'⟩ := hx.form
   have hp2 : isAt l j [125] = markAt l j [125] := isAt_mark hkw (by decide) j
   skip
   refine r_alloc rfl (fun b4 => ?_)
   refine r_storeA 0 rfl rfl rfl rfl (by rfl) (by repeat' (first | exact rfl | assumption | refine all_cons ?_ ?_)) rfl ?_; refine r_nn <| r_sr <| r_ev rfl rfl ?_
   refine r_callL 2 rfl rfl rfl (Need5_spec g1 l hb lv hs1 b (.good j) hj2 [125]) ?_
   rintro v g2 r' ⟨rfl, rfl⟩ _
   cases hk2 : markAt l j [125] with
   | true =>
    have hlt2 := tokAt_lt hk2
    rw [hk2] at hr
    simp only [if_true] at hr
    rw [(skip_yes (hp2.trans hk2)).2.1]
    refine r_nn <| r_sr <| r_ev rfl rfl <| r_loadB 0 rfl rfl rfl (by rfl) ?_
    refine r_buildSlice rfl rfl (by rfl) (by rfl) (by rfl) (by rfl) (by rfl) (fun b5 => ?_)
    refine r_publishRow (fun g3 hg3 hs3 => ?_)
    refine r_build rfl rfl (by rfl) ?_; refine r_storeA 1 rfl rfl rfl rfl (by rfl) (by repeat' (first | exact rfl | assumption | refine all_cons ?_ ?_)) rfl ?_; refine r_nn <| r_retc <| r_in_ret <| r_then_ret ?_
    refine r_retA [_] rfl (res_blk 1 rfl rfl (by rfl)) (.cons _ (.cons _ (List.Sublist.refl _))) ⟨_, rfl, ?_⟩
    rw [hr, e3]
    exact ⟨kidsE_V g3 11 _ [] hs3 (exs1 (hx'.mono hg3)), rfl, by omega, by omega⟩
   | false =>
    rw [hk2] at hr
    simp only [Bool.false_eq_true, if_false] at hr
    rw [(skip_no (hp2.trans hk2)).2]
    refine r_nn <| r_sr <| r_ev rfl rfl <| r_loadB 0 rfl rfl rfl (by rfl) ?_
    refine r_buildSlice rfl rfl (by rfl) (by rfl) (by rfl) (by rfl) (by rfl) (fun b5 => ?_)
    refine r_publishRow (fun g3 hg3 hs3 => ?_)
    refine r_build rfl rfl (by rfl) ?_; refine r_storeA 1 rfl rfl rfl rfl (by rfl) (by repeat' (first | exact rfl | assumption | refine all_cons ?_ ?_)) rfl ?_; refine r_nn <| r_retc <| r_in_ret <| r_then_ret ?_
    refine r_retA [_] rfl (res_blk 1 rfl rfl (by rfl)) (.cons _ (.cons _ (List.Sublist.refl _))) ⟨_, rfl, ?_⟩
    rw [hr]
    exact ⟨⟨kidsE 11 (posOf l i) [] [x], kidsE_V g3 11 _ [] hs3 (exs1 (hx'.mono hg3))⟩, j, hj2, rfl⟩
 | false =>
 rw [(skip_no (hc.trans h5)).1]
 refine r_ev rfl rfl <| r_nn <| r_cond_false rfl <| r_skip <| r_in_normal <| r_then_normal <| r_sr <| r_ev rfl rfl ?_
 refine r_callL 1 rfl rfl rfl (Need5_spec g' l hb lv hs b (.good i) hi [40]) ?_
 rintro v g' r' ⟨rfl, rfl⟩ _
 cases h6 : markAt l i [40] with
 | false =>
  rw [(skip_no (hp.trans h6)).2]
  have hr' : eread l .atom i = .error (failPos l i) := by
   rw [hr]
   by_cases hlt : i < l.length
   ·rw [toks_some hlt]
    rw [kindAt_lt hlt] at h1 h2 h3
    unfold markAt tokAt at h4 h5 h6
    rw [toks_some hlt] at h4 h5 h6
    simp only [Bool.and_eq_false_iff, decide_eq_false_iff_not] at h1 h2 h3 h4 h5 h6
    simp only
    rw [if_neg h1, if_neg h2, if_neg h3, if_neg (fun h => h4.elim (fun k => k h.1) (fun k => k h.2)), if_neg (fun h => h5.elim (fun k => k h.1) (fun k => k h.2)), if_neg (fun h => h6.elim (fun k => k h.1) (fun k => k h.2))]
   ·rw [List.getElem?_eq_none (by omega)]
  refine r_nn <| r_seq <| r_sr <| r_ev rfl rfl <| r_ev rfl rfl <| r_fieldAddr rfl rfl <| r_loadB1 1 rfl rfl rfl rfl <| r_nn <| r_cond_true rfl <| r_sr <| r_build rfl rfl (by rfl) ?_; refine r_storeA 0 rfl rfl rfl rfl (by rfl) (by repeat' (first | exact rfl | assumption | refine all_cons ?_ ?_)) rfl ?_; refine r_nn <| r_retc <| r_then_ret ?_
  refine r_retA [_] rfl (res_blk 0 rfl rfl (by rfl)) (.cons _ (List.Sublist.refl _)) ⟨_, rfl, ?_⟩
  rw [hr']
  exact ⟨⟨noE, noE_V g'⟩, i, hi, rfl⟩
 | true =>
 have hlt := tokAt_lt h6
 have e3 : posOf l i = l[i].pos := by unfold posOf; rw [toks_some hlt]
 have hk := h6
 unfold markAt tokAt at hk
 rw [toks_some hlt] at hk hr
 simp only [Bool.and_eq_true, decide_eq_true_eq] at hk
 simp only [hk.1, hk.2] at hr
 rw [if_neg (by decide), if_neg (by decide), if_neg (by decide), if_neg (by decide), if_neg (by decide), if_pos (by simp)] at hr
 rw [(skip_yes (hp.trans h6)).2.1]
 refine r_nn <| r_seq <| r_sr <| r_ev rfl rfl <| r_ev rfl rfl <| r_fieldAddr rfl rfl <| r_loadB1 1 rfl rfl rfl rfl <| r_nn <| r_cond_false rfl <| r_skip <| r_then_normal <| r_sr <| r_ev rfl rfl ?_
 refine r_callL 1 rfl rfl rfl (hR g' (i + 1) hs (by omega) (by omega)) ?_
 rintro v g1 r' hw hle
 have hs1 := hs.mono hle
 cases hq1 : eread l .expr (i + 1) with
 | error p =>
  rw [hq1] at hw hr
  simp only at hr
  obtain ⟨⟨x, hx⟩, j, hj, rfl⟩ := hw
  obtain ⟨a1, m1, c1, a2, m2, c2, a3, m3, c3, rfl, hx'⟩ := hx.form
  skip
  refine r_alloc rfl (fun b5 => ?_)
  refine r_storeA 0 rfl rfl rfl rfl (by rfl) (by repeat' (first | exact rfl | assumption | refine all_cons ?_ ?_)) rfl ?_; refine r_nn <| r_seq <| r_sr <| r_ev rfl rfl ?_
  refine r_callL 2 rfl rfl rfl (Skip5_spec g1 l hb lv hs1 b (.bad j p) hj [58]) ?_
  rintro v g2 r' ⟨rfl, rfl, rfl⟩ _
  refine r_nn <| r_cond_false rfl <| r_skip <| r_then_normal <| r_sr <| r_ev rfl rfl ?_
  refine r_callL 2 rfl rfl rfl (Need5_spec g2 l hb lv hs1 b (.bad j p) hj [41]) ?_
  rintro v g2 r' ⟨rfl, rfl⟩ _
  refine r_nn <| r_sr <| r_loadB 0 rfl rfl rfl (by rfl) ?_; refine r_storeA 1 rfl rfl rfl rfl (by rfl) (by repeat' (first | exact rfl | assumption | refine all_cons ?_ ?_)) rfl ?_; refine r_nn <| r_retc ?_
  refine r_retA [_] rfl (res_blk 1 rfl rfl (by rfl)) (.cons _ (.cons _ (List.Sublist.refl _))) ⟨_, rfl, ?_⟩
  rw [hr]
  exact ⟨⟨x, _, rfl, hx'⟩, j, hj, rfl⟩
 | ok q =>
 obtain ⟨x, j⟩ := q
 rw [hq1] at hw hr
 simp only at hr
 obtain ⟨hx, rfl, hj1, hj2⟩ := hw
 obtain ⟨a1, m1, c1, a2, m2, c2, a3, m3, c3, rfl, hx'⟩ := hx.form
 have hp2 : isAt l j [58] = markAt l j [58] := isAt_mark hkw (by decide) j
 skip
 refine r_alloc rfl (fun b5 => ?_)
 refine r_storeA 0 rfl rfl rfl rfl (by rfl) (by repeat' (first | exact rfl | assumption | refine all_cons ?_ ?_)) rfl ?_; refine r_nn <| r_seq <| r_sr <| r_ev rfl rfl ?_
 refine r_callL 2 rfl rfl rfl (Skip5_spec g1 l hb lv hs1 b (.good j) hj2 [58]) ?_
 rintro v g2 r' ⟨rfl, rfl, rfl⟩ _
 rw [show RS.isIs l [58] (.good j) = markAt l j [58] from hp2]
 cases hk2 : markAt l j [58] with
 | false =>
  rw [hk2] at hr
  simp only [Bool.false_eq_true, if_false] at hr
  rw [(skip_no (hp2.trans hk2)).1]
  have hp3 : isAt l j [41] = markAt l j [41] := isAt_mark hkw (by decide) j
  refine r_nn <| r_cond_false rfl <| r_skip <| r_then_normal <| r_sr <| r_ev rfl rfl ?_
  refine r_callL 2 rfl rfl rfl (Need5_spec g2 l hb lv hs1 b (.good j) hj2 [41]) ?_
  rintro v g2 r' ⟨rfl, rfl⟩ _
  cases hk3 : markAt l j [41] with
  | true =>
   have hlt3 := tokAt_lt hk3
   rw [hk3] at hr
   simp only [if_true] at hr
   rw [(skip_yes (hp3.trans hk3)).2.1]
   refine r_nn <| r_sr <| r_loadB 0 rfl rfl rfl (by rfl) ?_; refine r_storeA 1 rfl rfl rfl rfl (by rfl) (by repeat' (first | exact rfl | assumption | refine all_cons ?_ ?_)) rfl ?_; refine r_nn <| r_retc ?_
   refine r_retA [_] rfl (res_blk 1 rfl rfl (by rfl)) (.cons _ (.cons _ (List.Sublist.refl _))) ⟨_, rfl, ?_⟩
   rw [hr]
   exact ⟨⟨_, rfl, hx'⟩, rfl, by omega, by omega⟩
  | false =>
   rw [hk3] at hr
   simp only [Bool.false_eq_true, if_false] at hr
   rw [(skip_no (hp3.trans hk3)).2]
   refine r_nn <| r_sr <| r_loadB 0 rfl rfl rfl (by rfl) ?_; refine r_storeA 1 rfl rfl rfl rfl (by rfl) (by repeat' (first | exact rfl | assumption | refine all_cons ?_ ?_)) rfl ?_; refine r_nn <| r_retc ?_
   refine r_retA [_] rfl (res_blk 1 rfl rfl (by rfl)) (.cons _ (.cons _ (List.Sublist.refl _))) ⟨_, rfl, ?_⟩
   rw [hr]
   exact ⟨⟨x, _, rfl, hx'⟩, j, hj2, rfl⟩
 | true =>
 have hlt2 := tokAt_lt hk2
 rw [hk2] at hr
 simp only [if_true] at hr
 rw [(skip_yes (hp2.trans hk2)).1]
 refine r_nn <| r_cond_true rfl <| r_sr <| r_ev rfl rfl ?_
 refine r_callL 2 rfl rfl rfl (Type5_spec hb hkw g2 lv b (j + 1) hs1 (by omega)) ?_
 rintro v g3 r' hw hle3
 have hs3 := hs1.mono hle3
 cases hq3 : tread l .whole (j + 1) with
 | error p =>
  rw [hq3] at hw hr
  simp only at hr
  obtain ⟨⟨t, hty⟩, k, hj, rfl⟩ := hw
  obtain ⟨ta, tm, tc, rfl, ht⟩ := hty.cells5
  skip
  refine r_alloc rfl (fun b6 => ?_)
  refine r_storeA 0 rfl rfl rfl rfl (by rfl) (by repeat' (first | exact rfl | assumption | refine all_cons ?_ ?_)) rfl ?_; refine r_nn <| r_region <| r_ev rfl rfl <| r_loadB 1 rfl rfl rfl (by rfl) ?_
  refine r_buildSlice rfl rfl (by rfl) (by rfl) (by rfl) (by rfl) (by rfl) (fun b7 => ?_)
  refine r_publishRow (fun g4 hg4 hs4 => ?_)
  refine r_loadB 0 rfl rfl rfl (by rfl) ?_; refine r_build rfl rfl (by rfl) ?_; refine r_storeA 1 rfl rfl rfl rfl (by rfl) (by repeat' (first | exact rfl | assumption | refine all_cons ?_ ?_)) rfl ?_; refine r_nn <| r_sr <| r_ev rfl rfl ?_
  refine r_callL 3 rfl rfl rfl (Need5_spec g4 l hb lv (hs3.mono hg4) b (.bad k p) hj [41]) ?_
  rintro v g5 r' ⟨rfl, rfl⟩ _
  refine r_nn <| r_sr <| r_loadB 1 rfl rfl rfl (by rfl) ?_; refine r_storeA 2 rfl rfl rfl rfl (by rfl) (by repeat' (first | exact rfl | assumption | refine all_cons ?_ ?_)) rfl ?_; refine r_nn <| r_retc ?_
  refine r_retA [_] rfl (res_blk 2 rfl rfl (by rfl)) (.cons _ (.cons _ (.cons _ (List.Sublist.refl _)))) ⟨_, rfl, ?_⟩
  rw [hr]
  exact ⟨⟨annE (posOf l i) x t, annE_V g5 _ t hs4 ((hx'.mono hle3).mono hg4) (ht.mono hg4)⟩, k, hj, rfl⟩
 | ok q =>
 obtain ⟨t, k⟩ := q
 rw [hq3] at hw hr
 simp only at hr
 obtain ⟨hty, rfl, hk1, hk2'⟩ := hw
 obtain ⟨ta, tm, tc, rfl, ht⟩ := hty.cells5
 have hp4 : isAt l k [41] = markAt l k [41] := isAt_mark hkw (by decide) k
 skip
 refine r_alloc rfl (fun b6 => ?_)
 refine r_storeA 0 rfl rfl rfl rfl (by rfl) (by repeat' (first | exact rfl | assumption | refine all_cons ?_ ?_)) rfl ?_; refine r_nn <| r_region <| r_ev rfl rfl <| r_loadB 1 rfl rfl rfl (by rfl) ?_
 refine r_buildSlice rfl rfl (by rfl) (by rfl) (by rfl) (by rfl) (by rfl) (fun b7 => ?_)
 refine r_publishRow (fun g4 hg4 hs4 => ?_)
 refine r_loadB 0 rfl rfl rfl (by rfl) ?_; refine r_build rfl rfl (by rfl) ?_; refine r_storeA 1 rfl rfl rfl rfl (by rfl) (by repeat' (first | exact rfl | assumption | refine all_cons ?_ ?_)) rfl ?_; refine r_nn <| r_sr <| r_ev rfl rfl ?_
 refine r_callL 3 rfl rfl rfl (Need5_spec g4 l hb lv (hs3.mono hg4) b (.good k) hk2' [41]) ?_
 rintro v g5 r' ⟨rfl, rfl⟩ _
 cases hk4 : markAt l k [41] with
 | true =>
  have hlt4 := tokAt_lt hk4
  rw [hk4] at hr
  simp only [if_true] at hr
  rw [(skip_yes (hp4.trans hk4)).2.1]
  refine r_nn <| r_sr <| r_loadB 1 rfl rfl rfl (by rfl) ?_; refine r_storeA 2 rfl rfl rfl rfl (by rfl) (by repeat' (first | exact rfl | assumption | refine all_cons ?_ ?_)) rfl ?_; refine r_nn <| r_retc ?_
  refine r_retA [_] rfl (res_blk 2 rfl rfl (by rfl)) (.cons _ (.cons _ (.cons _ (List.Sublist.refl _)))) ⟨_, rfl, ?_⟩
  rw [hr, e3]
  exact ⟨annE_V g5 _ t hs4 ((hx'.mono hle3).mono hg4) (ht.mono hg4), rfl, by omega, by omega⟩
 | false =>
  rw [hk4] at hr
  simp only [Bool.false_eq_true, if_false] at hr
  rw [(skip_no (hp4.trans hk4)).2]
  refine r_nn <| r_sr <| r_loadB 1 rfl rfl rfl (by rfl) ?_; refine r_storeA 2 rfl rfl rfl rfl (by rfl) (by repeat' (first | exact rfl | assumption | refine all_cons ?_ ?_)) rfl ?_; refine r_nn <| r_retc ?_
  refine r_retA [_] rfl (res_blk 2 rfl rfl (by rfl)) (.cons _ (.cons _ (.cons _ (List.Sublist.refl _)))) ⟨_, rfl, ?_⟩
  rw [hr]
  exact ⟨⟨annE (posOf l i) x t, annE_V g5 _ t hs4 ((hx'.mono hle3).mono hg4) (ht.mono hg4)⟩, k, hk2', rfl⟩
end Go.Proofs.YtpjehhnaojjanaaGreatDoor
-- sum 74414eef30716fc0

/- Declarations, bindings and programs in memory. -/
namespace Go.Proofs.YtpjehhnaojjanaaGreatDoor
open Go Go.Eng Go.Th Go.Proofs
def CnAt (g : Ghost) (c : Cn) (cs : List Value) : Prop := ∃ sf xf, cs = [.int .i64 c.pos, str c.name, sf] ∧ SlAt g 5 sf c.fields.length xf ∧ TysAt g c.fields xf
def DaAt (g : Ghost) (d : Da) (cs : List Value) : Prop := ∃ sp sc xc, cs = [.int .i64 d.pos, str d.name, sp, sc] ∧ SlAt g 1 sp d.params.length (d.params.map str) ∧ SlAt g 3 sc d.cons.length xc ∧ AllAt (CnAt g) d.cons xc
def BiAt (g : Ghost) (x : Bi) (cs : List Value) : Prop := ∃ tc ec, cs = [.int .i64 x.pos, .bool x.isRec, str x.name, .bool x.hasSig] ++ (tc ++ ec) ∧ TyAt g x.sig tc ∧ ExAt g x.body ec
def PgAt (g : Ghost) (p : Pg) (cs : List Value) : Prop := ∃ sd xd sb xb, cs = [sd, sb] ∧ SlAt g 4 sd p.datas.length xd ∧ AllAt (DaAt g) p.datas xd ∧ SlAt g 20 sb p.binds.length xb ∧ AllAt (BiAt g) p.binds xb
theorem CnAt.mono {g g' : Ghost} (hle : Ghost.le g g') {c : Cn} {cs : List Value} (h : CnAt g c cs) : CnAt g' c cs := by
 obtain ⟨sf, xf, h1, h2, h3⟩ := h
 exact ⟨sf, xf, h1, h2.mono hle, h3.mono hle⟩
theorem cns_mono {g g' : Ghost} (hle : Ghost.le g g') {l : List Cn} {xs : List Value} (h : AllAt (CnAt g) l xs) : AllAt (CnAt g') l xs := AllAt.mono (fun _ _ h => h.mono hle) h
theorem DaAt.mono {g g' : Ghost} (hle : Ghost.le g g') {d : Da} {cs : List Value} (h : DaAt g d cs) : DaAt g' d cs := by
 obtain ⟨sp, sc, xc, h1, h2, h3, h4⟩ := h
 exact ⟨sp, sc, xc, h1, h2.mono hle, h3.mono hle, cns_mono hle h4⟩
theorem das_mono {g g' : Ghost} (hle : Ghost.le g g') {l : List Da} {xs : List Value} (h : AllAt (DaAt g) l xs) : AllAt (DaAt g') l xs := AllAt.mono (fun _ _ h => h.mono hle) h
theorem BiAt.mono {g g' : Ghost} (hle : Ghost.le g g') {d : Bi} {cs : List Value} (h : BiAt g d cs) : BiAt g' d cs := by
 obtain ⟨tc, ec, h1, h2, h3⟩ := h
 exact ⟨tc, ec, h1, h2.mono hle, h3.mono hle⟩
theorem bis_mono {g g' : Ghost} (hle : Ghost.le g g') {l : List Bi} {xs : List Value} (h : AllAt (BiAt g) l xs) : AllAt (BiAt g') l xs := AllAt.mono (fun _ _ h => h.mono hle) h
theorem PgAt.mono {g g' : Ghost} (hle : Ghost.le g g') {p : Pg} {cs : List Value} (h : PgAt g p cs) : PgAt g' p cs := by
 obtain ⟨sd, xd, sb, xb, h1, h2, h3, h4, h5⟩ := h
 exact ⟨sd, xd, sb, xb, h1, h2.mono hle, das_mono hle h3, h4.mono hle, bis_mono hle h5⟩
theorem CnAt.one {g : Ghost} {c : Cn} {cs : List Value} (h : CnAt g c cs) : cs.length = 3 ∧ ∀ u ∈ cs, oneC u = true := by
 obtain ⟨sf, xf, rfl, h2, h3⟩ := h
 obtain ⟨a, m, k, rfl⟩ := SlAt.form h2
 exact ⟨rfl, by simp [oneC]⟩
theorem DaAt.one {g : Ghost} {c : Da} {cs : List Value} (h : DaAt g c cs) : cs.length = 4 ∧ ∀ u ∈ cs, oneC u = true := by
 obtain ⟨sp, sc, xc, rfl, h2, h3, h4⟩ := h
 obtain ⟨a, m, k, rfl⟩ := SlAt.form h2
 obtain ⟨a', m', k', rfl⟩ := SlAt.form h3
 exact ⟨rfl, by simp [oneC]⟩
theorem BiAt.one {g : Ghost} {c : Bi} {cs : List Value} (h : BiAt g c cs) : cs.length = 20 ∧ ∀ u ∈ cs, oneC u = true := by
 obtain ⟨tc, ec, rfl, h2, h3⟩ := h
 have h4 := h2.one
 have h5 := h3.one
 refine ⟨by simp [h4.1, h5.1], fun u hu => ?_⟩
 rcases List.mem_append.1 hu with hu | hu
 ·simp only [List.mem_cons, List.not_mem_nil, or_false] at hu
  rcases hu with rfl | rfl | rfl | rfl <;> rfl
 ·rcases List.mem_append.1 hu with hu | hu
  ·exact h4.2 u hu
  ·exact h5.2 u hu
def DaV (g : Ghost) (v : Value) (d : Da) : Prop := ∃ cs, v = .agg cs.toArray ∧ DaAt g d cs
def BiV (g : Ghost) (v : Value) (x : Bi) : Prop := ∃ cs, v = .agg cs.toArray ∧ BiAt g x cs
def PgV (g : Ghost) (v : Value) (x : Pg) : Prop := ∃ cs, v = .agg cs.toArray ∧ PgAt g x cs
theorem DaAt.form {g : Ghost} {d : Da} {cs : List Value} (h : DaAt g d cs) : ∃ (a1 : Option Addr) (c1 : Nat) (a2 : Option Addr) (c2 : Nat) (xc : List Value), cs = [.int .i64 d.pos, str d.name, .slice a1 d.params.length c1, .slice a2 d.cons.length c2] ∧
  SlAt g 1 (.slice a1 d.params.length c1) d.params.length (d.params.map str) ∧ SlAt g 3 (.slice a2 d.cons.length c2) d.cons.length xc ∧ AllAt (CnAt g) d.cons xc := by
 obtain ⟨sp, sc, xc, rfl, h2, h3, h4⟩ := h
 have f : ∀ {size n : Nat} {v : Value} {xs : List Value}, SlAt g size v n xs → ∃ a c, v = .slice a n c := by
  intro size n v xs h
  rcases h.2 with ⟨⟨a, c, rfl⟩, h0⟩ | ⟨b, off, cap, rfl, _⟩
  ·exact ⟨_, _, by rw [h0]⟩
  ·exact ⟨_, _, rfl⟩
 obtain ⟨a1, c1, rfl⟩ := f h2
 obtain ⟨a2, c2, rfl⟩ := f h3
 exact ⟨a1, c1, a2, c2, xc, rfl, h2, h3, h4⟩
end Go.Proofs.YtpjehhnaojjanaaGreatDoor
-- sum e3d406f7f7374c19

/- The walks of the reference's reader of expressions: cases. -/
namespace Go.Proofs.YtpjehhnaojjanaaGreatDoor
open Go Go.Eng Go.Th Go.Proofs
set_option maxRecDepth 10000
set_option maxHeartbeats 4000000
attribute [local irreducible] wpList Code.wp Run bodyPost Go.Eng.Ends Exit.then Exit.inBlock Again Wq Kq
theorem RS.word_ok {l : List Tok} {k : Int} : ∀ {s : RS}, s.ok l → (s.word l k).ok l
 | .good i, h => by
  cases hk : kindAt l i k with
  | true => obtain ⟨_, e, hlt⟩ := nameAt_yes hk; rw [e]; exact hlt
  | false => rw [(nameAt_no hk).2.1]; exact h
 | .bad _ _, h => h
theorem RS.need_ok {l : List Tok} {w : Bytes} : ∀ {s : RS}, s.ok l → (s.need l w).ok l
 | .good i, h => by
  cases hk : isAt l i w with
  | true => obtain ⟨_, e, hlt⟩ := skip_yes hk; rw [e]; exact hlt
  | false => rw [(skip_no hk).2]; exact h
 | .bad _ _, h => h
def VarsR (l : List Tok) : RS → RS → List Bytes → Prop
 | .bad j p, s, vs => s = .bad j p ∧ vs = []
 | .good j, s, vs => s = .good (j + vs.length) ∧ j + vs.length ≤ l.length ∧ lowers (l.drop j) = vs ++ lowers (l.drop (j + vs.length))
theorem VarsR.start {l : List Tok} : ∀ {s : RS}, s.ok l → VarsR l s s []
 | .bad _ _, _ => ⟨rfl, rfl⟩
 | .good _, h => ⟨rfl, h, rfl⟩
theorem lowers_step {l : List Tok} {j : Nat} (h : kindAt l j 1 = true) : lowers (l.drop j) = RS.text l 1 (.good j) :: lowers (l.drop (j + 1)) := by
 obtain ⟨_, _, hlt⟩ := nameAt_yes h
 rw [kindAt_lt hlt] at h
 rw [List.drop_eq_getElem_cons hlt, text_good, toks_some hlt]
 simp only [decide_eq_true_eq] at h
 simp [lowers, h]
theorem lowers_stop {l : List Tok} {j : Nat} (h : kindAt l j 1 = false) : lowers (l.drop j) = [] := by
 by_cases hlt : j < l.length
 ·rw [kindAt_lt hlt] at h
  rw [List.drop_eq_getElem_cons hlt]
  simp only [decide_eq_false_iff_not] at h
  simp [lowers, h]
 ·rw [List.drop_eq_nil_of_le (by omega)]; rfl
theorem VarsR.next {l : List Tok} {s0 s : RS} {vs : List Bytes} (h : VarsR l s0 s vs) (hk : s.kindIs l 1 = true) : VarsR l s0 (s.word l 1) (vs ++ [s.text l 1]) := by
 cases s0 with
 | bad j p => obtain ⟨rfl, rfl⟩ := h; cases hk
 | good j =>
  obtain ⟨rfl, h2, h3⟩ := h
  have hk' : kindAt l (j + vs.length) 1 = true := hk
  obtain ⟨_, e, hlt⟩ := nameAt_yes hk'
  rw [e]
  refine ⟨by rw [List.length_append]; simp; omega, by rw [List.length_append]; simp; omega, ?_⟩
  rw [h3, lowers_step hk']
  simp [Nat.add_assoc]
theorem VarsR.ok {l : List Tok} {s0 s : RS} {vs : List Bytes} (h0 : s0.ok l) (h : VarsR l s0 s vs) : s.ok l := by
 cases s0 with
 | bad j p => obtain ⟨rfl, rfl⟩ := h; exact h0
 | good j => obtain ⟨rfl, h2, h3⟩ := h; exact h2
theorem VarsR.len {l : List Tok} {s0 s : RS} {vs : List Bytes} (h0 : s0.ok l) (h : VarsR l s0 s vs) : vs.length ≤ l.length := by
 cases s0 with
 | bad j p => obtain ⟨rfl, rfl⟩ := h; simp
 | good j => obtain ⟨rfl, h2, h3⟩ := h; omega
def ArmsR (l : List Tok) (cr : ER) (pos : Int) (x0 : Ex) (acc : List Ar) : RS → Prop
 | .good j => j ≤ l.length ∧ cr = eread l (.arms pos x0 acc) j
 | .bad j p => j ≤ l.length ∧ cr = .error p
theorem arms_head {l : List Tok} (hkw : KW l) {cr : ER} {pos : Int} {x0 : Ex} {acc : List Ar} {s s1 : RS} {vs : List Bytes} (h : ArmsR l cr pos x0 acc s) (hv : VarsR l (s.word l 2) s1 vs) (hk : s1.kindIs l 1 = false) :
  match s1.need l [46] with
  | .bad j p => j ≤ l.length ∧ cr = .error p
  | .good k => k ≤ l.length ∧ ∃ j, s = .good j ∧ j < k ∧ cr = match eread l .expr k with
   | .error p => .error p
   | .ok (b, m) => if markAt l m [124] then eread l (.arms pos x0 (acc ++ [.mk (posOf l j) (s.text l 2) vs b])) (m + 1)
    else if wordAt l m endB then .ok (caseE pos x0 (acc ++ [.mk (posOf l j) (s.text l 2) vs b]), m + 1) else .error (failPos l m) := by
 cases s with
 | bad j p =>
  obtain ⟨rfl, rfl⟩ := hv
  exact h
 | good j =>
  obtain ⟨hj, hcr⟩ := h
  rw [eread_step] at hcr
  simp only [estep] at hcr
  cases h2 : kindAt l j 2 with
  | false =>
   obtain ⟨e1, e2, e3⟩ := nameAt_no h2
   rw [e2] at hv
   obtain ⟨rfl, rfl⟩ := hv
   rw [e1] at hcr
   exact ⟨hj, hcr⟩
  | true =>
   obtain ⟨e1, e2, hlt⟩ := nameAt_yes h2
   rw [e2] at hv
   obtain ⟨rfl, hv2, hv3⟩ := hv
   have hk' : kindAt l (j + 1 + vs.length) 1 = false := hk
   rw [lowers_stop hk', List.append_nil] at hv3
   rw [e1, hv3] at hcr
   simp only at hcr
   have hp : isAt l (j + 1 + vs.length) [46] = markAt l (j + 1 + vs.length) [46] := isAt_mark hkw (by decide) _
   cases h3 : markAt l (j + 1 + vs.length) [46] with
   | false =>
    rw [h3] at hcr
    rw [(skip_no (hp.trans h3)).2]
    exact ⟨hv2, hcr⟩
   | true =>
    rw [h3] at hcr
    have hlt3 := tokAt_lt h3
    rw [(skip_yes (hp.trans h3)).2.1]
    exact ⟨hlt3, j, rfl, by omega, hcr⟩
def EndR (l : List Tok) (cr : ER) (e : Ex) : RS → Prop
 | .good m => m ≤ l.length ∧ cr = if wordAt l m endB then .ok (e, m + 1) else .error (failPos l m)
 | .bad j p => j ≤ l.length ∧ cr = .error p
def caseRes (l : List Tok) (pos : Int) (i : Nat) : ER := match eread l .expr i with
 | .error p => .error p
 | .ok (e, j) => if wordAt l j ofB then eread l (.arms pos e []) (j + 1) else .error (failPos l j)
theorem caseRes_lt {l : List Tok} {pos : Int} {i : Nat} {e : Ex} {j : Nat} (h : caseRes l pos i = .ok (e, j)) : i < j := by
 unfold caseRes at h
 cases hq : eread l .expr i with
 | error p => rw [hq] at h; cases h
 | ok q =>
  obtain ⟨x, k⟩ := q
  rw [hq] at h
  simp only at h
  have h1 := eread_lt rfl hq
  split at h
  ·have h2 := eread_le h; omega
  ·cases h
def noEc : List Value := [.int .i64 0, .int .i64 0, str [], .int .i64 0, .slice none 0 0, .slice none 0 0, .int .i64 0, str [], .int .i64 0, .int .i64 0, .slice none 0 0]
def arCells (p : Int) (c : Bytes) (sv : Value) (bc : List Value) : List Value := .int .i64 p :: str c :: sv :: bc
def caseCells (p : Int) (ks sv : Value) : List Value := [.int .i64 8, .int .i64 p, str [], .int .i64 0, ks, sv, .int .i64 0, str [], .int .i64 0, .int .i64 0, .slice none 0 0]
theorem caseE_V {g : Ghost} {pos : Int} {x0 : Ex} {c0 : List Value} {acc : List Ar} {ks sv : Value} {xa : List Value} (h1 : SlAt g 11 ks 1 c0) (h2 : ExAt g x0 c0) (h3 : SlAt g 14 sv acc.length xa) (h4 : ArsAt g acc xa) : ExAt g (caseE pos x0 acc) (caseCells pos ks sv) :=
 ExAt.mk (e := caseE pos x0 acc) h1 (exs1 h2) h3 h4 (TyAt.mk (t := noT) (slNil g 5) (tysNil g))
theorem ars_snoc {g : Ghost} {acc : List Ar} {xa : List Value} {p : Int} {c : Bytes} {vs : List Bytes} {b : Ex} {sv : Value} {bc : List Value} (h : ArsAt g acc xa) (h1 : SlAt g 1 sv vs.length (vs.map str)) (h2 : ExAt g b bc) : ArsAt g (acc ++ [.mk p c vs b]) (xa ++ arCells p c sv bc) := by
 refine ars_all.2 (AllAt.snoc ?_ (ars_all.1 h))
 unfold ArAt
 exact ⟨sv, bc, rfl, h1, h2⟩
def BodyR (l : List Tok) (k : Nat) (x : Ex) : RS → Prop
 | .good m => eread l .expr k = .ok (x, m) ∧ k < m ∧ m ≤ l.length
 | .bad j p => eread l .expr k = .error p ∧ j ≤ l.length
theorem post6_body {l : List Tok} {k b : Nat} {lv v : Value} {g' : Ghost} {r' : Res} (h : post6 l k b lv (eread l .expr k) v g' r') : ∃ x s, ExV g' v x ∧ r' = rdB b lv s ∧ BodyR l k x s := by
 cases hq : eread l .expr k with
 | error p =>
  rw [hq] at h
  obtain ⟨⟨x, hx⟩, j, hj, rfl⟩ := h
  exact ⟨x, .bad j p, hx, rfl, hq, hj⟩
 | ok q =>
  obtain ⟨x, m⟩ := q
  rw [hq] at h
  obtain ⟨hx, rfl, h1, h2⟩ := h
  exact ⟨x, .good m, hx, rfl, hq, h1, h2⟩
theorem BodyR.ok {l : List Tok} {k : Nat} {x : Ex} {s : RS} (h : BodyR l k x s) : s.ok l := by
 cases s with
 | good m => exact h.2.2
 | bad j p => exact h.2
def RS.isBad : RS → Bool
 | .good _ => false
 | .bad _ _ => true
def RS.left (l : List Tok) : RS → Nat
 | .good j => l.length - j + 1
 | .bad _ _ => 0
theorem cases6_step {l : List Tok} (hb : TB l) (hkw : KW l) (m : Nat) (lv : Value) (b : Nat)
  (hR : ∀ g i, ToksAt g lv l → i ≤ l.length → l.length - i < m → SpecL Tryz.prog 78 [ptr b 0] g (rdB b lv (.good i)) (post6 l i b lv (eread l .expr i)))
  (g : Ghost) (i : Nat) (hs : ToksAt g lv l) (hi : i ≤ l.length) (hm : l.length - i < m) (pos : Int) : SpecL Tryz.prog 119 [ptr b 0, .int .i64 pos] g (rdB b lv (.good i)) (post6 l i b lv (caseRes l pos i)) := by
 have hb1 := hb.1
 refine spec_of_run Tryz.func119 rfl Tryz.ntmps119 rfl fun E hE => ?_
 refine r_sr ?_
 refine r_alloc rfl (fun b4 => ?_)
 refine r_nn <| r_sr <| r_ev rfl rfl <| r_ev rfl rfl ?_
 refine r_callL 1 rfl rfl rfl (hR g i hs hi hm) ?_
 rintro v g1 r' hw hle1
 obtain ⟨x0, s, hx0, rfl, hbody⟩ := post6_body hw
 have hs1 := hs.mono hle1
 obtain ⟨a1, m1, c1, a2, m2, c2, a3, m3, c3, rfl, hx0'⟩ := hx0.form
 skip
 refine r_buildSlice rfl rfl (by rfl) (by rfl) (by rfl) (by rfl) (by rfl) (fun b10 => ?_)
 refine r_publishRow (fun g2 hle2 hs10 => ?_)
 have hs2 := hs1.mono hle2
 have hx2 := hx0'.mono hle2
 refine r_build rfl rfl (by rfl) ?_
 refine r_alloc rfl (fun b5 => ?_)
 refine r_storeA 0 rfl rfl rfl rfl (by rfl) (by repeat' (first | exact rfl | assumption | refine all_cons ?_ ?_)) rfl ?_; refine r_nn <| r_sr <| r_ev rfl rfl ?_
 refine r_callL 2 rfl rfl rfl (Need5_spec g2 l hb lv hs2 b s hbody.ok ofB) ?_
 rintro v g2' r' ⟨rfl, rfl⟩ _
 have hcr : ArmsR l (caseRes l pos i) pos x0 [] (s.need l ofB) := by
  unfold caseRes
  cases s with
  | bad j p =>
   obtain ⟨h1, h2⟩ := hbody
   rw [h1]
   exact ⟨h2, rfl⟩
  | good j =>
   obtain ⟨h1, h2, h3⟩ := hbody
   rw [h1]
   simp only
   have hp : isAt l j ofB = wordAt l j ofB := isAt_word hkw (by decide) j
   cases hk : wordAt l j ofB with
   | true =>
    rw [(skip_yes (hp.trans hk)).2.1]
    exact ⟨tokAt_lt hk, rfl⟩
   | false =>
    rw [(skip_no (hp.trans hk)).2]
    exact ⟨h3, rfl⟩
 refine r_nn ?_
 have hs0 : ∀ j, s.need l ofB = .good j → i < j := by
  intro j hj
  cases s with
  | bad j' p => cases hj
  | good j' =>
   have := hbody.2.1
   cases hk : isAt l j' ofB with
   | true => rw [(skip_yes hk).2.1] at hj; cases hj; omega
   | false => rw [(skip_no hk).2] at hj; cases hj
 generalize s.need l ofB = s0 at hcr hs0
 have hcl : ∀ {e : Ex} {j : Nat}, caseRes l pos i = .ok (e, j) → i < j := fun h => caseRes_lt h
 generalize caseRes l pos i = cr at hcr hcl ⊢
 refine r_cutG (ι := RS × List Ar × Value × Ghost) (fun p => [(0, ptr b 0), (4, ptr b4 0), (5, ptr b5 0)]) (fun p => p.2.2.2)
  (fun p => [.blk b5 51 (caseCells pos (.slice (some ⟨b10, 0, none⟩) 1 1) p.2.2.1), .blk b4 51 noEc, rdB b lv p.1])
  (fun p => Ghost.le g2' p.2.2.2 ∧ (∃ xa, SlAt p.2.2.2 14 p.2.2.1 p.2.1.length xa ∧ ArsAt p.2.2.2 p.2.1 xa) ∧ EndR l cr (caseE pos x0 p.2.1) p.1) ?_ ?_
 ·rintro ⟨s, acc, slv, g3⟩ ⟨k1, ⟨xa, k2, k3⟩, k4⟩
  simp only at k1 k2 k3 k4
  obtain ⟨sa, sm, sc, rfl⟩ := SlAt.form k2
  have hs3 := hs2.mono k1
  have hx3 := caseE_V (pos := pos) (hs10.mono k1) (hx2.mono k1) k2 k3
  show Run E _ [(0, ptr b 0), (4, ptr b4 0), (5, ptr b5 0)] g3 [.blk b5 51 (caseCells pos (.slice (some ⟨b10, 0, none⟩) 1 1) (.slice sa sm sc)), .blk b4 51 noEc, rdB b lv s] _
  have hok : s.ok l := by
   cases s with
   | good j => exact k4.1
   | bad j p => exact k4.1
  refine r_sr <| r_ev rfl rfl ?_
  refine r_callL 2 rfl rfl rfl (Need5_spec g3 l hb lv hs3 b s hok endB) ?_
  rintro v g4 r' ⟨rfl, rfl⟩ _
  refine r_nn <| r_sr <| r_loadB 0 rfl rfl rfl (by rfl) ?_; refine r_storeA 1 rfl rfl rfl rfl (by rfl) (by repeat' (first | exact rfl | assumption | refine all_cons ?_ ?_)) rfl ?_; refine r_nn <| r_retc ?_
  refine r_retA [_] rfl (res_blk 1 rfl rfl (by rfl)) (.cons _ (.cons _ (List.Sublist.refl _))) ⟨_, rfl, ?_⟩
  cases s with
  | bad j p =>
   obtain ⟨h1, h2⟩ := k4
   rw [h2]
   exact ⟨⟨_, _, rfl, hx3⟩, j, h1, rfl⟩
  | good j =>
   obtain ⟨h1, h2⟩ := k4
   have hp : isAt l j endB = wordAt l j endB := isAt_word hkw (by decide) j
   cases hk : wordAt l j endB with
   | true =>
    rw [hk] at h2
    simp only [if_true] at h2
    rw [(skip_yes (hp.trans hk)).2.1, h2]
    refine ⟨⟨_, rfl, hx3⟩, rfl, hcl h2, tokAt_lt hk⟩
   | false =>
    rw [hk] at h2
    simp only [Bool.false_eq_true, if_false] at h2
    rw [(skip_no (hp.trans hk)).2, h2]
    exact ⟨⟨_, _, rfl, hx3⟩, j, h1, rfl⟩
 ·intro K hK
  refine r_block ?_
  refine r_nilRow 110 14 ?_
  refine r_loop (ι := RS × List Ar × Value × List Value × Ghost) (fun p => [(0, ptr b 0), (4, ptr b4 0), (5, ptr b5 0)]) (fun p => p.2.2.2.2)
   (fun p => [.row 110 14 p.2.2.1 p.2.1.length p.2.2.2.1, .blk b5 51 (caseCells pos (.slice (some ⟨b10, 0, none⟩) 1 1) p.2.2.1), .blk b4 51 noEc, rdB b lv p.1])
   (fun p => Ghost.le g2' p.2.2.2.2 ∧ (∃ a m c, p.2.2.1 = .slice a m c) ∧ p.2.1.length ≤ l.length ∧ (∀ j, p.1 = .good j → i < j ∧ p.2.1.length ≤ j) ∧ ArsAt p.2.2.2.2 p.2.1 p.2.2.2.1 ∧ ArmsR l cr pos x0 p.2.1 p.1)
   (fun p => p.1.left l) (s0, [], .slice none 0 0, [], g2')
   ⟨Ghost.le_refl _, ⟨_, _, _, rfl⟩, by simp, fun j hj => ⟨hs0 j hj, by simp⟩, arsNil _, hcr⟩ ⟨rfl, rfl, rfl, trivial⟩ rfl rfl ?_
  rintro ⟨s, acc, slv, xa, g3⟩ ⟨k1, ⟨sa, sm, sc, k2⟩, k3, k3', k4, k5⟩
  simp only at k1 k2 k3 k3' k4 k5
  subst k2
  have hok : s.ok l := by
   cases s with
   | good j => exact k5.1
   | bad j p => exact k5.1
  have hs3 := hs2.mono k1
  show Run E _ [(0, ptr b 0), (4, ptr b4 0), (5, ptr b5 0)] g3 [.row 110 14 (.slice sa sm sc) acc.length xa, .blk b5 51 (caseCells pos (.slice (some ⟨b10, 0, none⟩) 1 1) (.slice sa sm sc)), .blk b4 51 noEc, rdB b lv s] _
  refine r_block <| r_sr <| r_ev rfl rfl ?_
  refine r_callO 3 rfl rfl rfl (Pos5_spec g3 l lv hs3 b s) ?_
  refine r_ev rfl rfl ?_
  refine r_callL 3 rfl rfl rfl (Word5_spec g3 l hb lv hs3 b s hok 2) ?_
  rintro v g3' r' ⟨rfl, rfl, rfl⟩ _
  refine r_build rfl rfl (by rfl) ?_
  refine r_alloc rfl (fun b6 => ?_)
  refine r_storeA 0 rfl rfl rfl rfl (by rfl) rfl rfl ?_; refine r_nn ?_
  have hok1 : (s.word l 2).ok l := RS.word_ok hok
  -- STOPA
  refine r_cutG (ι := RS × List Bytes × Value) (fun p => [(0, ptr b 0), (4, ptr b4 0), (5, ptr b5 0), (6, ptr b6 0)]) (fun _ => g3')
   (fun p => [.row 9 1 p.2.2 p.2.1.length (p.2.1.map str), .blk b6 110 (arCells (posAt l s.idx) (s.text l 2) p.2.2 noEc), .row 110 14 (.slice sa sm sc) acc.length xa, .blk b5 51 (caseCells pos (.slice (some ⟨b10, 0, none⟩) 1 1) (.slice sa sm sc)), .blk b4 51 noEc, rdB b lv p.1])
   (fun p => (∃ a m c, p.2.2 = .slice a m c) ∧ VarsR l (s.word l 2) p.1 p.2.1 ∧ p.1.kindIs l 1 = false) ?_ ?_
  ·rintro ⟨s1, vs, vv⟩ ⟨⟨va, vm, vc, q1⟩, q2, q3⟩
   simp only at q1 q2 q3
   subst q1
   have hh := arms_head hkw k5 q2 q3
   have hok2 : s1.ok l := q2.ok hok1
   have hvl := q2.len hok1
   show Run E _ [(0, ptr b 0), (4, ptr b4 0), (5, ptr b5 0), (6, ptr b6 0)] g3' [.row 9 1 (.slice va vm vc) vs.length (vs.map str), .blk b6 110 (arCells (posAt l s.idx) (s.text l 2) (.slice va vm vc) noEc), .row 110 14 (.slice sa sm sc) acc.length xa, .blk b5 51 (caseCells pos (.slice (some ⟨b10, 0, none⟩) 1 1) (.slice sa sm sc)), .blk b4 51 noEc, rdB b lv s1] _
   refine r_publishRow (fun g4 hg4 hv4 => ?_)
   have hs4 := hs3.mono hg4
   refine r_sr <| r_ev rfl rfl ?_
   refine r_callL 4 rfl rfl rfl (Need5_spec g4 l hb lv hs4 b s1 hok2 [46]) ?_
   rintro v g4' r' ⟨rfl, rfl⟩ _
   generalize s1.need l [46] = s2 at hh
   cases s2 with
   | bad j p =>
    simp only at hh
    refine r_nn <| r_seq <| r_sr <| r_ev rfl rfl <| r_ev rfl rfl <| r_fieldAddr rfl rfl <| r_loadB1 4 rfl rfl rfl rfl <| r_nn <| r_cond_true rfl <| r_sr <| r_build rfl rfl (by rfl) ?_; refine r_storeA 3 rfl rfl rfl rfl (by rfl) (by repeat' (first | exact rfl | assumption | refine all_cons ?_ ?_)) rfl ?_; refine r_nn <| r_retc <| r_then_ret <| r_in_ret <| r_then_ret <| r_in_ret <| r_then_ret ?_
    refine r_retA [_] rfl (res_blk 3 rfl rfl (by rfl)) (.cons _ (.cons _ (.cons _ (.cons _ (List.Sublist.refl _))))) ⟨_, rfl, ?_⟩
    rw [hh.2]
    exact ⟨⟨noE, noE_V _⟩, j, hh.1, rfl⟩
   | good k =>
    simp only at hh
    obtain ⟨hkl, j, rfl, hjk, hcr'⟩ := hh
    have hij := (k3' j rfl).1
    have hal := (k3' j rfl).2
    refine r_nn <| r_seq <| r_sr <| r_ev rfl rfl <| r_ev rfl rfl <| r_fieldAddr rfl rfl <| r_loadB1 4 rfl rfl rfl rfl <| r_nn <| r_cond_false rfl <| r_skip <| r_then_normal <| r_sr <| r_ev rfl rfl ?_
    refine r_callL 4 rfl rfl rfl (hR g4' k hs4 hkl (by omega)) ?_
    rintro v g5 r' hw hle5
    obtain ⟨x, s3, hx, rfl, hbody3⟩ := post6_body hw
    have hs5 := hs4.mono hle5
    have hv5 := hv4.mono hle5
    have hg35 := Ghost.le_trans hg4 hle5
    obtain ⟨b1, n1, d1, b2, n2, d2, b3, n3, d3, rfl, hx'⟩ := hx.form
    refine r_fieldAddr rfl rfl <| r_storeA 0 rfl rfl rfl rfl (by rfl) (by repeat' (first | exact rfl | assumption | refine all_cons ?_ ?_)) rfl ?_; refine r_nn <| r_sr <| r_fieldAddr rfl rfl <| r_loadB1 2 rfl rfl rfl rfl <| r_loadB 0 rfl rfl rfl (by rfl) ?_
    refine r_buildSlice rfl rfl (by rfl) (by rfl) (by rfl) (by rfl) (by rfl) (fun b41 => ?_)
    refine r_appendRow 2 0 rfl rfl rfl rfl rfl (by rfl) (by rfl) rfl (by unfold maxLen; omega) (by omega) (fun v' hv' => ?_)
    refine r_rowForm 2 rfl ?_
    rintro ⟨ya, ym, yc, rfl⟩
    have hars := ars_snoc (p := posOf l j) (c := RS.text l 2 (.good j)) (k4.mono hg35) hv5 hx'
    -- STOPB
    refine r_fieldAddr rfl rfl <| r_store1 3 rfl rfl rfl rfl rfl rfl <| r_nn <| r_sr <| r_ev rfl rfl ?_
    refine r_callL 5 rfl rfl rfl (Skip5_spec g5 l hb lv hs5 b s3 hbody3.ok [124]) ?_
    rintro v g6 r' ⟨rfl, rfl, rfl⟩ _
    cases s3 with
    | bad j' p =>
     obtain ⟨h1, h2⟩ := hbody3
     rw [h1] at hcr'
     refine r_ev rfl rfl <| r_nn <| r_cond_true rfl <| r_exit <| r_in_exit_other rfl <| r_then_exit <| r_in_exit <| r_then_normal ?_
     refine r_drop (own' := [_, _, _, _]) (.cons _ (.cons _ (List.Sublist.refl _))) ?_
     refine r_publishRow (fun g7 hg7 ha7 => ?_)
     exact hK (.bad j' p, acc ++ [.mk (posOf l j) (RS.text l 2 (.good j)) vs x], .slice ya ym yc, g7) _ ⟨Ghost.le_trans k1 (Ghost.le_trans hg35 hg7), ⟨_, by rw [List.length_append]; exact ha7, hars.mono hg7⟩, h2, hcr'⟩ ⟨rfl, rfl, rfl, trivial⟩
    | good m' =>
     obtain ⟨h1, h2, h3⟩ := hbody3
     rw [h1] at hcr'
     simp only at hcr'
     have hp : isAt l m' [124] = markAt l m' [124] := isAt_mark hkw (by decide) m'
     rw [show RS.isIs l [124] (.good m') = markAt l m' [124] from hp]
     cases hk : markAt l m' [124] with
     | true =>
      rw [hk] at hcr'
      simp only [if_true] at hcr'
      have hlt' := tokAt_lt hk
      rw [(skip_yes (hp.trans hk)).1]
      refine r_ev rfl rfl <| r_nn <| r_cond_false rfl <| r_skip <| r_in_normal <| r_then_normal ?_
      refine r_drop (own' := [_, _, _, _]) (.cons _ (.cons _ (List.Sublist.refl _))) ?_
      refine r_again (.good (m' + 1), acc ++ [.mk (posOf l j) (RS.text l 2 (.good j)) vs x], .slice ya ym yc, xa ++ arCells (posOf l j) (RS.text l 2 (.good j)) (.slice va vm vc) _, g6) ⟨Ghost.le_trans k1 hg35, ⟨_, _, _, rfl⟩, by simp; omega, fun j2 hj2 => ?_, hars, hlt', hcr'⟩ (by simp only [RS.left]; omega) ⟨rfl, rfl, rfl, trivial⟩ rfl ?_
      ·cases hj2
       exact ⟨by omega, by simp; omega⟩
      ·simp [arCells, repN]
       exact ⟨rfl, rfl⟩
     | false =>
      rw [hk] at hcr'
      simp only [Bool.false_eq_true, if_false] at hcr'
      rw [(skip_no (hp.trans hk)).1]
      refine r_ev rfl rfl <| r_nn <| r_cond_true rfl <| r_exit <| r_in_exit_other rfl <| r_then_exit <| r_in_exit <| r_then_normal ?_
      refine r_drop (own' := [_, _, _, _]) (.cons _ (.cons _ (List.Sublist.refl _))) ?_
      refine r_publishRow (fun g7 hg7 ha7 => ?_)
      exact hK (.good m', acc ++ [.mk (posOf l j) (RS.text l 2 (.good j)) vs x], .slice ya ym yc, g7) _ ⟨Ghost.le_trans k1 (Ghost.le_trans hg35 hg7), ⟨_, by rw [List.length_append]; exact ha7, hars.mono hg7⟩, h3, hcr'⟩ ⟨rfl, rfl, rfl, trivial⟩
  ·intro K2 hK2
   refine r_block ?_
   refine r_nilRow 9 1 ?_
   refine r_loop (ι := RS × List Bytes × Value) (fun p => [(0, ptr b 0), (4, ptr b4 0), (5, ptr b5 0), (6, ptr b6 0)]) (fun _ => g3')
    (fun p => [.row 9 1 p.2.2 p.2.1.length (p.2.1.map str), .blk b6 110 (arCells (posAt l s.idx) (s.text l 2) p.2.2 noEc), .row 110 14 (.slice sa sm sc) acc.length xa, .blk b5 51 (caseCells pos (.slice (some ⟨b10, 0, none⟩) 1 1) (.slice sa sm sc)), .blk b4 51 noEc, rdB b lv p.1])
    (fun p => (∃ a m c, p.2.2 = .slice a m c) ∧ VarsR l (s.word l 2) p.1 p.2.1) (fun p => p.1.left l) (s.word l 2, [], .slice none 0 0) ⟨⟨_, _, _, rfl⟩, VarsR.start hok1⟩ ⟨rfl, rfl, rfl, rfl, trivial⟩ rfl rfl ?_
   rintro ⟨s1, vs, vv⟩ ⟨⟨va, vm, vc, q1⟩, q2⟩
   simp only at q1 q2
   subst q1
   have hok2 : s1.ok l := q2.ok hok1
   have hvl := q2.len hok1
   show Run E _ [(0, ptr b 0), (4, ptr b4 0), (5, ptr b5 0), (6, ptr b6 0)] g3' [.row 9 1 (.slice va vm vc) vs.length (vs.map str), .blk b6 110 (arCells (posAt l s.idx) (s.text l 2) (.slice va vm vc) noEc), .row 110 14 (.slice sa sm sc) acc.length xa, .blk b5 51 (caseCells pos (.slice (some ⟨b10, 0, none⟩) 1 1) (.slice sa sm sc)), .blk b4 51 noEc, rdB b lv s1] _
   refine r_seq <| r_sr <| r_ev rfl rfl ?_
   refine r_callO 5 rfl rfl rfl (Kind5_spec g3' l lv hs3 b s1 1) ?_
   cases hk : s1.kindIs l 1 with
   | false =>
    refine r_nn <| r_cond_false rfl <| r_exit <| r_then_exit <| r_then_exit <| r_in_exit <| r_then_normal ?_
    exact hK2 (s1, vs, .slice va vm vc) _ ⟨⟨_, _, _, rfl⟩, q2, hk⟩ ⟨rfl, rfl, rfl, rfl, trivial⟩
   | true =>
    have hnx := q2.next hk
    have hleft : (s1.word l 1).left l < s1.left l := by
     cases s1 with
     | bad j p => cases hk
     | good j =>
      obtain ⟨_, e, hlt⟩ := nameAt_yes (show kindAt l j 1 = true from hk)
      rw [e]
      simp only [RS.left]; omega
    refine r_nn <| r_cond_true rfl <| r_skip <| r_then_normal <| r_block ?_
    refine m_begin 6 [5, 0] mixed (by kernel_rfl) (fun hG => ?_)
    refine m_takeXA 0 rfl (by kernel_rfl) rfl hG ?_; refine ⟨_, (val_fieldAddr rfl), ?_⟩; refine m_takeXA 1 rfl (by kernel_rfl) rfl hG ?_; refine ⟨_, (val_loadB1 0 rfl rfl rfl), ?_⟩; refine m_takeXA 2 rfl (by kernel_rfl) rfl hG ?_; refine ⟨_, (val_ev rfl), ?_⟩
    refine m_one 3 (by kernel_rfl) rfl rfl ?_
    refine r_callL 5 rfl rfl rfl (Word5_spec g3' l hb lv hs3 b s1 hok2 1) ?_
    rintro v g4 r' ⟨rfl, rfl, rfl⟩ _
    refine r_nn ?_
    refine h_keptA hG ?_
    refine m_one 4 (by kernel_rfl) rfl rfl ?_
    refine r_buildSlice rfl rfl (by rfl) (by rfl) (by rfl) (by rfl) (by rfl) (fun b41 => ?_)
    refine r_nn ?_
    refine h_keptA hG ?_
    refine m_one 5 (by kernel_rfl) rfl rfl ?_
    refine r_appendRow 1 0 rfl rfl rfl rfl rfl (by rfl) (by rfl) rfl (by unfold maxLen; omega) (by omega) (fun v' hv' => ?_)
    refine r_rowForm 1 rfl ?_
    rintro ⟨ya, ym, yc, rfl⟩
    refine r_nn ?_
    refine h_keptA hG ?_
    refine m_done (by kernel_rfl) ?_
    refine r_fieldAddr rfl rfl <| r_store1 2 rfl rfl rfl rfl rfl rfl <| r_nil <| r_in_normal <| r_then_normal ?_
    refine r_drop (own' := [_, _, _, _, _, _]) (.cons _ (List.Sublist.refl _)) ?_
    refine r_again (s1.word l 1, vs ++ [s1.text l 1], .slice ya ym yc) ⟨⟨_, _, _, rfl⟩, hnx⟩ hleft ⟨rfl, rfl, rfl, rfl, trivial⟩ rfl ?_
    simp [arCells, repN]
end Go.Proofs.YtpjehhnaojjanaaGreatDoor
-- sum 6c0d1a3dee0621d5


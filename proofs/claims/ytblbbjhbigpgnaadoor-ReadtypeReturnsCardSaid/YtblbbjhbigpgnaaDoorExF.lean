/- The walks of the reference's reader of expressions: cases. -/
import Derived.Test.YtblbbjhbigpgnaaDoorK1
namespace Go.Proofs.YtblbbjhbigpgnaaDoor
open Go Go.Eng Go.Th Go.Proofs
set_option maxRecDepth 10000
set_option maxHeartbeats 4000000
attribute [local irreducible] wpList Code.wp Run bodyPost Go.Eng.Ends Exit.then Exit.inBlock Again Wq Kq
theorem RS.word_ok {l : List Tok} {k : Int} : ∀ {s : RS}, s.ok l → (s.word l k).ok l
  | .good i, h => by
    cases hk : kindAt l i k with
    | true => obtain ⟨_, e, hlt⟩ := nameAt_yes hk; rw [e]; exact hlt
    | false => rw [(nameAt_no hk).2.1]; exact h
  | .bad _ _, h => h
theorem RS.skip_ok {l : List Tok} {w : Bytes} : ∀ {s : RS}, s.ok l → (s.skip l w).ok l
  | .good i, h => by
    cases hk : isAt l i w with
    | true => obtain ⟨e, _, hlt⟩ := skip_yes hk; rw [e]; exact hlt
    | false => rw [(skip_no hk).1]; exact h
  | .bad _ _, h => h
theorem RS.need_ok {l : List Tok} {w : Bytes} : ∀ {s : RS}, s.ok l → (s.need l w).ok l
  | .good i, h => by
    cases hk : isAt l i w with
    | true => obtain ⟨_, e, hlt⟩ := skip_yes hk; rw [e]; exact hlt
    | false => rw [(skip_no hk).2]; exact h
  | .bad _ _, h => h
/-- How far the names behind a constructor are read. -/
def VarsR (l : List Tok) : RS → RS → List Bytes → Prop
  | .bad j p, s, vs => s = .bad j p ∧ vs = []
  | .good j, s, vs => s = .good (j + vs.length) ∧ j + vs.length ≤ l.length ∧ lowers (l.drop j) = vs ++ lowers (l.drop (j + vs.length))
theorem VarsR.start {l : List Tok} : ∀ {s : RS}, s.ok l → VarsR l s s []
  | .bad _ _, _ => ⟨rfl, rfl⟩
  | .good _, h => ⟨rfl, h, rfl⟩
theorem lowers_step {l : List Tok} {j : Nat} (h : kindAt l j 1 = true) : lowers (l.drop j) = RS.text l 1 (.good j) :: lowers (l.drop (j + 1)) := by
  obtain ⟨_, _, hlt⟩ := nameAt_yes h
  rw [kindAt_lt hlt] at h
  rw [List.drop_eq_getElem_cons hlt, text_good, toks_some hlt]
  simp only [decide_eq_true_eq] at h
  simp [lowers, h]
theorem lowers_stop {l : List Tok} {j : Nat} (h : kindAt l j 1 = false) : lowers (l.drop j) = [] := by
  by_cases hlt : j < l.length
  · rw [kindAt_lt hlt] at h
    rw [List.drop_eq_getElem_cons hlt]
    simp only [decide_eq_false_iff_not] at h
    simp [lowers, h]
  · rw [List.drop_eq_nil_of_le (by omega)]; rfl
theorem VarsR.next {l : List Tok} {s0 s : RS} {vs : List Bytes} (h : VarsR l s0 s vs) (hk : s.kindIs l 1 = true) : VarsR l s0 (s.word l 1) (vs ++ [s.text l 1]) := by
  cases s0 with
  | bad j p => obtain ⟨rfl, rfl⟩ := h; cases hk
  | good j =>
    obtain ⟨rfl, h2, h3⟩ := h
    have hk' : kindAt l (j + vs.length) 1 = true := hk
    obtain ⟨_, e, hlt⟩ := nameAt_yes hk'
    rw [e]
    refine ⟨by rw [List.length_append]; simp; omega, by rw [List.length_append]; simp; omega, ?_⟩
    rw [h3, lowers_step hk']
    simp [Nat.add_assoc]
theorem VarsR.ok {l : List Tok} {s0 s : RS} {vs : List Bytes} (h0 : s0.ok l) (h : VarsR l s0 s vs) : s.ok l := by
  cases s0 with
  | bad j p => obtain ⟨rfl, rfl⟩ := h; exact h0
  | good j => obtain ⟨rfl, h2, h3⟩ := h; exact h2
theorem VarsR.len {l : List Tok} {s0 s : RS} {vs : List Bytes} (h0 : s0.ok l) (h : VarsR l s0 s vs) : vs.length ≤ l.length := by
  cases s0 with
  | bad j p => obtain ⟨rfl, rfl⟩ := h; simp
  | good j => obtain ⟨rfl, h2, h3⟩ := h; omega
def ArmsR (l : List Tok) (cr : ER) (pos : Int) (x0 : Ex) (acc : List Ar) : RS → Prop
  | .good j => j ≤ l.length ∧ cr = eread l (.arms pos x0 acc) j
  | .bad j p => j ≤ l.length ∧ cr = .error p
theorem arms_head {l : List Tok} (hkw : KW l) {cr : ER} {pos : Int} {x0 : Ex} {acc : List Ar} {s s1 : RS} {vs : List Bytes} (h : ArmsR l cr pos x0 acc s) (hv : VarsR l (s.word l 2) s1 vs) (hk : s1.kindIs l 1 = false) :
    match s1.need l [46] with
    | .bad j p => j ≤ l.length ∧ cr = .error p
    | .good k => k ≤ l.length ∧ ∃ j, s = .good j ∧ j < k ∧ cr = match eread l .expr k with
      | .error p => .error p
      | .ok (b, m) => if markAt l m [124] then eread l (.arms pos x0 (acc ++ [.mk (posOf l j) (s.text l 2) vs b])) (m + 1)
        else if wordAt l m endB then .ok (caseE pos x0 (acc ++ [.mk (posOf l j) (s.text l 2) vs b]), m + 1) else .error (failPos l m) := by
  cases s with
  | bad j p =>
    obtain ⟨rfl, rfl⟩ := hv
    exact h
  | good j =>
    obtain ⟨hj, hcr⟩ := h
    rw [eread_step] at hcr
    simp only [estep] at hcr
    cases h2 : kindAt l j 2 with
    | false =>
      obtain ⟨e1, e2, e3⟩ := nameAt_no h2
      rw [e2] at hv
      obtain ⟨rfl, rfl⟩ := hv
      rw [e1] at hcr
      exact ⟨hj, hcr⟩
    | true =>
      obtain ⟨e1, e2, hlt⟩ := nameAt_yes h2
      rw [e2] at hv
      obtain ⟨rfl, hv2, hv3⟩ := hv
      have hk' : kindAt l (j + 1 + vs.length) 1 = false := hk
      rw [lowers_stop hk', List.append_nil] at hv3
      rw [e1, hv3] at hcr
      simp only at hcr
      have hp : isAt l (j + 1 + vs.length) [46] = markAt l (j + 1 + vs.length) [46] := isAt_mark hkw (by decide) _
      cases h3 : markAt l (j + 1 + vs.length) [46] with
      | false =>
        rw [h3] at hcr
        rw [(skip_no (hp.trans h3)).2]
        exact ⟨hv2, hcr⟩
      | true =>
        rw [h3] at hcr
        have hlt3 := tokAt_lt h3
        rw [(skip_yes (hp.trans h3)).2.1]
        exact ⟨hlt3, j, rfl, by omega, hcr⟩
def EndR (l : List Tok) (cr : ER) (e : Ex) : RS → Prop
  | .good m => m ≤ l.length ∧ cr = if wordAt l m endB then .ok (e, m + 1) else .error (failPos l m)
  | .bad j p => j ≤ l.length ∧ cr = .error p
/-- What an analysis reads behind its first word. -/
def caseRes (l : List Tok) (pos : Int) (i : Nat) : ER := match eread l .expr i with
  | .error p => .error p
  | .ok (e, j) => if wordAt l j ofB then eread l (.arms pos e []) (j + 1) else .error (failPos l j)
theorem caseRes_lt {l : List Tok} {pos : Int} {i : Nat} {e : Ex} {j : Nat} (h : caseRes l pos i = .ok (e, j)) : i < j := by
  unfold caseRes at h
  cases hq : eread l .expr i with
  | error p => rw [hq] at h; cases h
  | ok q =>
    obtain ⟨x, k⟩ := q
    rw [hq] at h
    simp only at h
    have h1 := eread_lt rfl hq
    split at h
    · have h2 := eread_le h; omega
    · cases h
def noEc : List Value := [.int .i64 0, .int .i64 0, str [], .int .i64 0, .slice none 0 0, .slice none 0 0, .int .i64 0, str [], .int .i64 0, .int .i64 0, .slice none 0 0]
def arCells (p : Int) (c : Bytes) (sv : Value) (bc : List Value) : List Value := .int .i64 p :: str c :: sv :: bc
def caseCells (p : Int) (ks sv : Value) : List Value := [.int .i64 8, .int .i64 p, str [], .int .i64 0, ks, sv, .int .i64 0, str [], .int .i64 0, .int .i64 0, .slice none 0 0]
theorem caseE_V {g : Ghost} {pos : Int} {x0 : Ex} {c0 : List Value} {acc : List Ar} {ks sv : Value} {xa : List Value} (h1 : SlAt g 11 ks 1 c0) (h2 : ExAt g x0 c0) (h3 : SlAt g 14 sv acc.length xa) (h4 : ArsAt g acc xa) : ExAt g (caseE pos x0 acc) (caseCells pos ks sv) :=
  ExAt.mk (e := caseE pos x0 acc) h1 (exs1 h2) h3 h4 (TyAt.mk (t := noT) (slNil g 5) (tysNil g))
theorem ars_snoc {g : Ghost} {acc : List Ar} {xa : List Value} {p : Int} {c : Bytes} {vs : List Bytes} {b : Ex} {sv : Value} {bc : List Value} (h : ArsAt g acc xa) (h1 : SlAt g 1 sv vs.length (vs.map str)) (h2 : ExAt g b bc) : ArsAt g (acc ++ [.mk p c vs b]) (xa ++ arCells p c sv bc) := by
  refine ars_all.2 (AllAt.snoc ?_ (ars_all.1 h))
  unfold ArAt
  exact ⟨sv, bc, rfl, h1, h2⟩
theorem ars_one {g : Ghost} {acc : List Ar} {xa : List Value} (h : ArsAt g acc xa) : xa.length = acc.length * 14 ∧ ∀ u ∈ xa, oneC u = true := AllAt.one (fun _ _ h => h.one) (ars_all.1 h)
def BodyR (l : List Tok) (k : Nat) (x : Ex) : RS → Prop
  | .good m => eread l .expr k = .ok (x, m) ∧ k < m ∧ m ≤ l.length
  | .bad j p => eread l .expr k = .error p ∧ j ≤ l.length
theorem post6_body {l : List Tok} {k b : Nat} {lv v : Value} {g' : Ghost} {r' : Res} (h : post6 l k b lv (eread l .expr k) v g' r') : ∃ x s, ExV g' v x ∧ r' = rdB b lv s ∧ BodyR l k x s := by
  cases hq : eread l .expr k with
  | error p =>
    rw [hq] at h
    obtain ⟨⟨x, hx⟩, j, hj, rfl⟩ := h
    exact ⟨x, .bad j p, hx, rfl, hq, hj⟩
  | ok q =>
    obtain ⟨x, m⟩ := q
    rw [hq] at h
    obtain ⟨hx, rfl, h1, h2⟩ := h
    exact ⟨x, .good m, hx, rfl, hq, h1, h2⟩
theorem BodyR.ok {l : List Tok} {k : Nat} {x : Ex} {s : RS} (h : BodyR l k x s) : s.ok l := by
  cases s with
  | good m => exact h.2.2
  | bad j p => exact h.2
def RS.isBad : RS → Bool
  | .good _ => false
  | .bad _ _ => true
def RS.left (l : List Tok) : RS → Nat
  | .good j => l.length - j + 1
  | .bad _ _ => 0
theorem cases6_step {l : List Tok} (hb : TB l) (hkw : KW l) (m : Nat) (lv : Value) (b : Nat)
    (hR : ∀ g i, ToksAt g lv l → i ≤ l.length → l.length - i < m → SpecL Tryd.prog 79 [ptr b 0] g (rdB b lv (.good i)) (post6 l i b lv (eread l .expr i)))
    (g : Ghost) (i : Nat) (hs : ToksAt g lv l) (hi : i ≤ l.length) (hm : l.length - i < m) (pos : Int) : SpecL Tryd.prog 86 [ptr b 0, .int .i64 pos] g (rdB b lv (.good i)) (post6 l i b lv (caseRes l pos i)) := by
  have hb1 := hb.1
  refine spec_of_run Tryd.func86 rfl Tryd.ntmps86 rfl fun E hE => ?_
  refine r_sr ?_
  refine r_alloc rfl (fun b4 => ?_)
  refine r_nn ?_; refine r_sr ?_; refine r_ev rfl rfl ?_; refine r_ev rfl rfl ?_
  refine r_callL 1 rfl rfl rfl (hR g i hs hi hm) ?_
  rintro v g1 r' hw hle1
  obtain ⟨x0, s, hx0, rfl, hbody⟩ := post6_body hw
  have hs1 := hs.mono hle1
  obtain ⟨a1, m1, c1, a2, m2, c2, a3, m3, c3, rfl, hx0'⟩ := hx0.form
  skip
  refine r_buildSlice rfl rfl (by rfl) (by rfl) (by rfl) (by rfl) (by rfl) (fun b10 => ?_)
  refine r_publishRow (fun g2 hle2 hs10 => ?_)
  have hs2 := hs1.mono hle2
  have hx2 := hx0'.mono hle2
  refine r_build rfl rfl (by rfl) ?_
  refine r_alloc rfl (fun b5 => ?_)
  refine r_storeA 0 rfl rfl rfl rfl (by rfl) (by repeat' (first | exact rfl | assumption | refine all_cons ?_ ?_)) rfl ?_; refine r_nn ?_; refine r_sr ?_; refine r_ev rfl rfl ?_
  refine r_callL 2 rfl rfl rfl (Need5_spec g2 l hb lv hs2 b s hbody.ok ofB) ?_
  rintro v g2' r' ⟨rfl, rfl⟩ _
  have hcr : ArmsR l (caseRes l pos i) pos x0 [] (s.need l ofB) := by
    unfold caseRes
    cases s with
    | bad j p =>
      obtain ⟨h1, h2⟩ := hbody
      rw [h1]
      exact ⟨h2, rfl⟩
    | good j =>
      obtain ⟨h1, h2, h3⟩ := hbody
      rw [h1]
      simp only
      have hp : isAt l j ofB = wordAt l j ofB := isAt_word hkw (by decide) j
      cases hk : wordAt l j ofB with
      | true =>
        rw [(skip_yes (hp.trans hk)).2.1]
        exact ⟨tokAt_lt hk, rfl⟩
      | false =>
        rw [(skip_no (hp.trans hk)).2]
        exact ⟨h3, rfl⟩
  refine r_nn ?_
  have hs0 : ∀ j, s.need l ofB = .good j → i < j := by
    intro j hj
    cases s with
    | bad j' p => cases hj
    | good j' =>
      have := hbody.2.1
      cases hk : isAt l j' ofB with
      | true => rw [(skip_yes hk).2.1] at hj; cases hj; omega
      | false => rw [(skip_no hk).2] at hj; cases hj
  generalize s.need l ofB = s0 at hcr hs0
  have hcl : ∀ {e : Ex} {j : Nat}, caseRes l pos i = .ok (e, j) → i < j := fun h => caseRes_lt h
  generalize caseRes l pos i = cr at hcr hcl ⊢
  refine r_cutG (ι := RS × List Ar × Value × Ghost) (fun p => [(0, ptr b 0), (4, ptr b4 0), (5, ptr b5 0)]) (fun p => p.2.2.2)
    (fun p => [.blk b5 101 (caseCells pos (.slice (some ⟨b10, 0, none⟩) 1 1) p.2.2.1), .blk b4 101 noEc, rdB b lv p.1])
    (fun p => Ghost.le g2' p.2.2.2 ∧ (∃ xa, SlAt p.2.2.2 14 p.2.2.1 p.2.1.length xa ∧ ArsAt p.2.2.2 p.2.1 xa) ∧ EndR l cr (caseE pos x0 p.2.1) p.1) ?_ ?_
  · rintro ⟨s, acc, slv, g3⟩ ⟨k1, ⟨xa, k2, k3⟩, k4⟩
    simp only at k1 k2 k3 k4
    obtain ⟨sa, sm, sc, rfl⟩ := SlAt.form k2
    have hs3 := hs2.mono k1
    have hx3 := caseE_V (pos := pos) (hs10.mono k1) (hx2.mono k1) k2 k3
    show Run E _ [(0, ptr b 0), (4, ptr b4 0), (5, ptr b5 0)] g3 [.blk b5 101 (caseCells pos (.slice (some ⟨b10, 0, none⟩) 1 1) (.slice sa sm sc)), .blk b4 101 noEc, rdB b lv s] _
    have hok : s.ok l := by
      cases s with
      | good j => exact k4.1
      | bad j p => exact k4.1
    refine r_sr ?_; refine r_ev rfl rfl ?_
    refine r_callL 2 rfl rfl rfl (Need5_spec g3 l hb lv hs3 b s hok endB) ?_
    rintro v g4 r' ⟨rfl, rfl⟩ _
    refine r_nn ?_; refine r_sr ?_; refine r_loadB 0 rfl rfl rfl (by rfl) ?_; refine r_storeA 1 rfl rfl rfl rfl (by rfl) (by repeat' (first | exact rfl | assumption | refine all_cons ?_ ?_)) rfl ?_; refine r_nn ?_; refine r_retc ?_
    refine r_retA [_] rfl (res_blk 1 rfl rfl (by rfl)) (.cons _ (.cons _ (List.Sublist.refl _))) ⟨_, rfl, ?_⟩
    cases s with
    | bad j p =>
      obtain ⟨h1, h2⟩ := k4
      rw [h2]
      exact ⟨⟨_, _, rfl, hx3⟩, j, h1, rfl⟩
    | good j =>
      obtain ⟨h1, h2⟩ := k4
      have hp : isAt l j endB = wordAt l j endB := isAt_word hkw (by decide) j
      cases hk : wordAt l j endB with
      | true =>
        rw [hk] at h2
        simp only [if_true] at h2
        rw [(skip_yes (hp.trans hk)).2.1, h2]
        refine ⟨⟨_, rfl, hx3⟩, rfl, hcl h2, tokAt_lt hk⟩
      | false =>
        rw [hk] at h2
        simp only [Bool.false_eq_true, if_false] at h2
        rw [(skip_no (hp.trans hk)).2, h2]
        exact ⟨⟨_, _, rfl, hx3⟩, j, h1, rfl⟩
  · intro K hK
    refine r_block ?_
    refine r_nilRow 146 14 ?_
    refine r_loop (ι := RS × List Ar × Value × List Value × Ghost) (fun p => [(0, ptr b 0), (4, ptr b4 0), (5, ptr b5 0)]) (fun p => p.2.2.2.2)
      (fun p => [.row 146 14 p.2.2.1 p.2.1.length p.2.2.2.1, .blk b5 101 (caseCells pos (.slice (some ⟨b10, 0, none⟩) 1 1) p.2.2.1), .blk b4 101 noEc, rdB b lv p.1])
      (fun p => Ghost.le g2' p.2.2.2.2 ∧ (∃ a m c, p.2.2.1 = .slice a m c) ∧ p.2.1.length ≤ l.length ∧ (∀ j, p.1 = .good j → i < j ∧ p.2.1.length ≤ j) ∧ ArsAt p.2.2.2.2 p.2.1 p.2.2.2.1 ∧ ArmsR l cr pos x0 p.2.1 p.1)
      (fun p => p.1.left l) (s0, [], .slice none 0 0, [], g2')
      ⟨Ghost.le_refl _, ⟨_, _, _, rfl⟩, by simp, fun j hj => ⟨hs0 j hj, by simp⟩, arsNil _, hcr⟩ ⟨rfl, rfl, rfl, trivial⟩ rfl rfl ?_
    rintro ⟨s, acc, slv, xa, g3⟩ ⟨k1, ⟨sa, sm, sc, k2⟩, k3, k3', k4, k5⟩
    simp only at k1 k2 k3 k3' k4 k5
    subst k2
    have hok : s.ok l := by
      cases s with
      | good j => exact k5.1
      | bad j p => exact k5.1
    have hs3 := hs2.mono k1
    show Run E _ [(0, ptr b 0), (4, ptr b4 0), (5, ptr b5 0)] g3 [.row 146 14 (.slice sa sm sc) acc.length xa, .blk b5 101 (caseCells pos (.slice (some ⟨b10, 0, none⟩) 1 1) (.slice sa sm sc)), .blk b4 101 noEc, rdB b lv s] _
    refine r_block ?_; refine r_sr ?_; refine r_ev rfl rfl ?_
    refine r_callO 3 rfl rfl rfl (Pos5_spec g3 l lv hs3 b s) ?_
    refine r_ev rfl rfl ?_
    refine r_callL 3 rfl rfl rfl (Word5_spec g3 l hb lv hs3 b s hok 2) ?_
    rintro v g3' r' ⟨rfl, rfl, rfl⟩ _
    refine r_build rfl rfl (by rfl) ?_
    refine r_alloc rfl (fun b6 => ?_)
    refine r_storeA 0 rfl rfl rfl rfl (by rfl) rfl rfl ?_; refine r_nn ?_
    have hok1 : (s.word l 2).ok l := RS.word_ok hok
    -- STOPA
    refine r_cutG (ι := RS × List Bytes × Value) (fun p => [(0, ptr b 0), (4, ptr b4 0), (5, ptr b5 0), (6, ptr b6 0)]) (fun _ => g3')
      (fun p => [.row 9 1 p.2.2 p.2.1.length (p.2.1.map str), .blk b6 146 (arCells (posAt l s.idx) (s.text l 2) p.2.2 noEc), .row 146 14 (.slice sa sm sc) acc.length xa, .blk b5 101 (caseCells pos (.slice (some ⟨b10, 0, none⟩) 1 1) (.slice sa sm sc)), .blk b4 101 noEc, rdB b lv p.1])
      (fun p => (∃ a m c, p.2.2 = .slice a m c) ∧ VarsR l (s.word l 2) p.1 p.2.1 ∧ p.1.kindIs l 1 = false) ?_ ?_
    · rintro ⟨s1, vs, vv⟩ ⟨⟨va, vm, vc, q1⟩, q2, q3⟩
      simp only at q1 q2 q3
      subst q1
      have hh := arms_head hkw k5 q2 q3
      have hok2 : s1.ok l := q2.ok hok1
      have hvl := q2.len hok1
      show Run E _ [(0, ptr b 0), (4, ptr b4 0), (5, ptr b5 0), (6, ptr b6 0)] g3' [.row 9 1 (.slice va vm vc) vs.length (vs.map str), .blk b6 146 (arCells (posAt l s.idx) (s.text l 2) (.slice va vm vc) noEc), .row 146 14 (.slice sa sm sc) acc.length xa, .blk b5 101 (caseCells pos (.slice (some ⟨b10, 0, none⟩) 1 1) (.slice sa sm sc)), .blk b4 101 noEc, rdB b lv s1] _
      refine r_publishRow (fun g4 hg4 hv4 => ?_)
      have hs4 := hs3.mono hg4
      refine r_sr ?_; refine r_ev rfl rfl ?_
      refine r_callL 4 rfl rfl rfl (Need5_spec g4 l hb lv hs4 b s1 hok2 [46]) ?_
      rintro v g4' r' ⟨rfl, rfl⟩ _
      generalize s1.need l [46] = s2 at hh
      cases s2 with
      | bad j p =>
        simp only at hh
        refine r_nn ?_; refine r_seq ?_; refine r_sr ?_; refine r_ev rfl rfl ?_; refine r_ev rfl rfl ?_; refine r_fieldAddr rfl rfl ?_; refine r_loadB1 4 rfl rfl rfl rfl ?_; refine r_nn ?_; refine r_cond_true rfl ?_; refine r_sr ?_; refine r_build rfl rfl (by rfl) ?_; refine r_storeA 3 rfl rfl rfl rfl (by rfl) (by repeat' (first | exact rfl | assumption | refine all_cons ?_ ?_)) rfl ?_; refine r_nn ?_; refine r_retc ?_; refine r_then_ret ?_; refine r_in_ret ?_; refine r_then_ret ?_; refine r_in_ret ?_; refine r_then_ret ?_
        refine r_retA [_] rfl (res_blk 3 rfl rfl (by rfl)) (.cons _ (.cons _ (.cons _ (.cons _ (List.Sublist.refl _))))) ⟨_, rfl, ?_⟩
        rw [hh.2]
        exact ⟨⟨noE, noE_V _⟩, j, hh.1, rfl⟩
      | good k =>
        simp only at hh
        obtain ⟨hkl, j, rfl, hjk, hcr'⟩ := hh
        have hij := (k3' j rfl).1
        have hal := (k3' j rfl).2
        refine r_nn ?_; refine r_seq ?_; refine r_sr ?_; refine r_ev rfl rfl ?_; refine r_ev rfl rfl ?_; refine r_fieldAddr rfl rfl ?_; refine r_loadB1 4 rfl rfl rfl rfl ?_; refine r_nn ?_; refine r_cond_false rfl ?_; refine r_skip ?_; refine r_then_normal ?_; refine r_sr ?_; refine r_ev rfl rfl ?_
        refine r_callL 4 rfl rfl rfl (hR g4' k hs4 hkl (by omega)) ?_
        rintro v g5 r' hw hle5
        obtain ⟨x, s3, hx, rfl, hbody3⟩ := post6_body hw
        have hs5 := hs4.mono hle5
        have hv5 := hv4.mono hle5
        have hg35 := Ghost.le_trans hg4 hle5
        obtain ⟨b1, n1, d1, b2, n2, d2, b3, n3, d3, rfl, hx'⟩ := hx.form
        refine r_fieldAddr rfl rfl ?_; refine r_storeA 0 rfl rfl rfl rfl (by rfl) (by repeat' (first | exact rfl | assumption | refine all_cons ?_ ?_)) rfl ?_; refine r_nn ?_; refine r_sr ?_; refine r_fieldAddr rfl rfl ?_; refine r_loadB1 2 rfl rfl rfl rfl ?_; refine r_loadB 0 rfl rfl rfl (by rfl) ?_
        refine r_buildSlice rfl rfl (by rfl) (by rfl) (by rfl) (by rfl) (by rfl) (fun b41 => ?_)
        refine r_appendRow 2 0 rfl rfl rfl rfl rfl (by rfl) (by rfl) rfl (by unfold maxLen; omega) (by omega) (fun v' hv' => ?_)
        refine r_rowForm 2 rfl ?_
        rintro ⟨ya, ym, yc, rfl⟩
        have hars := ars_snoc (p := posOf l j) (c := RS.text l 2 (.good j)) (k4.mono hg35) hv5 hx'
        -- STOPB
        refine r_fieldAddr rfl rfl ?_; refine r_store1 3 rfl rfl rfl rfl rfl rfl ?_; refine r_nn ?_; refine r_sr ?_; refine r_ev rfl rfl ?_
        refine r_callL 5 rfl rfl rfl (Skip5_spec g5 l hb lv hs5 b s3 hbody3.ok [124]) ?_
        rintro v g6 r' ⟨rfl, rfl, rfl⟩ _
        cases s3 with
        | bad j' p =>
          obtain ⟨h1, h2⟩ := hbody3
          rw [h1] at hcr'
          refine r_ev rfl rfl ?_; refine r_nn ?_; refine r_cond_true rfl ?_; refine r_exit ?_; refine r_in_exit_other rfl ?_; refine r_then_exit ?_; refine r_in_exit ?_; refine r_then_normal ?_
          refine r_drop (own' := [_, _, _, _]) (.cons _ (.cons _ (List.Sublist.refl _))) ?_
          refine r_publishRow (fun g7 hg7 ha7 => ?_)
          exact hK (.bad j' p, acc ++ [.mk (posOf l j) (RS.text l 2 (.good j)) vs x], .slice ya ym yc, g7) _ ⟨Ghost.le_trans k1 (Ghost.le_trans hg35 hg7), ⟨_, by rw [List.length_append]; exact ha7, hars.mono hg7⟩, h2, hcr'⟩ ⟨rfl, rfl, rfl, trivial⟩
        | good m' =>
          obtain ⟨h1, h2, h3⟩ := hbody3
          rw [h1] at hcr'
          simp only at hcr'
          have hp : isAt l m' [124] = markAt l m' [124] := isAt_mark hkw (by decide) m'
          rw [show RS.isIs l [124] (.good m') = markAt l m' [124] from hp]
          cases hk : markAt l m' [124] with
          | true =>
            rw [hk] at hcr'
            simp only [if_true] at hcr'
            have hlt' := tokAt_lt hk
            rw [(skip_yes (hp.trans hk)).1]
            refine r_ev rfl rfl ?_; refine r_nn ?_; refine r_cond_false rfl ?_; refine r_skip ?_; refine r_in_normal ?_; refine r_then_normal ?_
            refine r_drop (own' := [_, _, _, _]) (.cons _ (.cons _ (List.Sublist.refl _))) ?_
            refine r_again (.good (m' + 1), acc ++ [.mk (posOf l j) (RS.text l 2 (.good j)) vs x], .slice ya ym yc, xa ++ arCells (posOf l j) (RS.text l 2 (.good j)) (.slice va vm vc) _, g6) ⟨Ghost.le_trans k1 hg35, ⟨_, _, _, rfl⟩, by simp; omega, fun j2 hj2 => ?_, hars, hlt', hcr'⟩ (by simp only [RS.left]; omega) ⟨rfl, rfl, rfl, trivial⟩ rfl ?_
            · cases hj2
              exact ⟨by omega, by simp; omega⟩
            · simp [arCells, repN]
              exact ⟨rfl, rfl⟩
          | false =>
            rw [hk] at hcr'
            simp only [Bool.false_eq_true, if_false] at hcr'
            rw [(skip_no (hp.trans hk)).1]
            refine r_ev rfl rfl ?_; refine r_nn ?_; refine r_cond_true rfl ?_; refine r_exit ?_; refine r_in_exit_other rfl ?_; refine r_then_exit ?_; refine r_in_exit ?_; refine r_then_normal ?_
            refine r_drop (own' := [_, _, _, _]) (.cons _ (.cons _ (List.Sublist.refl _))) ?_
            refine r_publishRow (fun g7 hg7 ha7 => ?_)
            exact hK (.good m', acc ++ [.mk (posOf l j) (RS.text l 2 (.good j)) vs x], .slice ya ym yc, g7) _ ⟨Ghost.le_trans k1 (Ghost.le_trans hg35 hg7), ⟨_, by rw [List.length_append]; exact ha7, hars.mono hg7⟩, h3, hcr'⟩ ⟨rfl, rfl, rfl, trivial⟩
    · intro K2 hK2
      refine r_block ?_
      refine r_nilRow 9 1 ?_
      refine r_loop (ι := RS × List Bytes × Value) (fun p => [(0, ptr b 0), (4, ptr b4 0), (5, ptr b5 0), (6, ptr b6 0)]) (fun _ => g3')
        (fun p => [.row 9 1 p.2.2 p.2.1.length (p.2.1.map str), .blk b6 146 (arCells (posAt l s.idx) (s.text l 2) p.2.2 noEc), .row 146 14 (.slice sa sm sc) acc.length xa, .blk b5 101 (caseCells pos (.slice (some ⟨b10, 0, none⟩) 1 1) (.slice sa sm sc)), .blk b4 101 noEc, rdB b lv p.1])
        (fun p => (∃ a m c, p.2.2 = .slice a m c) ∧ VarsR l (s.word l 2) p.1 p.2.1) (fun p => p.1.left l) (s.word l 2, [], .slice none 0 0) ⟨⟨_, _, _, rfl⟩, VarsR.start hok1⟩ ⟨rfl, rfl, rfl, rfl, trivial⟩ rfl rfl ?_
      rintro ⟨s1, vs, vv⟩ ⟨⟨va, vm, vc, q1⟩, q2⟩
      simp only at q1 q2
      subst q1
      have hok2 : s1.ok l := q2.ok hok1
      have hvl := q2.len hok1
      show Run E _ [(0, ptr b 0), (4, ptr b4 0), (5, ptr b5 0), (6, ptr b6 0)] g3' [.row 9 1 (.slice va vm vc) vs.length (vs.map str), .blk b6 146 (arCells (posAt l s.idx) (s.text l 2) (.slice va vm vc) noEc), .row 146 14 (.slice sa sm sc) acc.length xa, .blk b5 101 (caseCells pos (.slice (some ⟨b10, 0, none⟩) 1 1) (.slice sa sm sc)), .blk b4 101 noEc, rdB b lv s1] _
      refine r_seq ?_; refine r_sr ?_; refine r_ev rfl rfl ?_
      refine r_callO 5 rfl rfl rfl (Kind5_spec g3' l lv hs3 b s1 1) ?_
      cases hk : s1.kindIs l 1 with
      | false =>
        refine r_nn ?_; refine r_cond_false rfl ?_; refine r_exit ?_; refine r_then_exit ?_; refine r_then_exit ?_; refine r_in_exit ?_; refine r_then_normal ?_
        exact hK2 (s1, vs, .slice va vm vc) _ ⟨⟨_, _, _, rfl⟩, q2, hk⟩ ⟨rfl, rfl, rfl, rfl, trivial⟩
      | true =>
        have hnx := q2.next hk
        have hleft : (s1.word l 1).left l < s1.left l := by
          cases s1 with
          | bad j p => cases hk
          | good j =>
            obtain ⟨_, e, hlt⟩ := nameAt_yes (show kindAt l j 1 = true from hk)
            rw [e]
            simp only [RS.left]; omega
        refine r_nn ?_; refine r_cond_true rfl ?_; refine r_skip ?_; refine r_then_normal ?_; refine r_block ?_
        refine m_begin 6 [5, 0] mixed (by kernel_rfl) (fun hG => ?_)
        refine m_takeX 0 rfl (by kernel_rfl) rfl hG (by first | exact Ghost.le_refl _ | assumption) (by repeat' (first | exact List.nil_sublist _ | refine List.Sublist.cons_cons _ ?_ | refine List.Sublist.cons _ ?_)) ?_; refine ⟨_, (val_fieldAddr rfl), ?_⟩; refine m_takeX 1 rfl (by kernel_rfl) rfl hG (by first | exact Ghost.le_refl _ | assumption) (by repeat' (first | exact List.nil_sublist _ | refine List.Sublist.cons_cons _ ?_ | refine List.Sublist.cons _ ?_)) ?_; refine ⟨_, (val_loadB1 0 rfl rfl rfl), ?_⟩; refine m_takeX 2 rfl (by kernel_rfl) rfl hG (by first | exact Ghost.le_refl _ | assumption) (by repeat' (first | exact List.nil_sublist _ | refine List.Sublist.cons_cons _ ?_ | refine List.Sublist.cons _ ?_)) ?_; refine ⟨_, (val_ev rfl), ?_⟩
        refine m_one 3 (by kernel_rfl) rfl rfl ?_
        refine r_callL 5 rfl rfl rfl (Word5_spec g3' l hb lv hs3 b s1 hok2 1) ?_
        rintro v g4 r' ⟨rfl, rfl, rfl⟩ _
        refine r_nn ?_
        refine h_kept hG (by first | exact Ghost.le_refl _ | assumption) (by repeat' (first | exact List.nil_sublist _ | refine List.Sublist.cons_cons _ ?_ | refine List.Sublist.cons _ ?_)) ?_
        refine m_one 4 (by kernel_rfl) rfl rfl ?_
        refine r_buildSlice rfl rfl (by rfl) (by rfl) (by rfl) (by rfl) (by rfl) (fun b41 => ?_)
        refine r_nn ?_
        refine h_kept hG (by first | exact Ghost.le_refl _ | assumption) (by repeat' (first | exact List.nil_sublist _ | refine List.Sublist.cons_cons _ ?_ | refine List.Sublist.cons _ ?_)) ?_
        refine m_one 5 (by kernel_rfl) rfl rfl ?_
        refine r_appendRow 1 0 rfl rfl rfl rfl rfl (by rfl) (by rfl) rfl (by unfold maxLen; omega) (by omega) (fun v' hv' => ?_)
        refine r_rowForm 1 rfl ?_
        rintro ⟨ya, ym, yc, rfl⟩
        refine r_nn ?_
        refine h_kept hG (by first | exact Ghost.le_refl _ | assumption) (by repeat' (first | exact List.nil_sublist _ | refine List.Sublist.cons_cons _ ?_ | refine List.Sublist.cons _ ?_)) ?_
        refine m_done (by kernel_rfl) ?_
        refine r_fieldAddr rfl rfl ?_; refine r_store1 2 rfl rfl rfl rfl rfl rfl ?_; refine r_nil ?_; refine r_in_normal ?_; refine r_then_normal ?_
        refine r_drop (own' := [_, _, _, _, _, _]) (.cons _ (List.Sublist.refl _)) ?_
        refine r_again (s1.word l 1, vs ++ [s1.text l 1], .slice ya ym yc) ⟨⟨_, _, _, rfl⟩, hnx⟩ hleft ⟨rfl, rfl, rfl, rfl, trivial⟩ rfl ?_
        simp [arCells, repN]
end Go.Proofs.YtblbbjhbigpgnaaDoor
-- sum 6c0d1a3dee0621d5

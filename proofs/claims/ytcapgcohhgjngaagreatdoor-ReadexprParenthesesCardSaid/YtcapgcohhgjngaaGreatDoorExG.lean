/- The walks of the reference's reader of expressions: Read, and the joint induction. -/
import Derived.Test.YtcapgcohhgjngaaGreatDoorK9
namespace Go.Proofs.YtcapgcohhgjngaaGreatDoor
open Go Go.Eng Go.Th Go.Proofs
set_option maxRecDepth 10000
set_option maxHeartbeats 4000000
attribute [local irreducible] wpList Code.wp Run bodyPost Go.Eng.Ends Exit.then Exit.inBlock Again Wq Kq
theorem RS.isBad_word {l : List Tok} {i : Nat} {p : Int} {k : Int} : RS.word l k (.bad i p) = .bad i p := rfl
/-- What a binding reads behind its first words. -/
def AppR (l : List Tok) (cr : ER) (x : Ex) : RS → Prop
  | .good j => j ≤ l.length ∧ cr = eread l (.apps x) j
  | .bad j p => j ≤ l.length ∧ cr = .error p
def exCells (e : Ex) (s1 s2 s3 : Value) : List Value := [.int .i64 e.kind, .int .i64 e.pos, str e.name, .int .i64 e.num, s1, s2, .int .i64 e.ty.kind, str e.ty.name, .int .i64 e.ty.id, .int .i64 e.ty.home, s3]
theorem startsE_at {l : List Tok} {j : Nat} (h : j < l.length) : startsEAt l j = startsE l[j] := by unfold startsEAt; rw [toks_some h]
theorem Read6_step {l : List Tok} (hb : TB l) (hkw : KW l) (m : Nat) (lv : Value) (b : Nat)
    (hR : ∀ g i, ToksAt g lv l → i ≤ l.length → l.length - i < m → SpecL Tryz.prog 55 [ptr b 0] g (rdB b lv (.good i)) (post6 l i b lv (eread l .expr i)))
    (hA : ∀ g i, ToksAt g lv l → i ≤ l.length → l.length - i < m + 1 → SpecL Tryz.prog 104 [ptr b 0] g (rdB b lv (.good i)) (post6 l i b lv (eread l .atom i)))
    (g : Ghost) (i : Nat) (hs : ToksAt g lv l) (hi : i ≤ l.length) (hm : l.length - i < m + 1) : SpecL Tryz.prog 55 [ptr b 0] g (rdB b lv (.good i)) (post6 l i b lv (eread l .expr i)) := by
  have hb1 := hb.1
  have hr := eread_step l .expr i
  simp only [estep] at hr
  have hp : isAt l i [92] = markAt l i [92] := isAt_mark hkw (by decide) i
  have hq : isAt l i letB = wordAt l i letB := isAt_word hkw (by decide) i
  have hc : isAt l i caseB = wordAt l i caseB := isAt_word hkw (by decide) i
  refine spec_of_run Tryz.func55 rfl Tryz.ntmps55 rfl fun E hE => ?_
  refine r_sr ?_
  refine r_alloc rfl (fun b2 => ?_)
  refine r_nn ?_; refine r_sr ?_; refine r_ev rfl rfl ?_
  refine r_callO 1 rfl rfl rfl (Pos5_spec g l lv hs b (.good i)) ?_
  rw [show posAt l (RS.good i).idx = posOf l i from rfl]
  refine r_ev rfl rfl ?_; refine r_nn ?_; refine r_seq ?_; refine r_block ?_; refine r_sr ?_; refine r_ev rfl rfl ?_
  refine r_callL 1 rfl rfl rfl (Skip5_spec g l hb lv hs b (.good i) hi [92]) ?_
  rintro v g' r' ⟨rfl, rfl, rfl⟩ _
  rw [show RS.isIs l [92] (.good i) = markAt l i [92] from hp]
  cases h1 : markAt l i [92] with
  | true =>
    have hlt := tokAt_lt h1
    rw [h1] at hr
    simp only [if_true] at hr
    rw [(skip_yes (hp.trans h1)).1]
    refine r_ev rfl rfl ?_; refine r_nn ?_; refine r_cond_true rfl ?_; refine r_sr ?_; refine r_ev rfl rfl ?_
    refine r_callL 1 rfl rfl rfl (Word5_spec g' l hb lv hs b (.good (i + 1)) hlt 1) ?_
    rintro v g1 r' ⟨rfl, rfl, rfl⟩ _
    have hok := RS.word_ok (l := l) (k := 1) (s := .good (i + 1)) hlt
    refine r_ev rfl rfl ?_; refine r_nn ?_; refine r_sr ?_; refine r_ev rfl rfl ?_
    refine r_callL 1 rfl rfl rfl (Need5_spec g1 l hb lv hs b (RS.word l 1 (.good (i + 1))) hok [46]) ?_
    rintro v g1 r' ⟨rfl, rfl⟩ _
    have hkey : (∃ j p, (RS.word l 1 (.good (i + 1))).need l [46] = .bad j p ∧ j ≤ l.length ∧ eread l .expr i = .error p) ∨
        ((RS.word l 1 (.good (i + 1))).need l [46] = .good (i + 3) ∧ i + 3 ≤ l.length ∧ eread l .expr i = match eread l .expr (i + 3) with
          | .error p => .error p
          | .ok (x, k) => .ok (kidsE 4 (posOf l i) (RS.text l 1 (.good (i + 1))) [x], k)) := by
      cases hn : kindAt l (i + 1) 1 with
      | false =>
        obtain ⟨e1, e2, e3⟩ := nameAt_no hn
        rw [e2]
        rw [e1] at hr
        exact .inl ⟨_, _, rfl, hlt, hr⟩
      | true =>
        obtain ⟨e1, e2, hlt2⟩ := nameAt_yes hn
        rw [e2]
        rw [e1] at hr
        simp only at hr
        have hp2 : isAt l (i + 1 + 1) [46] = markAt l (i + 1 + 1) [46] := isAt_mark hkw (by decide) _
        cases hk : markAt l (i + 1 + 1) [46] with
        | false =>
          rw [(skip_no (hp2.trans hk)).2]
          rw [show i + 2 = i + 1 + 1 from rfl, hk] at hr
          exact .inl ⟨_, _, rfl, hlt2, hr⟩
        | true =>
          have hlt3 := tokAt_lt hk
          rw [(skip_yes (hp2.trans hk)).2.1]
          rw [show i + 2 = i + 1 + 1 from rfl, hk] at hr
          simp only [if_true] at hr
          exact .inr ⟨rfl, hlt3, hr⟩
    rcases hkey with ⟨j, p, e1, e2, e3⟩ | ⟨e1, e2, e3⟩
    · rw [e1]
      refine r_nn ?_; refine r_seq ?_; refine r_sr ?_; refine r_ev rfl rfl ?_; refine r_ev rfl rfl ?_; refine r_fieldAddr rfl rfl ?_; refine r_loadB1 1 rfl rfl rfl rfl ?_; refine r_nn ?_; refine r_cond_true rfl ?_; refine r_sr ?_; refine r_build rfl rfl (by rfl) ?_; refine r_storeA 0 rfl rfl rfl rfl (by rfl) (by repeat' (first | exact rfl | assumption | refine all_cons ?_ ?_)) rfl ?_; refine r_nn ?_; refine r_retc ?_; refine r_then_ret ?_; refine r_in_ret ?_; refine r_then_ret ?_
      refine r_retA [_] rfl (res_blk 0 rfl rfl (by rfl)) (.cons _ (List.Sublist.refl _)) ⟨_, rfl, ?_⟩
      rw [e3]
      exact ⟨⟨noE, noE_V _⟩, j, e2, rfl⟩
    · rw [e1]
      refine r_nn ?_; refine r_seq ?_; refine r_sr ?_; refine r_ev rfl rfl ?_; refine r_ev rfl rfl ?_; refine r_fieldAddr rfl rfl ?_; refine r_loadB1 1 rfl rfl rfl rfl ?_; refine r_nn ?_; refine r_cond_false rfl ?_; refine r_skip ?_; refine r_then_normal ?_; refine r_sr ?_; refine r_ev rfl rfl ?_; refine r_ev rfl rfl ?_; refine r_ev rfl rfl ?_
      refine r_callL 1 rfl rfl rfl (hR g1 (i + 3) hs e2 (by omega)) ?_
      rintro v g2 r' hw hle
      obtain ⟨x, s3, hx, rfl, hbody⟩ := post6_body hw
      obtain ⟨a1, m1, c1, a2, m2, c2, a3, m3, c3, rfl, hx'⟩ := hx.form
      refine r_buildSlice rfl rfl (by rfl) (by rfl) (by rfl) (by rfl) (by rfl) (fun b5 => ?_)
      refine r_publishRow (fun g3 hg3 hs3 => ?_)
      refine r_build rfl rfl (by rfl) ?_; refine r_storeA 0 rfl rfl rfl rfl (by rfl) (by repeat' (first | exact rfl | assumption | refine all_cons ?_ ?_)) rfl ?_; refine r_nn ?_; refine r_retc ?_; refine r_in_ret ?_; refine r_then_ret ?_
      refine r_retA [_] rfl (res_blk 0 rfl rfl (by rfl)) (.cons _ (List.Sublist.refl _)) ⟨_, rfl, ?_⟩
      have hV := kidsE_V g3 4 (posOf l i) (RS.text l 1 (.good (i + 1))) hs3 (exs1 (hx'.mono hg3))
      cases s3 with
      | bad j p =>
        obtain ⟨h1', h2'⟩ := hbody
        rw [e3, h1']
        exact ⟨⟨_, hV⟩, j, h2', rfl⟩
      | good j =>
        obtain ⟨h1', h2', h3'⟩ := hbody
        rw [e3, h1']
        exact ⟨hV, rfl, by omega, h3'⟩
  | false =>
  rw [h1] at hr
  simp only [Bool.false_eq_true, if_false] at hr
  rw [(skip_no (hp.trans h1)).1]
  refine r_ev rfl rfl ?_; refine r_nn ?_; refine r_cond_false rfl ?_; refine r_sr ?_; refine r_ev rfl rfl ?_
  refine r_callL 1 rfl rfl rfl (Skip5_spec g' l hb lv hs b (.good i) hi letB) ?_
  rintro v g' r' ⟨rfl, rfl, rfl⟩ _
  rw [show RS.isIs l letB (.good i) = wordAt l i letB from hq]
  cases h2 : wordAt l i letB with
  | true =>
    have hlt := tokAt_lt h2
    rw [h2] at hr
    simp only [if_true] at hr
    rw [(skip_yes (hq.trans h2)).1]
    refine r_ev rfl rfl ?_; refine r_nn ?_; refine r_cond_true rfl ?_
    refine r_sr ?_
    refine r_ev rfl rfl ?_; refine r_nn ?_
    refine r_cutG (ι := Int × Nat) (fun p => [(0, ptr b 0), (2, ptr b2 0), (3, .int .i64 (posOf l i)), (5, .int .i64 p.1)]) (fun _ => g')
      (fun p => [.blk b2 34 noEc, rdB b lv (.good p.2)]) (fun p => p.2 ≤ l.length ∧ i < p.2 ∧ eread l .expr i = letStep l (eread l) p.1 (posOf l i) p.2) ?_ ?_
    · rintro ⟨kd, j⟩ ⟨k1, k2, k3⟩
      simp only at k1 k2 k3
      show Run E _ [(0, ptr b 0), (2, ptr b2 0), (3, .int .i64 (posOf l i)), (5, .int .i64 kd)] g' [.blk b2 34 noEc, rdB b lv (.good j)] _
      refine r_sr ?_; refine r_ev rfl rfl ?_
      refine r_callL 1 rfl rfl rfl (Word5_spec g' l hb lv hs b (.good j) k1 1) ?_
      rintro v g1 r' ⟨rfl, rfl, rfl⟩ _
      have hok := RS.word_ok (l := l) (k := 1) (s := .good j) k1
      refine r_ev rfl rfl ?_; refine r_nn ?_; refine r_sr ?_; refine r_ev rfl rfl ?_
      refine r_callL 1 rfl rfl rfl (Need5_spec g1 l hb lv hs b (RS.word l 1 (.good j)) hok [61]) ?_
      rintro v g1 r' ⟨rfl, rfl⟩ _
      have hkey : (∃ j' p, (RS.word l 1 (.good j)).need l [61] = .bad j' p ∧ j' ≤ l.length ∧ eread l .expr i = .error p) ∨
          ((RS.word l 1 (.good j)).need l [61] = .good (j + 2) ∧ j + 2 ≤ l.length ∧ eread l .expr i = match eread l .expr (j + 2) with
            | .error p => .error p
            | .ok (a, k) => if wordAt l k inB then match eread l .expr (k + 1) with
                | .error p => .error p
                | .ok (y, m) => .ok (kidsE kd (posOf l i) (RS.text l 1 (.good j)) [a, y], m)
              else .error (failPos l k)) := by
        unfold letStep at k3
        cases hn : kindAt l j 1 with
        | false =>
          obtain ⟨e1, e2, e3⟩ := nameAt_no hn
          rw [e2]
          rw [e1] at k3
          exact .inl ⟨_, _, rfl, k1, k3⟩
        | true =>
          obtain ⟨e1, e2, hlt2⟩ := nameAt_yes hn
          rw [e2]
          rw [e1] at k3
          simp only at k3
          have hp2 : isAt l (j + 1) [61] = markAt l (j + 1) [61] := isAt_mark hkw (by decide) _
          cases hk : markAt l (j + 1) [61] with
          | false =>
            rw [(skip_no (hp2.trans hk)).2]
            rw [hk] at k3
            exact .inl ⟨_, _, rfl, hlt2, k3⟩
          | true =>
            have hlt3 := tokAt_lt hk
            rw [(skip_yes (hp2.trans hk)).2.1]
            rw [hk] at k3
            simp only [if_true] at k3
            exact .inr ⟨rfl, hlt3, k3⟩
      rcases hkey with ⟨j', p, e1, e2, e3⟩ | ⟨e1, e2, e3⟩
      · rw [e1]
        refine r_nn ?_; refine r_seq ?_; refine r_sr ?_; refine r_ev rfl rfl ?_; refine r_ev rfl rfl ?_; refine r_fieldAddr rfl rfl ?_; refine r_loadB1 1 rfl rfl rfl rfl ?_; refine r_nn ?_; refine r_cond_true rfl ?_; refine r_sr ?_; refine r_build rfl rfl (by rfl) ?_; refine r_storeA 0 rfl rfl rfl rfl (by rfl) (by repeat' (first | exact rfl | assumption | refine all_cons ?_ ?_)) rfl ?_; refine r_nn ?_; refine r_retc ?_; refine r_then_ret ?_; refine r_in_ret ?_; refine r_then_ret ?_
        refine r_retA [_] rfl (res_blk 0 rfl rfl (by rfl)) (.cons _ (List.Sublist.refl _)) ⟨_, rfl, ?_⟩
        rw [e3]
        exact ⟨⟨noE, noE_V _⟩, j', e2, rfl⟩
      · rw [e1]
        refine r_nn ?_; refine r_seq ?_; refine r_sr ?_; refine r_ev rfl rfl ?_; refine r_ev rfl rfl ?_; refine r_fieldAddr rfl rfl ?_; refine r_loadB1 1 rfl rfl rfl rfl ?_; refine r_nn ?_; refine r_cond_false rfl ?_; refine r_skip ?_; refine r_then_normal ?_; refine r_sr ?_; refine r_ev rfl rfl ?_
        refine r_callL 1 rfl rfl rfl (hR g1 (j + 2) hs e2 (by omega)) ?_
        rintro v g2 r' hw hle
        have hs2 := hs.mono hle
        obtain ⟨x, s3, hx, rfl, hbody⟩ := post6_body hw
        obtain ⟨a1, m1, c1, a2, m2, c2, a3, m3, c3, rfl, hx'⟩ := hx.form
        skip
        refine r_alloc rfl (fun b7 => ?_)
        refine r_storeA 0 rfl rfl rfl rfl (by rfl) (by repeat' (first | exact rfl | assumption | refine all_cons ?_ ?_)) rfl ?_; refine r_nn ?_; refine r_sr ?_; refine r_ev rfl rfl ?_
        refine r_callL 2 rfl rfl rfl (Need5_spec g2 l hb lv hs2 b s3 hbody.ok inB) ?_
        rintro v g3 r' ⟨rfl, rfl⟩ _
        have hkey2 : (∃ j' p, s3.need l inB = .bad j' p ∧ j' ≤ l.length ∧ eread l .expr i = .error p) ∨
            (∃ k, s3.need l inB = .good (k + 1) ∧ k + 1 ≤ l.length ∧ j < k ∧ eread l .expr i = match eread l .expr (k + 1) with
                | .error p => .error p
                | .ok (y, m) => .ok (kidsE kd (posOf l i) (RS.text l 1 (.good j)) [x, y], m)) := by
          cases s3 with
          | bad j' p =>
            obtain ⟨h1', h2'⟩ := hbody
            rw [h1'] at e3
            exact .inl ⟨_, _, rfl, h2', e3⟩
          | good k =>
            obtain ⟨h1', h2', h3'⟩ := hbody
            rw [h1'] at e3
            simp only at e3
            have hp2 : isAt l k inB = wordAt l k inB := isAt_word hkw (by decide) _
            cases hk : wordAt l k inB with
            | false =>
              rw [(skip_no (hp2.trans hk)).2]
              rw [hk] at e3
              exact .inl ⟨_, _, rfl, h3', e3⟩
            | true =>
              rw [(skip_yes (hp2.trans hk)).2.1]
              rw [hk] at e3
              simp only [if_true] at e3
              exact .inr ⟨k, rfl, tokAt_lt hk, by omega, e3⟩
        rcases hkey2 with ⟨j', p, f1, f2, f3⟩ | ⟨k, f1, f2, f2', f3⟩
        · rw [f1]
          refine r_nn ?_; refine r_seq ?_; refine r_sr ?_; refine r_ev rfl rfl ?_; refine r_ev rfl rfl ?_; refine r_fieldAddr rfl rfl ?_; refine r_loadB1 2 rfl rfl rfl rfl ?_; refine r_nn ?_; refine r_cond_true rfl ?_; refine r_sr ?_; refine r_build rfl rfl (by rfl) ?_; refine r_storeA 1 rfl rfl rfl rfl (by rfl) (by repeat' (first | exact rfl | assumption | refine all_cons ?_ ?_)) rfl ?_; refine r_nn ?_; refine r_retc ?_; refine r_then_ret ?_; refine r_in_ret ?_; refine r_then_ret ?_
          refine r_retA [_] rfl (res_blk 1 rfl rfl (by rfl)) (.cons _ (.cons _ (List.Sublist.refl _))) ⟨_, rfl, ?_⟩
          rw [f3]
          exact ⟨⟨noE, noE_V _⟩, j', f2, rfl⟩
        · rw [f1]
          refine r_nn ?_; refine r_seq ?_; refine r_sr ?_; refine r_ev rfl rfl ?_; refine r_ev rfl rfl ?_; refine r_fieldAddr rfl rfl ?_; refine r_loadB1 2 rfl rfl rfl rfl ?_; refine r_nn ?_; refine r_cond_false rfl ?_; refine r_skip ?_; refine r_then_normal ?_; refine r_seq ?_
          -- STOPL
          refine h_beginE [2, 1] mixed (fun hG => ?_)
          refine h_takeX 0 rfl (by kernel_rfl) rfl hG (by first | exact Ghost.le_refl _ | assumption) (by repeat' (first | exact List.nil_sublist _ | refine List.Sublist.cons_cons _ ?_ | refine List.Sublist.cons _ ?_)) ?_; refine ⟨_, (val_ev rfl), ?_⟩; refine h_takeX 1 rfl (by kernel_rfl) rfl hG (by first | exact Ghost.le_refl _ | assumption) (by repeat' (first | exact List.nil_sublist _ | refine List.Sublist.cons_cons _ ?_ | refine List.Sublist.cons _ ?_)) ?_; refine ⟨_, (val_ev rfl), ?_⟩; refine h_takeX 2 rfl (by kernel_rfl) rfl hG (by first | exact Ghost.le_refl _ | assumption) (by repeat' (first | exact List.nil_sublist _ | refine List.Sublist.cons_cons _ ?_ | refine List.Sublist.cons _ ?_)) ?_; refine ⟨_, (val_ev rfl), ?_⟩; refine h_takeX 3 rfl (by kernel_rfl) rfl hG (by first | exact Ghost.le_refl _ | assumption) (by repeat' (first | exact List.nil_sublist _ | refine List.Sublist.cons_cons _ ?_ | refine List.Sublist.cons _ ?_)) ?_; refine ⟨_, (val_loadB 0 rfl rfl (by rfl)), ?_⟩; refine h_takeX 4 rfl (by kernel_rfl) rfl hG (by first | exact Ghost.le_refl _ | assumption) (by repeat' (first | exact List.nil_sublist _ | refine List.Sublist.cons_cons _ ?_ | refine List.Sublist.cons _ ?_)) ?_; refine ⟨_, (val_ev rfl), ?_⟩
          refine h_one 5 (by kernel_rfl) rfl ?_
          refine r_callL 2 rfl rfl rfl (hR g3 (k + 1) hs2 f2 (by omega)) ?_
          rintro v g4 r' hw4 hle4
          obtain ⟨y, s4, hy, rfl, hbody4⟩ := post6_body hw4
          obtain ⟨b1, n1, d1, b2', n2, d2, b3, n3, d3, rfl, hy'⟩ := hy.form
          refine r_nn ?_
          refine h_kept hG (by first | exact Ghost.le_refl _ | assumption) (by repeat' (first | exact List.nil_sublist _ | refine List.Sublist.cons_cons _ ?_ | refine List.Sublist.cons _ ?_)) ?_
          refine h_one 6 (by kernel_rfl) rfl ?_
          refine r_buildSlice rfl rfl (by rfl) (by rfl) (by rfl) (by rfl) (by rfl) (fun b9 => ?_)
          refine r_publishRow (fun g5 hg5 hs5 => ?_)
          have hle35 := Ghost.le_trans hle4 hg5
          refine r_nn ?_
          refine h_kept hG (by first | exact Ghost.le_refl _ | assumption) (by repeat' (first | exact List.nil_sublist _ | refine List.Sublist.cons_cons _ ?_ | refine List.Sublist.cons _ ?_)) ?_
          refine h_takeX 7 rfl (by kernel_rfl) rfl hG (by first | exact Ghost.le_refl _ | assumption) (by repeat' (first | exact List.nil_sublist _ | refine List.Sublist.cons_cons _ ?_ | refine List.Sublist.cons _ ?_)) ?_; refine ⟨_, (val_build rfl (by rfl)), ?_⟩
          refine h_one 8 (by kernel_rfl) rfl ?_
          refine r_storeA 1 rfl rfl rfl rfl (by rfl) (by repeat' (first | exact rfl | assumption | refine all_cons ?_ ?_)) rfl ?_; refine r_nn ?_
          refine h_kept hG (by first | exact Ghost.le_refl _ | assumption) (by repeat' (first | exact List.nil_sublist _ | refine List.Sublist.cons_cons _ ?_ | refine List.Sublist.cons _ ?_)) ?_
          refine h_done (by kernel_rfl) ?_
          refine r_then_normal ?_; refine r_retc ?_; refine r_in_ret ?_; refine r_then_ret ?_
          refine r_retA [_] rfl (res_blk 1 rfl rfl (by rfl)) (.cons _ (.cons _ (List.Sublist.refl _))) ⟨_, rfl, ?_⟩
          have hV := kidsE_V g5 kd (posOf l i) (RS.text l 1 (.good j)) hs5 (exs2 (hx'.mono hle35) (hy'.mono hg5))
          cases s4 with
          | bad j' p =>
            obtain ⟨h1', h2'⟩ := hbody4
            rw [f3, h1']
            exact ⟨⟨_, hV⟩, j', h2', rfl⟩
          | good k' =>
            obtain ⟨h1', h2', h3'⟩ := hbody4
            rw [f3, h1']
            exact ⟨hV, rfl, by omega, h3'⟩
    · intro K hK
      refine r_sr ?_; refine r_ev rfl rfl ?_
      refine r_callL 1 rfl rfl rfl (Skip5_spec g' l hb lv hs b (.good (i + 1)) hlt recB) ?_
      rintro v g1 r' ⟨rfl, rfl, rfl⟩ _
      have hp2 : isAt l (i + 1) recB = wordAt l (i + 1) recB := isAt_word hkw (by decide) _
      rw [show RS.isIs l recB (.good (i + 1)) = wordAt l (i + 1) recB from hp2]
      cases hk : wordAt l (i + 1) recB with
      | false =>
        rw [hk] at hr
        simp only [Bool.false_eq_true, if_false] at hr
        rw [(skip_no (hp2.trans hk)).1]
        refine r_nn ?_; refine r_cond_false rfl ?_; refine r_skip ?_; refine r_then_normal ?_
        exact hK (6, i + 1) _ ⟨hlt, by simp, hr⟩ ⟨rfl, rfl, rfl, rfl, trivial⟩
      | true =>
        rw [hk] at hr
        simp only [if_true] at hr
        have hlt2 := tokAt_lt hk
        rw [(skip_yes (hp2.trans hk)).1]
        refine r_nn ?_; refine r_cond_true rfl ?_; refine r_region ?_; refine r_ev rfl rfl ?_; refine r_nn ?_
        exact hK (7, i + 2) _ ⟨hlt2, by simp, hr⟩ ⟨rfl, rfl, rfl, rfl, trivial⟩
  | false =>
  rw [h2] at hr
  simp only [Bool.false_eq_true, if_false] at hr
  rw [(skip_no (hq.trans h2)).1]
  refine r_ev rfl rfl ?_; refine r_nn ?_; refine r_cond_false rfl ?_; refine r_sr ?_; refine r_ev rfl rfl ?_
  refine r_callL 1 rfl rfl rfl (Skip5_spec g' l hb lv hs b (.good i) hi caseB) ?_
  rintro v g' r' ⟨rfl, rfl, rfl⟩ _
  rw [show RS.isIs l caseB (.good i) = wordAt l i caseB from hc]
  cases h3 : wordAt l i caseB with
  | true =>
    have hlt := tokAt_lt h3
    rw [h3] at hr
    simp only [if_true] at hr
    have hr' : eread l .expr i = caseRes l (posOf l i) (i + 1) := hr
    rw [(skip_yes (hc.trans h3)).1]
    refine r_ev rfl rfl ?_; refine r_nn ?_; refine r_cond_true rfl ?_; refine r_sr ?_; refine r_ev rfl rfl ?_; refine r_ev rfl rfl ?_
    refine r_callL 1 rfl rfl rfl (cases6_step hb hkw m lv b hR g' (i + 1) hs hlt (by omega) (posOf l i)) ?_
    rintro v g1 r' hw hle
    cases hq1 : caseRes l (posOf l i) (i + 1) with
    | error p =>
      rw [hq1] at hw hr'
      obtain ⟨⟨x, hx⟩, j, hj, rfl⟩ := hw
      obtain ⟨a1, m1, c1, a2, m2, c2, a3, m3, c3, rfl, hx'⟩ := hx.form
      refine r_storeA 0 rfl rfl rfl rfl (by rfl) (by repeat' (first | exact rfl | assumption | refine all_cons ?_ ?_)) rfl ?_; refine r_nn ?_; refine r_retc ?_; refine r_in_ret ?_; refine r_then_ret ?_
      refine r_retA [_] rfl (res_blk 0 rfl rfl (by rfl)) (.cons _ (List.Sublist.refl _)) ⟨_, rfl, ?_⟩
      rw [hr']
      exact ⟨⟨x, _, rfl, hx'⟩, j, hj, rfl⟩
    | ok q =>
      obtain ⟨x, j⟩ := q
      rw [hq1] at hw hr'
      obtain ⟨hx, rfl, hj1, hj2⟩ := hw
      obtain ⟨a1, m1, c1, a2, m2, c2, a3, m3, c3, rfl, hx'⟩ := hx.form
      refine r_storeA 0 rfl rfl rfl rfl (by rfl) (by repeat' (first | exact rfl | assumption | refine all_cons ?_ ?_)) rfl ?_; refine r_nn ?_; refine r_retc ?_; refine r_in_ret ?_; refine r_then_ret ?_
      refine r_retA [_] rfl (res_blk 0 rfl rfl (by rfl)) (.cons _ (List.Sublist.refl _)) ⟨_, rfl, ?_⟩
      rw [hr']
      exact ⟨⟨_, rfl, hx'⟩, rfl, by omega, hj2⟩
  | false =>
  rw [h3] at hr
  simp only [Bool.false_eq_true, if_false] at hr
  rw [(skip_no (hc.trans h3)).1]
  refine r_ev rfl rfl ?_; refine r_nn ?_; refine r_cond_false rfl ?_; refine r_skip ?_; refine r_in_normal ?_; refine r_then_normal ?_; refine r_sr ?_; refine r_ev rfl rfl ?_
  refine r_callL 1 rfl rfl rfl (hA g' i hs hi hm) ?_
  rintro v g1 r' hw hle
  have hs1 := hs.mono hle
  have hap : ∃ x s, ExV g1 v x ∧ r' = rdB b lv s ∧ AppR l (eread l .expr i) x s ∧ (∀ j, s = .good j → i < j) := by
    rw [hr]
    cases hq : eread l .atom i with
    | error p =>
      rw [hq] at hw
      obtain ⟨⟨x, hx⟩, j, hj, rfl⟩ := hw
      exact ⟨x, .bad j p, hx, rfl, ⟨hj, rfl⟩, fun j h => by cases h⟩
    | ok q =>
      obtain ⟨x, j⟩ := q
      rw [hq] at hw
      obtain ⟨hx, rfl, h1, h2⟩ := hw
      exact ⟨x, .good j, hx, rfl, ⟨h2, rfl⟩, fun j' h => by cases h; exact h1⟩
  clear hr hw
  obtain ⟨x, s, hx, rfl, hap, hij⟩ := hap
  obtain ⟨a1, m1, c1, a2, m2, c2, a3, m3, c3, rfl, hx'⟩ := hx.form
  skip
  refine r_alloc rfl (fun b8 => ?_)
  refine r_storeA 0 rfl rfl rfl rfl (by rfl) rfl rfl ?_; refine r_nn ?_
  have hcl : ∀ {e : Ex} {j : Nat}, eread l .expr i = .ok (e, j) → i < j := fun h => eread_lt rfl h
  generalize eread l .expr i = cr at hap hcl ⊢
  -- STOPA
  refine r_cutG (ι := Ex × Value × Value × Value × RS × Ghost) (fun p => [(0, ptr b 0), (2, ptr b2 0), (8, ptr b8 0)]) (fun p => p.2.2.2.2.2)
    (fun p => [.blk b8 34 (exCells p.1 p.2.1 p.2.2.1 p.2.2.2.1), .blk b2 34 noEc, rdB b lv p.2.2.2.2.1])
    (fun p => Ghost.le g1 p.2.2.2.2.2 ∧ ExAt p.2.2.2.2.2 p.1 (exCells p.1 p.2.1 p.2.2.1 p.2.2.2.1) ∧ (match p.2.2.2.2.1 with | .good j => j ≤ l.length ∧ cr = .ok (p.1, j) | .bad j q => j ≤ l.length ∧ cr = .error q)) ?_ ?_
  · rintro ⟨x1, v1, v2, v3, s1, g2⟩ ⟨k1, k2, k3⟩
    simp only at k1 k2 k3
    show Run E _ [(0, ptr b 0), (2, ptr b2 0), (8, ptr b8 0)] g2 [.blk b8 34 (exCells x1 v1 v2 v3), .blk b2 34 noEc, rdB b lv s1] _
    have hf : ∃ a1 m1 c1 a2 m2 c2 a3 m3 c3, v1 = .slice a1 m1 c1 ∧ v2 = .slice a2 m2 c2 ∧ v3 = .slice a3 m3 c3 := by
      obtain ⟨a1, m1, c1, a2, m2, c2, a3, m3, c3, xk, xa, e, _⟩ := k2.form
      simp only [exCells, List.cons.injEq, and_true, true_and] at e
      exact ⟨a1, m1, c1, a2, m2, c2, a3, m3, c3, e.1, e.2.1, e.2.2⟩
    obtain ⟨a1, m1, c1, a2, m2, c2, a3, m3, c3, rfl, rfl, rfl⟩ := hf
    refine r_sr ?_; refine r_loadB 0 rfl rfl rfl (by rfl) ?_; refine r_storeA 1 rfl rfl rfl rfl (by rfl) (by repeat' (first | exact rfl | assumption | refine all_cons ?_ ?_)) rfl ?_; refine r_nn ?_; refine r_retc ?_
    refine r_retA [_] rfl (res_blk 1 rfl rfl (by rfl)) (.cons _ (.cons _ (List.Sublist.refl _))) ⟨_, rfl, ?_⟩
    cases s1 with
    | bad j p =>
      obtain ⟨h1', h2'⟩ := k3
      rw [h2']
      exact ⟨⟨x1, _, rfl, k2⟩, j, h1', rfl⟩
    | good j =>
      obtain ⟨h1', h2'⟩ := k3
      have := hcl h2'
      rw [h2']
      exact ⟨⟨_, rfl, k2⟩, rfl, this, h1'⟩
  · intro K hK
    refine r_block ?_
    refine r_loop (ι := Ex × Value × Value × Value × RS × Ghost) (fun p => [(0, ptr b 0), (2, ptr b2 0), (8, ptr b8 0)]) (fun p => p.2.2.2.2.2)
      (fun p => [.blk b8 34 (exCells p.1 p.2.1 p.2.2.1 p.2.2.2.1), .blk b2 34 noEc, rdB b lv p.2.2.2.2.1])
      (fun p => Ghost.le g1 p.2.2.2.2.2 ∧ ExAt p.2.2.2.2.2 p.1 (exCells p.1 p.2.1 p.2.2.1 p.2.2.2.1) ∧ AppR l cr p.1 p.2.2.2.2.1 ∧ (∀ j, p.2.2.2.2.1 = .good j → i < j)) (fun p => p.2.2.2.2.1.left l)
      (x, .slice a1 m1 c1, .slice a2 m2 c2, .slice a3 m3 c3, s, g1) ⟨Ghost.le_refl _, hx', hap, hij⟩ ⟨rfl, rfl, rfl, trivial⟩ rfl rfl ?_
    rintro ⟨x1, v1, v2, v3, s1, g2⟩ ⟨k1, k2, k3, k4⟩
    simp only at k1 k2 k3 k4
    show Run E _ [(0, ptr b 0), (2, ptr b2 0), (8, ptr b8 0)] g2 [.blk b8 34 (exCells x1 v1 v2 v3), .blk b2 34 noEc, rdB b lv s1] _
    have hf : ∃ a1 m1 c1 a2 m2 c2 a3 m3 c3, v1 = .slice a1 m1 c1 ∧ v2 = .slice a2 m2 c2 ∧ v3 = .slice a3 m3 c3 := by
      obtain ⟨a1, m1, c1, a2, m2, c2, a3, m3, c3, xk, xa, e, _⟩ := k2.form
      simp only [exCells, List.cons.injEq, and_true, true_and] at e
      exact ⟨a1, m1, c1, a2, m2, c2, a3, m3, c3, e.1, e.2.1, e.2.2⟩
    obtain ⟨e1, n1, d1, e2, n2, d2, e3, n3, d3, rfl, rfl, rfl⟩ := hf
    have hs2 := hs1.mono k1
    obtain ⟨la, lc, rfl⟩ := slForm2 hs
    cases s1 with
    | bad j p =>
      obtain ⟨h1', h2'⟩ := k3
      refine r_seq ?_; refine r_seq ?_
      refine h_beginE [] mixed (fun hG => ?_)
      refine h_takeX 0 rfl (by kernel_rfl) rfl hG (by first | exact Ghost.le_refl _ | assumption) (by repeat' (first | exact List.nil_sublist _ | refine List.Sublist.cons_cons _ ?_ | refine List.Sublist.cons _ ?_)) ?_; refine ⟨_, (val_ev rfl), ?_⟩; refine h_takeX 1 rfl (by kernel_rfl) rfl hG (by first | exact Ghost.le_refl _ | assumption) (by repeat' (first | exact List.nil_sublist _ | refine List.Sublist.cons_cons _ ?_ | refine List.Sublist.cons _ ?_)) ?_; refine ⟨_, (val_ev rfl), ?_⟩; refine h_takeX 2 rfl (by kernel_rfl) rfl hG (by first | exact Ghost.le_refl _ | assumption) (by repeat' (first | exact List.nil_sublist _ | refine List.Sublist.cons_cons _ ?_ | refine List.Sublist.cons _ ?_)) ?_; refine ⟨_, (val_fieldAddr rfl), ?_⟩; refine h_takeX 3 rfl (by kernel_rfl) rfl hG (by first | exact Ghost.le_refl _ | assumption) (by repeat' (first | exact List.nil_sublist _ | refine List.Sublist.cons_cons _ ?_ | refine List.Sublist.cons _ ?_)) ?_; refine ⟨_, (val_loadB1 2 rfl rfl rfl), ?_⟩; refine h_takeX 4 rfl (by kernel_rfl) rfl hG (by first | exact Ghost.le_refl _ | assumption) (by repeat' (first | exact List.nil_sublist _ | refine List.Sublist.cons_cons _ ?_ | refine List.Sublist.cons _ ?_)) ?_; refine ⟨_, (val_ev rfl), ?_⟩; refine h_takeX 5 rfl (by kernel_rfl) rfl hG (by first | exact Ghost.le_refl _ | assumption) (by repeat' (first | exact List.nil_sublist _ | refine List.Sublist.cons_cons _ ?_ | refine List.Sublist.cons _ ?_)) ?_; refine ⟨_, (val_ev rfl), ?_⟩; refine h_pass 6 rfl rfl rfl (by kernel_rfl) rfl hG (by first | exact Ghost.le_refl _ | assumption) (by repeat' (first | exact List.nil_sublist _ | refine List.Sublist.cons_cons _ ?_ | refine List.Sublist.cons _ ?_)) ?_; refine h_pass 7 rfl rfl rfl (by kernel_rfl) rfl hG (by first | exact Ghost.le_refl _ | assumption) (by repeat' (first | exact List.nil_sublist _ | refine List.Sublist.cons_cons _ ?_ | refine List.Sublist.cons _ ?_)) ?_; refine h_pass 8 rfl rfl rfl (by kernel_rfl) rfl hG (by first | exact Ghost.le_refl _ | assumption) (by repeat' (first | exact List.nil_sublist _ | refine List.Sublist.cons_cons _ ?_ | refine List.Sublist.cons _ ?_)) ?_; refine h_pass 9 rfl rfl rfl (by kernel_rfl) rfl hG (by first | exact Ghost.le_refl _ | assumption) (by repeat' (first | exact List.nil_sublist _ | refine List.Sublist.cons_cons _ ?_ | refine List.Sublist.cons _ ?_)) ?_; refine h_pass 10 rfl rfl rfl (by kernel_rfl) rfl hG (by first | exact Ghost.le_refl _ | assumption) (by repeat' (first | exact List.nil_sublist _ | refine List.Sublist.cons_cons _ ?_ | refine List.Sublist.cons _ ?_)) ?_; refine h_pass 11 rfl rfl rfl (by kernel_rfl) rfl hG (by first | exact Ghost.le_refl _ | assumption) (by repeat' (first | exact List.nil_sublist _ | refine List.Sublist.cons_cons _ ?_ | refine List.Sublist.cons _ ?_)) ?_; refine h_pass 12 rfl rfl rfl (by kernel_rfl) rfl hG (by first | exact Ghost.le_refl _ | assumption) (by repeat' (first | exact List.nil_sublist _ | refine List.Sublist.cons_cons _ ?_ | refine List.Sublist.cons _ ?_)) ?_; refine h_pass 13 rfl rfl rfl (by kernel_rfl) rfl hG (by first | exact Ghost.le_refl _ | assumption) (by repeat' (first | exact List.nil_sublist _ | refine List.Sublist.cons_cons _ ?_ | refine List.Sublist.cons _ ?_)) ?_; refine h_pass 14 rfl rfl rfl (by kernel_rfl) rfl hG (by first | exact Ghost.le_refl _ | assumption) (by repeat' (first | exact List.nil_sublist _ | refine List.Sublist.cons_cons _ ?_ | refine List.Sublist.cons _ ?_)) ?_; refine h_pass 15 rfl rfl rfl (by kernel_rfl) rfl hG (by first | exact Ghost.le_refl _ | assumption) (by repeat' (first | exact List.nil_sublist _ | refine List.Sublist.cons_cons _ ?_ | refine List.Sublist.cons _ ?_)) ?_; refine h_takeX 16 rfl (by kernel_rfl) rfl hG (by first | exact Ghost.le_refl _ | assumption) (by repeat' (first | exact List.nil_sublist _ | refine List.Sublist.cons_cons _ ?_ | refine List.Sublist.cons _ ?_)) ?_; refine ⟨_, (val_ev rfl), ?_⟩; refine h_takeX 17 rfl (by kernel_rfl) rfl hG (by first | exact Ghost.le_refl _ | assumption) (by repeat' (first | exact List.nil_sublist _ | refine List.Sublist.cons_cons _ ?_ | refine List.Sublist.cons _ ?_)) ?_; refine ⟨_, (val_ev rfl), ?_⟩; refine h_pass 18 rfl rfl rfl (by kernel_rfl) rfl hG (by first | exact Ghost.le_refl _ | assumption) (by repeat' (first | exact List.nil_sublist _ | refine List.Sublist.cons_cons _ ?_ | refine List.Sublist.cons _ ?_)) ?_; refine h_pass 19 rfl rfl rfl (by kernel_rfl) rfl hG (by first | exact Ghost.le_refl _ | assumption) (by repeat' (first | exact List.nil_sublist _ | refine List.Sublist.cons_cons _ ?_ | refine List.Sublist.cons _ ?_)) ?_; refine h_pass 20 rfl rfl rfl (by kernel_rfl) rfl hG (by first | exact Ghost.le_refl _ | assumption) (by repeat' (first | exact List.nil_sublist _ | refine List.Sublist.cons_cons _ ?_ | refine List.Sublist.cons _ ?_)) ?_; refine h_pass 21 rfl rfl rfl (by kernel_rfl) rfl hG (by first | exact Ghost.le_refl _ | assumption) (by repeat' (first | exact List.nil_sublist _ | refine List.Sublist.cons_cons _ ?_ | refine List.Sublist.cons _ ?_)) ?_; refine h_pass 22 rfl rfl rfl (by kernel_rfl) rfl hG (by first | exact Ghost.le_refl _ | assumption) (by repeat' (first | exact List.nil_sublist _ | refine List.Sublist.cons_cons _ ?_ | refine List.Sublist.cons _ ?_)) ?_; refine h_pass 23 rfl rfl rfl (by kernel_rfl) rfl hG (by first | exact Ghost.le_refl _ | assumption) (by repeat' (first | exact List.nil_sublist _ | refine List.Sublist.cons_cons _ ?_ | refine List.Sublist.cons _ ?_)) ?_; refine h_pass 24 rfl rfl rfl (by kernel_rfl) rfl hG (by first | exact Ghost.le_refl _ | assumption) (by repeat' (first | exact List.nil_sublist _ | refine List.Sublist.cons_cons _ ?_ | refine List.Sublist.cons _ ?_)) ?_; refine h_pass 25 rfl rfl rfl (by kernel_rfl) rfl hG (by first | exact Ghost.le_refl _ | assumption) (by repeat' (first | exact List.nil_sublist _ | refine List.Sublist.cons_cons _ ?_ | refine List.Sublist.cons _ ?_)) ?_; refine h_pass 26 rfl rfl rfl (by kernel_rfl) rfl hG (by first | exact Ghost.le_refl _ | assumption) (by repeat' (first | exact List.nil_sublist _ | refine List.Sublist.cons_cons _ ?_ | refine List.Sublist.cons _ ?_)) ?_; refine h_pass 27 rfl rfl rfl (by kernel_rfl) rfl hG (by first | exact Ghost.le_refl _ | assumption) (by repeat' (first | exact List.nil_sublist _ | refine List.Sublist.cons_cons _ ?_ | refine List.Sublist.cons _ ?_)) ?_; refine h_pass 28 rfl rfl rfl (by kernel_rfl) rfl hG (by first | exact Ghost.le_refl _ | assumption) (by repeat' (first | exact List.nil_sublist _ | refine List.Sublist.cons_cons _ ?_ | refine List.Sublist.cons _ ?_)) ?_; refine h_takeX 29 rfl (by kernel_rfl) rfl hG (by first | exact Ghost.le_refl _ | assumption) (by repeat' (first | exact List.nil_sublist _ | refine List.Sublist.cons_cons _ ?_ | refine List.Sublist.cons _ ?_)) ?_; refine ⟨_, (val_ev rfl), ?_⟩
      refine h_done (by kernel_rfl) ?_
      refine r_then_normal ?_; refine r_cond_false rfl ?_; refine r_exit ?_; refine r_then_exit ?_; refine r_then_exit ?_; refine r_in_exit ?_; refine r_then_normal ?_
      exact hK (x1, .slice e1 n1 d1, .slice e2 n2 d2, .slice e3 n3 d3, .bad j p, g2) _ ⟨k1, k2, h1', h2'⟩ ⟨rfl, rfl, rfl, trivial⟩
    | good j =>
      obtain ⟨h1', h2'⟩ := k3
      have hij' := k4 j rfl
      rw [eread_step] at h2'
      simp only [estep] at h2'
      refine r_seq ?_; refine r_seq ?_
      -- STOPC
      refine h_beginE [] mixed (fun hG => ?_)
      refine h_takeX 0 rfl (by kernel_rfl) rfl hG (by first | exact Ghost.le_refl _ | assumption) (by repeat' (first | exact List.nil_sublist _ | refine List.Sublist.cons_cons _ ?_ | refine List.Sublist.cons _ ?_)) ?_; refine ⟨_, (val_ev rfl), ?_⟩; refine h_takeX 1 rfl (by kernel_rfl) rfl hG (by first | exact Ghost.le_refl _ | assumption) (by repeat' (first | exact List.nil_sublist _ | refine List.Sublist.cons_cons _ ?_ | refine List.Sublist.cons _ ?_)) ?_; refine ⟨_, (val_ev rfl), ?_⟩; refine h_takeX 2 rfl (by kernel_rfl) rfl hG (by first | exact Ghost.le_refl _ | assumption) (by repeat' (first | exact List.nil_sublist _ | refine List.Sublist.cons_cons _ ?_ | refine List.Sublist.cons _ ?_)) ?_; refine ⟨_, (val_fieldAddr rfl), ?_⟩; refine h_takeX 3 rfl (by kernel_rfl) rfl hG (by first | exact Ghost.le_refl _ | assumption) (by repeat' (first | exact List.nil_sublist _ | refine List.Sublist.cons_cons _ ?_ | refine List.Sublist.cons _ ?_)) ?_; refine ⟨_, (val_loadB1 2 rfl rfl rfl), ?_⟩; refine h_takeX 4 rfl (by kernel_rfl) rfl hG (by first | exact Ghost.le_refl _ | assumption) (by repeat' (first | exact List.nil_sublist _ | refine List.Sublist.cons_cons _ ?_ | refine List.Sublist.cons _ ?_)) ?_; refine ⟨_, (val_ev rfl), ?_⟩; refine h_takeX 5 rfl (by kernel_rfl) rfl hG (by first | exact Ghost.le_refl _ | assumption) (by repeat' (first | exact List.nil_sublist _ | refine List.Sublist.cons_cons _ ?_ | refine List.Sublist.cons _ ?_)) ?_; refine ⟨_, (val_ev rfl), ?_⟩; refine h_takeGX 6 rfl rfl (by kernel_rfl) rfl hG (by first | exact Ghost.le_refl _ | assumption) (by repeat' (first | exact List.nil_sublist _ | refine List.Sublist.cons_cons _ ?_ | refine List.Sublist.cons _ ?_)) ?_; refine ⟨_, (val_ev rfl), ?_⟩; refine h_takeGX 7 rfl rfl (by kernel_rfl) rfl hG (by first | exact Ghost.le_refl _ | assumption) (by repeat' (first | exact List.nil_sublist _ | refine List.Sublist.cons_cons _ ?_ | refine List.Sublist.cons _ ?_)) ?_; refine ⟨_, (val_ev rfl), ?_⟩; refine h_takeGX 8 rfl rfl (by kernel_rfl) rfl hG (by first | exact Ghost.le_refl _ | assumption) (by repeat' (first | exact List.nil_sublist _ | refine List.Sublist.cons_cons _ ?_ | refine List.Sublist.cons _ ?_)) ?_; refine ⟨_, (val_fieldAddr rfl), ?_⟩; refine h_takeGX 9 rfl rfl (by kernel_rfl) rfl hG (by first | exact Ghost.le_refl _ | assumption) (by repeat' (first | exact List.nil_sublist _ | refine List.Sublist.cons_cons _ ?_ | refine List.Sublist.cons _ ?_)) ?_; refine ⟨_, (val_loadB1 2 rfl rfl rfl), ?_⟩; refine h_takeGX 10 rfl rfl (by kernel_rfl) rfl hG (by first | exact Ghost.le_refl _ | assumption) (by repeat' (first | exact List.nil_sublist _ | refine List.Sublist.cons_cons _ ?_ | refine List.Sublist.cons _ ?_)) ?_; refine ⟨_, (val_ev rfl), ?_⟩; refine h_takeGX 11 rfl rfl (by kernel_rfl) rfl hG (by first | exact Ghost.le_refl _ | assumption) (by repeat' (first | exact List.nil_sublist _ | refine List.Sublist.cons_cons _ ?_ | refine List.Sublist.cons _ ?_)) ?_; refine ⟨_, (val_ev rfl), ?_⟩; refine h_takeGX 12 rfl rfl (by kernel_rfl) rfl hG (by first | exact Ghost.le_refl _ | assumption) (by repeat' (first | exact List.nil_sublist _ | refine List.Sublist.cons_cons _ ?_ | refine List.Sublist.cons _ ?_)) ?_; refine ⟨_, (val_fieldAddr rfl), ?_⟩; refine h_takeGX 13 rfl rfl (by kernel_rfl) rfl hG (by first | exact Ghost.le_refl _ | assumption) (by repeat' (first | exact List.nil_sublist _ | refine List.Sublist.cons_cons _ ?_ | refine List.Sublist.cons _ ?_)) ?_; refine ⟨_, (val_loadB1 2 rfl rfl rfl), ?_⟩; refine h_takeGX 14 rfl rfl (by kernel_rfl) rfl hG (by first | exact Ghost.le_refl _ | assumption) (by repeat' (first | exact List.nil_sublist _ | refine List.Sublist.cons_cons _ ?_ | refine List.Sublist.cons _ ?_)) ?_; refine ⟨_, (val_len_sl rfl), ?_⟩; refine h_takeGX 15 rfl rfl (by kernel_rfl) rfl hG (by first | exact Ghost.le_refl _ | assumption) (by repeat' (first | exact List.nil_sublist _ | refine List.Sublist.cons_cons _ ?_ | refine List.Sublist.cons _ ?_)) ?_; refine ⟨_, (val_ev rfl), ?_⟩; refine h_takeX 16 rfl (by kernel_rfl) rfl hG (by first | exact Ghost.le_refl _ | assumption) (by repeat' (first | exact List.nil_sublist _ | refine List.Sublist.cons_cons _ ?_ | refine List.Sublist.cons _ ?_)) ?_; refine ⟨_, (val_ev rfl), ?_⟩; refine h_takeX 17 rfl (by kernel_rfl) rfl hG (by first | exact Ghost.le_refl _ | assumption) (by repeat' (first | exact List.nil_sublist _ | refine List.Sublist.cons_cons _ ?_ | refine List.Sublist.cons _ ?_)) ?_; refine ⟨_, (val_ev rfl), ?_⟩
      refine r_dec 86 rfl (fun hlt => ?_) (fun hlt => ?_)
      · have hlt' : j < l.length := by omega
        obtain ⟨b0, off, cap, hsl, hxx⟩ := hs2.held hlt'
        cases hsl
        refine h_takeGX 18 rfl rfl (by kernel_rfl) rfl hG (by first | exact Ghost.le_refl _ | assumption) (by repeat' (first | exact List.nil_sublist _ | refine List.Sublist.cons_cons _ ?_ | refine List.Sublist.cons _ ?_)) ?_; refine ⟨_, (val_ev rfl), ?_⟩; refine h_takeGX 19 rfl rfl (by kernel_rfl) rfl hG (by first | exact Ghost.le_refl _ | assumption) (by repeat' (first | exact List.nil_sublist _ | refine List.Sublist.cons_cons _ ?_ | refine List.Sublist.cons _ ?_)) ?_; refine ⟨_, (val_ev rfl), ?_⟩; refine h_takeGX 20 rfl rfl (by kernel_rfl) rfl hG (by first | exact Ghost.le_refl _ | assumption) (by repeat' (first | exact List.nil_sublist _ | refine List.Sublist.cons_cons _ ?_ | refine List.Sublist.cons _ ?_)) ?_; refine ⟨_, (val_fieldAddr rfl), ?_⟩; refine h_takeGX 21 rfl rfl (by kernel_rfl) rfl hG (by first | exact Ghost.le_refl _ | assumption) (by repeat' (first | exact List.nil_sublist _ | refine List.Sublist.cons_cons _ ?_ | refine List.Sublist.cons _ ?_)) ?_; refine ⟨_, (val_loadB1 2 rfl rfl rfl), ?_⟩; refine h_takeGX 22 rfl rfl (by kernel_rfl) rfl hG (by first | exact Ghost.le_refl _ | assumption) (by repeat' (first | exact List.nil_sublist _ | refine List.Sublist.cons_cons _ ?_ | refine List.Sublist.cons _ ?_)) ?_; refine ⟨_, (val_ev rfl), ?_⟩; refine h_takeGX 23 rfl rfl (by kernel_rfl) rfl hG (by first | exact Ghost.le_refl _ | assumption) (by repeat' (first | exact List.nil_sublist _ | refine List.Sublist.cons_cons _ ?_ | refine List.Sublist.cons _ ?_)) ?_; refine ⟨_, (val_ev rfl), ?_⟩; refine h_takeGX 24 rfl rfl (by kernel_rfl) rfl hG (by first | exact Ghost.le_refl _ | assumption) (by repeat' (first | exact List.nil_sublist _ | refine List.Sublist.cons_cons _ ?_ | refine List.Sublist.cons _ ?_)) ?_; refine ⟨_, (val_fieldAddr rfl), ?_⟩; refine h_takeGX 25 rfl rfl (by kernel_rfl) rfl hG (by first | exact Ghost.le_refl _ | assumption) (by repeat' (first | exact List.nil_sublist _ | refine List.Sublist.cons_cons _ ?_ | refine List.Sublist.cons _ ?_)) ?_; refine ⟨_, (val_loadB1 2 rfl rfl rfl), ?_⟩
        refine h_takeGX 26 rfl rfl (by kernel_rfl) rfl hG (by first | exact Ghost.le_refl _ | assumption) (by repeat' (first | exact List.nil_sublist _ | refine List.Sublist.cons_cons _ ?_ | refine List.Sublist.cons _ ?_)) ⟨_, (val_indexAddr (j := j) rfl rfl rfl hlt'), ?_⟩
        refine h_takeGX 27 rfl rfl (by kernel_rfl) rfl hG (by first | exact Ghost.le_refl _ | assumption) (by repeat' (first | exact List.nil_sublist _ | refine List.Sublist.cons_cons _ ?_ | refine List.Sublist.cons _ ?_)) ⟨_, (val_load rfl (toks_rd hxx hlt') rfl), ?_⟩
        refine h_one 28 (by kernel_rfl) rfl ?_
        refine r_take rfl ?_
        refine r_callP rfl rfl (startsE6_spec g2 l[j]) ?_
        refine r_nn ?_
        refine h_kept hG (by first | exact Ghost.le_refl _ | assumption) (by repeat' (first | exact List.nil_sublist _ | refine List.Sublist.cons_cons _ ?_ | refine List.Sublist.cons _ ?_)) ?_
        refine h_takeX 29 rfl (by kernel_rfl) rfl hG (by first | exact Ghost.le_refl _ | assumption) (by repeat' (first | exact List.nil_sublist _ | refine List.Sublist.cons_cons _ ?_ | refine List.Sublist.cons _ ?_)) ?_; refine ⟨_, (val_ev rfl), ?_⟩
        refine h_done (by kernel_rfl) ?_
        rw [startsE_at hlt'] at h2'
        cases hst : startsE l[j] with
        | false =>
          rw [hst] at h2'
          refine r_then_normal ?_; refine r_cond_false rfl ?_; refine r_exit ?_; refine r_then_exit ?_; refine r_then_exit ?_; refine r_in_exit ?_; refine r_then_normal ?_
          exact hK (x1, .slice e1 n1 d1, .slice e2 n2 d2, .slice e3 n3 d3, .good j, g2) _ ⟨k1, k2, h1', h2'⟩ ⟨rfl, rfl, rfl, trivial⟩
        | true =>
          rw [hst] at h2'
          simp only [if_true] at h2'
          refine r_then_normal ?_; refine r_cond_true rfl ?_; refine r_skip ?_; refine r_then_normal ?_; refine r_block ?_; refine r_sr ?_; refine r_ev rfl rfl ?_
          refine r_callL 2 rfl rfl rfl (hA g2 j hs2 h1' (by omega)) ?_
          rintro v g3 r' hw3 hle3
          have hap3 : ∃ a s, ExV g3 v a ∧ r' = rdB b (.slice (some ⟨b0, off, none⟩) l.length lc) s ∧ AppR l cr (kidsE 5 x1.pos [] [x1, a]) s ∧ (∀ j', s = .good j' → j < j') := by
            rw [h2']
            cases hq : eread l .atom j with
            | error p =>
              rw [hq] at hw3
              obtain ⟨⟨a, ha⟩, j', hj, rfl⟩ := hw3
              exact ⟨a, .bad j' p, ha, rfl, ⟨hj, rfl⟩, fun j h => by cases h⟩
            | ok q =>
              obtain ⟨a, j'⟩ := q
              rw [hq] at hw3
              obtain ⟨ha, rfl, h1, h2⟩ := hw3
              exact ⟨a, .good j', ha, rfl, ⟨h2, rfl⟩, fun j'' h => by cases h; exact h1⟩
          obtain ⟨a, s3, ha, rfl, hap3, hij3⟩ := hap3
          obtain ⟨q1, o1, p1, q2, o2, p2, q3, o3, p3, rfl, ha'⟩ := ha.form
          skip
          refine r_alloc rfl (fun b9 => ?_)
          refine r_storeA 0 rfl rfl rfl rfl (by rfl) (by repeat' (first | exact rfl | assumption | refine all_cons ?_ ?_)) rfl ?_; refine r_nn ?_; refine r_region ?_; refine r_fieldAddr rfl rfl ?_; refine r_loadB1 1 rfl rfl rfl rfl ?_; refine r_loadB 1 rfl rfl rfl (by rfl) ?_; refine r_loadB 0 rfl rfl rfl (by rfl) ?_
          refine r_buildSlice rfl rfl (by rfl) (by rfl) (by rfl) (by rfl) (by rfl) (fun b10 => ?_)
          refine r_publishRow (fun g4 hg4 hs4 => ?_)
          have hle34 := Ghost.le_trans hle3 hg4
          refine r_build rfl rfl (by rfl) ?_; refine r_storeA 1 rfl rfl rfl rfl (by rfl) (by repeat' (first | exact rfl | assumption | refine all_cons ?_ ?_)) rfl ?_; refine r_nil ?_; refine r_in_normal ?_; refine r_then_normal ?_
          refine r_drop (own' := [_, _, _]) (.cons _ (List.Sublist.refl _)) ?_
          refine r_again (kidsE 5 x1.pos [] [x1, a], .slice (some ⟨b10, 0, none⟩) 2 2, .slice none 0 0, .slice none 0 0, s3, g4) ⟨Ghost.le_trans k1 hle34, ?_, hap3, fun j' h => Nat.lt_trans hij' (hij3 j' h)⟩ ?_ ⟨rfl, rfl, rfl, trivial⟩ rfl rfl
          · obtain ⟨cs, e, hh⟩ := kidsE_V g4 5 x1.pos [] hs4 (exs2 (k2.mono hle34) (ha'.mono hg4))
            simp only [Value.agg.injEq] at e
            have e' := congrArg Array.toList e
            simp only at e'
            rw [← e'] at hh
            exact hh
          · cases s3 with
            | bad j' p => simp only [RS.left]; omega
            | good j' =>
              have := hij3 j' rfl
              simp only [RS.left]; omega
      · have hst : startsEAt l j = false := by unfold startsEAt; rw [List.getElem?_eq_none (by omega)]
        rw [hst] at h2'
        simp only [Bool.false_eq_true, if_false] at h2'
        refine h_pass 18 rfl rfl rfl (by kernel_rfl) rfl hG (by first | exact Ghost.le_refl _ | assumption) (by repeat' (first | exact List.nil_sublist _ | refine List.Sublist.cons_cons _ ?_ | refine List.Sublist.cons _ ?_)) ?_; refine h_pass 19 rfl rfl rfl (by kernel_rfl) rfl hG (by first | exact Ghost.le_refl _ | assumption) (by repeat' (first | exact List.nil_sublist _ | refine List.Sublist.cons_cons _ ?_ | refine List.Sublist.cons _ ?_)) ?_; refine h_pass 20 rfl rfl rfl (by kernel_rfl) rfl hG (by first | exact Ghost.le_refl _ | assumption) (by repeat' (first | exact List.nil_sublist _ | refine List.Sublist.cons_cons _ ?_ | refine List.Sublist.cons _ ?_)) ?_; refine h_pass 21 rfl rfl rfl (by kernel_rfl) rfl hG (by first | exact Ghost.le_refl _ | assumption) (by repeat' (first | exact List.nil_sublist _ | refine List.Sublist.cons_cons _ ?_ | refine List.Sublist.cons _ ?_)) ?_; refine h_pass 22 rfl rfl rfl (by kernel_rfl) rfl hG (by first | exact Ghost.le_refl _ | assumption) (by repeat' (first | exact List.nil_sublist _ | refine List.Sublist.cons_cons _ ?_ | refine List.Sublist.cons _ ?_)) ?_; refine h_pass 23 rfl rfl rfl (by kernel_rfl) rfl hG (by first | exact Ghost.le_refl _ | assumption) (by repeat' (first | exact List.nil_sublist _ | refine List.Sublist.cons_cons _ ?_ | refine List.Sublist.cons _ ?_)) ?_; refine h_pass 24 rfl rfl rfl (by kernel_rfl) rfl hG (by first | exact Ghost.le_refl _ | assumption) (by repeat' (first | exact List.nil_sublist _ | refine List.Sublist.cons_cons _ ?_ | refine List.Sublist.cons _ ?_)) ?_; refine h_pass 25 rfl rfl rfl (by kernel_rfl) rfl hG (by first | exact Ghost.le_refl _ | assumption) (by repeat' (first | exact List.nil_sublist _ | refine List.Sublist.cons_cons _ ?_ | refine List.Sublist.cons _ ?_)) ?_; refine h_pass 26 rfl rfl rfl (by kernel_rfl) rfl hG (by first | exact Ghost.le_refl _ | assumption) (by repeat' (first | exact List.nil_sublist _ | refine List.Sublist.cons_cons _ ?_ | refine List.Sublist.cons _ ?_)) ?_; refine h_pass 27 rfl rfl rfl (by kernel_rfl) rfl hG (by first | exact Ghost.le_refl _ | assumption) (by repeat' (first | exact List.nil_sublist _ | refine List.Sublist.cons_cons _ ?_ | refine List.Sublist.cons _ ?_)) ?_; refine h_pass 28 rfl rfl rfl (by kernel_rfl) rfl hG (by first | exact Ghost.le_refl _ | assumption) (by repeat' (first | exact List.nil_sublist _ | refine List.Sublist.cons_cons _ ?_ | refine List.Sublist.cons _ ?_)) ?_; refine h_takeX 29 rfl (by kernel_rfl) rfl hG (by first | exact Ghost.le_refl _ | assumption) (by repeat' (first | exact List.nil_sublist _ | refine List.Sublist.cons_cons _ ?_ | refine List.Sublist.cons _ ?_)) ?_; refine ⟨_, (val_ev rfl), ?_⟩
        refine h_done (by kernel_rfl) ?_
        refine r_then_normal ?_; refine r_cond_false rfl ?_; refine r_exit ?_; refine r_then_exit ?_; refine r_then_exit ?_; refine r_in_exit ?_; refine r_then_normal ?_
        exact hK (x1, .slice e1 n1 d1, .slice e2 n2 d2, .slice e3 n3 d3, .good j, g2) _ ⟨k1, k2, h1', h2'⟩ ⟨rfl, rfl, rfl, trivial⟩
theorem read6_all {l : List Tok} (hb : TB l) (hkw : KW l) (lv : Value) (b : Nat) : ∀ m : Nat,
    (∀ g i, ToksAt g lv l → i ≤ l.length → l.length - i < m → SpecL Tryz.prog 55 [ptr b 0] g (rdB b lv (.good i)) (post6 l i b lv (eread l .expr i))) ∧
    (∀ g i, ToksAt g lv l → i ≤ l.length → l.length - i < m → SpecL Tryz.prog 104 [ptr b 0] g (rdB b lv (.good i)) (post6 l i b lv (eread l .atom i)))
  | 0 => ⟨fun _ _ _ _ h => by omega, fun _ _ _ _ h => by omega⟩
  | m + 1 => by
    have ih := read6_all hb hkw lv b m
    have hA := fun g i => atom6_step hb hkw m lv b ih.1 g i
    exact ⟨fun g i => Read6_step hb hkw m lv b ih.1 hA g i, hA⟩
theorem Read6_spec {l : List Tok} (hb : TB l) (hkw : KW l) (g : Ghost) (lv : Value) (b i : Nat) (hs : ToksAt g lv l) (hi : i ≤ l.length) : SpecL Tryz.prog 55 [ptr b 0] g (rdB b lv (.good i)) (post6 l i b lv (eread l .expr i)) := (read6_all hb hkw lv b _).1 g i hs hi (Nat.lt_succ_self _)
theorem Atom6_spec {l : List Tok} (hb : TB l) (hkw : KW l) (g : Ghost) (lv : Value) (b i : Nat) (hs : ToksAt g lv l) (hi : i ≤ l.length) : SpecL Tryz.prog 104 [ptr b 0] g (rdB b lv (.good i)) (post6 l i b lv (eread l .atom i)) := (read6_all hb hkw lv b _).2 g i hs hi (Nat.lt_succ_self _)
end Go.Proofs.YtcapgcohhgjngaaGreatDoor
-- sum 0cfb8fc4ea137ac4

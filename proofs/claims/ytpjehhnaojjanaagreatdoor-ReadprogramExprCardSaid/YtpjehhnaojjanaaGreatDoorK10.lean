/- The walks of the reference's reader of expressions: Read, and the joint induction. -/
import Derived.Test.YtpjehhnaojjanaaGreatDoorK9
import Derived.Test.YtpjehhnaojjanaaGreatDoorPgC
import Derived.Test.YtpjehhnaojjanaaGreatDoorK6
import Derived.Test.YtpjehhnaojjanaaGreatDoorK7
import Derived.Test.YtpjehhnaojjanaaGreatDoorK3
namespace Go.Proofs.YtpjehhnaojjanaaGreatDoor
open Go Go.Eng Go.Th Go.Proofs
set_option maxRecDepth 10000
set_option maxHeartbeats 4000000
attribute [local irreducible] wpList Code.wp Run bodyPost Go.Eng.Ends Exit.then Exit.inBlock Again Wq Kq
def AppR (l : List Tok) (cr : ER) (x : Ex) : RS → Prop
 | .good j => j ≤ l.length ∧ cr = eread l (.apps x) j
 | .bad j p => j ≤ l.length ∧ cr = .error p
def exCells (e : Ex) (s1 s2 s3 : Value) : List Value := [.int .i64 e.kind, .int .i64 e.pos, str e.name, .int .i64 e.num, s1, s2, .int .i64 e.ty.kind, str e.ty.name, .int .i64 e.ty.id, .int .i64 e.ty.home, s3]
theorem startsE_at {l : List Tok} {j : Nat} (h : j < l.length) : startsEAt l j = startsE l[j] := by unfold startsEAt; rw [toks_some h]
theorem Read6_step {l : List Tok} (hb : TB l) (hkw : KW l) (m : Nat) (lv : Value) (b : Nat)
  (hR : ∀ g i, ToksAt g lv l → i ≤ l.length → l.length - i < m → SpecL Tryz.prog 78 [ptr b 0] g (rdB b lv (.good i)) (post6 l i b lv (eread l .expr i)))
  (hA : ∀ g i, ToksAt g lv l → i ≤ l.length → l.length - i < m + 1 → SpecL Tryz.prog 120 [ptr b 0] g (rdB b lv (.good i)) (post6 l i b lv (eread l .atom i)))
  (g : Ghost) (i : Nat) (hs : ToksAt g lv l) (hi : i ≤ l.length) (hm : l.length - i < m + 1) : SpecL Tryz.prog 78 [ptr b 0] g (rdB b lv (.good i)) (post6 l i b lv (eread l .expr i)) := by
 have hb1 := hb.1
 have hr := eread_step l .expr i
 simp only [estep] at hr
 have hp : isAt l i [92] = markAt l i [92] := isAt_mark hkw (by decide) i
 have hq : isAt l i letB = wordAt l i letB := isAt_word hkw (by decide) i
 have hc : isAt l i caseB = wordAt l i caseB := isAt_word hkw (by decide) i
 refine spec_of_run Tryz.func78 rfl Tryz.ntmps78 rfl fun E hE => ?_
 refine r_sr ?_
 refine r_alloc rfl (fun b2 => ?_)
 refine r_nn <| r_sr <| r_ev rfl rfl ?_
 refine r_callO 1 rfl rfl rfl (Pos5_spec g l lv hs b (.good i)) ?_
 rw [show posAt l (RS.good i).idx = posOf l i from rfl]
 refine r_ev rfl rfl <| r_nn <| r_seq <| r_block <| r_sr <| r_ev rfl rfl ?_
 refine r_callL 1 rfl rfl rfl (Skip5_spec g l hb lv hs b (.good i) hi [92]) ?_
 rintro v g' r' ⟨rfl, rfl, rfl⟩ _
 rw [show RS.isIs l [92] (.good i) = markAt l i [92] from hp]
 cases h1 : markAt l i [92] with
 | true =>
  have hlt := tokAt_lt h1
  rw [h1] at hr
  simp only [if_true] at hr
  rw [(skip_yes (hp.trans h1)).1]
  refine r_ev rfl rfl <| r_nn <| r_cond_true rfl <| r_sr <| r_ev rfl rfl ?_
  refine r_callL 1 rfl rfl rfl (Word5_spec g' l hb lv hs b (.good (i + 1)) hlt 1) ?_
  rintro v g1 r' ⟨rfl, rfl, rfl⟩ _
  have hok := RS.word_ok (l := l) (k := 1) (s := .good (i + 1)) hlt
  refine r_ev rfl rfl <| r_nn <| r_sr <| r_ev rfl rfl ?_
  refine r_callL 1 rfl rfl rfl (Need5_spec g1 l hb lv hs b (RS.word l 1 (.good (i + 1))) hok [46]) ?_
  rintro v g1 r' ⟨rfl, rfl⟩ _
  have hkey : (∃ j p, (RS.word l 1 (.good (i + 1))).need l [46] = .bad j p ∧ j ≤ l.length ∧ eread l .expr i = .error p) ∨
    ((RS.word l 1 (.good (i + 1))).need l [46] = .good (i + 3) ∧ i + 3 ≤ l.length ∧ eread l .expr i = match eread l .expr (i + 3) with
      | .error p => .error p
      | .ok (x, k) => .ok (kidsE 4 (posOf l i) (RS.text l 1 (.good (i + 1))) [x], k)) := by
   cases hn : kindAt l (i + 1) 1 with
   | false =>
    obtain ⟨e1, e2, e3⟩ := nameAt_no hn
    rw [e2]
    rw [e1] at hr
    exact .inl ⟨_, _, rfl, hlt, hr⟩
   | true =>
    obtain ⟨e1, e2, hlt2⟩ := nameAt_yes hn
    rw [e2]
    rw [e1] at hr
    simp only at hr
    have hp2 : isAt l (i + 1 + 1) [46] = markAt l (i + 1 + 1) [46] := isAt_mark hkw (by decide) _
    cases hk : markAt l (i + 1 + 1) [46] with
    | false =>
     rw [(skip_no (hp2.trans hk)).2]
     rw [show i + 2 = i + 1 + 1 from rfl, hk] at hr
     exact .inl ⟨_, _, rfl, hlt2, hr⟩
    | true =>
     have hlt3 := tokAt_lt hk
     rw [(skip_yes (hp2.trans hk)).2.1]
     rw [show i + 2 = i + 1 + 1 from rfl, hk] at hr
     simp only [if_true] at hr
     exact .inr ⟨rfl, hlt3, hr⟩
  rcases hkey with ⟨j, p, e1, e2, e3⟩ | ⟨e1, e2, e3⟩
  ·rw [e1]
   refine r_nn <| r_seq <| r_sr <| r_ev rfl rfl <| r_ev rfl rfl <| r_fieldAddr rfl rfl <| r_loadB1 1 rfl rfl rfl rfl <| r_nn <| r_cond_true rfl <| r_sr <| r_build rfl rfl (by rfl) ?_; refine r_storeA 0 rfl rfl rfl rfl (by rfl) (by repeat' (first | exact rfl | assumption | refine all_cons ?_ ?_)) rfl ?_; refine r_nn <| r_retc <| r_then_ret <| r_in_ret <| r_then_ret ?_
   refine r_retA [_] rfl (res_blk 0 rfl rfl (by rfl)) (.cons _ (List.Sublist.refl _)) ⟨_, rfl, ?_⟩
   rw [e3]
   exact ⟨⟨noE, noE_V _⟩, j, e2, rfl⟩
  ·rw [e1]
   refine r_nn <| r_seq <| r_sr <| r_ev rfl rfl <| r_ev rfl rfl <| r_fieldAddr rfl rfl <| r_loadB1 1 rfl rfl rfl rfl <| r_nn <| r_cond_false rfl <| r_skip <| r_then_normal <| r_sr <| r_ev rfl rfl <| r_ev rfl rfl ?_; refine r_ev rfl rfl ?_
   refine r_callL 1 rfl rfl rfl (hR g1 (i + 3) hs e2 (by omega)) ?_
   rintro v g2 r' hw hle
   obtain ⟨x, s3, hx, rfl, hbody⟩ := post6_body hw
   obtain ⟨a1, m1, c1, a2, m2, c2, a3, m3, c3, rfl, hx'⟩ := hx.form
   refine r_buildSlice rfl rfl (by rfl) (by rfl) (by rfl) (by rfl) (by rfl) (fun b5 => ?_)
   refine r_publishRow (fun g3 hg3 hs3 => ?_)
   refine r_build rfl rfl (by rfl) ?_; refine r_storeA 0 rfl rfl rfl rfl (by rfl) (by repeat' (first | exact rfl | assumption | refine all_cons ?_ ?_)) rfl ?_; refine r_nn <| r_retc <| r_in_ret <| r_then_ret ?_
   refine r_retA [_] rfl (res_blk 0 rfl rfl (by rfl)) (.cons _ (List.Sublist.refl _)) ⟨_, rfl, ?_⟩
   have hV := kidsE_V g3 4 (posOf l i) (RS.text l 1 (.good (i + 1))) hs3 (exs1 (hx'.mono hg3))
   cases s3 with
   | bad j p =>
    obtain ⟨h1', h2'⟩ := hbody
    rw [e3, h1']
    exact ⟨⟨_, hV⟩, j, h2', rfl⟩
   | good j =>
    obtain ⟨h1', h2', h3'⟩ := hbody
    rw [e3, h1']
    exact ⟨hV, rfl, by omega, h3'⟩
 | false =>
 rw [h1] at hr
 simp only [Bool.false_eq_true, if_false] at hr
 rw [(skip_no (hp.trans h1)).1]
 refine r_ev rfl rfl <| r_nn <| r_cond_false rfl <| r_sr <| r_ev rfl rfl ?_
 refine r_callL 1 rfl rfl rfl (Skip5_spec g' l hb lv hs b (.good i) hi letB) ?_
 rintro v g' r' ⟨rfl, rfl, rfl⟩ _
 rw [show RS.isIs l letB (.good i) = wordAt l i letB from hq]
 cases h2 : wordAt l i letB with
 | true =>
  have hlt := tokAt_lt h2
  rw [h2] at hr
  simp only [if_true] at hr
  rw [(skip_yes (hq.trans h2)).1]
  refine r_ev rfl rfl <| r_nn <| r_cond_true rfl ?_
  refine r_sr ?_
  refine r_ev rfl rfl <| r_nn ?_
  refine r_cutG (ι := Int × Nat) (fun p => [(0, ptr b 0), (2, ptr b2 0), (3, .int .i64 (posOf l i)), (5, .int .i64 p.1)]) (fun _ => g')
   (fun p => [.blk b2 51 noEc, rdB b lv (.good p.2)]) (fun p => p.2 ≤ l.length ∧ i < p.2 ∧ eread l .expr i = letStep l (eread l) p.1 (posOf l i) p.2) ?_ ?_
  ·rintro ⟨kd, j⟩ ⟨k1, k2, k3⟩
   simp only at k1 k2 k3
   show Run E _ [(0, ptr b 0), (2, ptr b2 0), (3, .int .i64 (posOf l i)), (5, .int .i64 kd)] g' [.blk b2 51 noEc, rdB b lv (.good j)] _
   refine r_sr <| r_ev rfl rfl ?_
   refine r_callL 1 rfl rfl rfl (Word5_spec g' l hb lv hs b (.good j) k1 1) ?_
   rintro v g1 r' ⟨rfl, rfl, rfl⟩ _
   have hok := RS.word_ok (l := l) (k := 1) (s := .good j) k1
   refine r_ev rfl rfl <| r_nn <| r_sr <| r_ev rfl rfl ?_
   refine r_callL 1 rfl rfl rfl (Need5_spec g1 l hb lv hs b (RS.word l 1 (.good j)) hok [61]) ?_
   rintro v g1 r' ⟨rfl, rfl⟩ _
   have hkey : (∃ j' p, (RS.word l 1 (.good j)).need l [61] = .bad j' p ∧ j' ≤ l.length ∧ eread l .expr i = .error p) ∨
     ((RS.word l 1 (.good j)).need l [61] = .good (j + 2) ∧ j + 2 ≤ l.length ∧ eread l .expr i = match eread l .expr (j + 2) with
       | .error p => .error p
       | .ok (a, k) => if wordAt l k inB then match eread l .expr (k + 1) with
         | .error p => .error p
         | .ok (y, m) => .ok (kidsE kd (posOf l i) (RS.text l 1 (.good j)) [a, y], m)
        else .error (failPos l k)) := by
    unfold letStep at k3
    cases hn : kindAt l j 1 with
    | false =>
     obtain ⟨e1, e2, e3⟩ := nameAt_no hn
     rw [e2]
     rw [e1] at k3
     exact .inl ⟨_, _, rfl, k1, k3⟩
    | true =>
     obtain ⟨e1, e2, hlt2⟩ := nameAt_yes hn
     rw [e2]
     rw [e1] at k3
     simp only at k3
     have hp2 : isAt l (j + 1) [61] = markAt l (j + 1) [61] := isAt_mark hkw (by decide) _
     cases hk : markAt l (j + 1) [61] with
     | false =>
      rw [(skip_no (hp2.trans hk)).2]
      rw [hk] at k3
      exact .inl ⟨_, _, rfl, hlt2, k3⟩
     | true =>
      have hlt3 := tokAt_lt hk
      rw [(skip_yes (hp2.trans hk)).2.1]
      rw [hk] at k3
      simp only [if_true] at k3
      exact .inr ⟨rfl, hlt3, k3⟩
   rcases hkey with ⟨j', p, e1, e2, e3⟩ | ⟨e1, e2, e3⟩
   ·rw [e1]
    refine r_nn <| r_seq <| r_sr <| r_ev rfl rfl <| r_ev rfl rfl <| r_fieldAddr rfl rfl <| r_loadB1 1 rfl rfl rfl rfl <| r_nn <| r_cond_true rfl <| r_sr <| r_build rfl rfl (by rfl) ?_; refine r_storeA 0 rfl rfl rfl rfl (by rfl) (by repeat' (first | exact rfl | assumption | refine all_cons ?_ ?_)) rfl ?_; refine r_nn <| r_retc <| r_then_ret <| r_in_ret <| r_then_ret ?_
    refine r_retA [_] rfl (res_blk 0 rfl rfl (by rfl)) (.cons _ (List.Sublist.refl _)) ⟨_, rfl, ?_⟩
    rw [e3]
    exact ⟨⟨noE, noE_V _⟩, j', e2, rfl⟩
   ·rw [e1]
    refine r_nn <| r_seq <| r_sr <| r_ev rfl rfl <| r_ev rfl rfl <| r_fieldAddr rfl rfl <| r_loadB1 1 rfl rfl rfl rfl <| r_nn <| r_cond_false rfl <| r_skip <| r_then_normal <| r_sr <| r_ev rfl rfl ?_
    refine r_callL 1 rfl rfl rfl (hR g1 (j + 2) hs e2 (by omega)) ?_
    rintro v g2 r' hw hle
    have hs2 := hs.mono hle
    obtain ⟨x, s3, hx, rfl, hbody⟩ := post6_body hw
    obtain ⟨a1, m1, c1, a2, m2, c2, a3, m3, c3, rfl, hx'⟩ := hx.form
    skip
    refine r_alloc rfl (fun b7 => ?_)
    refine r_storeA 0 rfl rfl rfl rfl (by rfl) (by repeat' (first | exact rfl | assumption | refine all_cons ?_ ?_)) rfl ?_; refine r_nn <| r_sr <| r_ev rfl rfl ?_
    refine r_callL 2 rfl rfl rfl (Need5_spec g2 l hb lv hs2 b s3 hbody.ok inB) ?_
    rintro v g3 r' ⟨rfl, rfl⟩ _
    have hkey2 : (∃ j' p, s3.need l inB = .bad j' p ∧ j' ≤ l.length ∧ eread l .expr i = .error p) ∨
      (∃ k, s3.need l inB = .good (k + 1) ∧ k + 1 ≤ l.length ∧ j < k ∧ eread l .expr i = match eread l .expr (k + 1) with
        | .error p => .error p
        | .ok (y, m) => .ok (kidsE kd (posOf l i) (RS.text l 1 (.good j)) [x, y], m)) := by
     cases s3 with
     | bad j' p =>
      obtain ⟨h1', h2'⟩ := hbody
      rw [h1'] at e3
      exact .inl ⟨_, _, rfl, h2', e3⟩
     | good k =>
      obtain ⟨h1', h2', h3'⟩ := hbody
      rw [h1'] at e3
      simp only at e3
      have hp2 : isAt l k inB = wordAt l k inB := isAt_word hkw (by decide) _
      cases hk : wordAt l k inB with
      | false =>
       rw [(skip_no (hp2.trans hk)).2]
       rw [hk] at e3
       exact .inl ⟨_, _, rfl, h3', e3⟩
      | true =>
       rw [(skip_yes (hp2.trans hk)).2.1]
       rw [hk] at e3
       simp only [if_true] at e3
       exact .inr ⟨k, rfl, tokAt_lt hk, by omega, e3⟩
    rcases hkey2 with ⟨j', p, f1, f2, f3⟩ | ⟨k, f1, f2, f2', f3⟩
    ·rw [f1]
     refine r_nn <| r_seq <| r_sr <| r_ev rfl rfl <| r_ev rfl rfl <| r_fieldAddr rfl rfl <| r_loadB1 2 rfl rfl rfl rfl <| r_nn <| r_cond_true rfl <| r_sr <| r_build rfl rfl (by rfl) ?_; refine r_storeA 1 rfl rfl rfl rfl (by rfl) (by repeat' (first | exact rfl | assumption | refine all_cons ?_ ?_)) rfl ?_; refine r_nn <| r_retc <| r_then_ret <| r_in_ret <| r_then_ret ?_
     refine r_retA [_] rfl (res_blk 1 rfl rfl (by rfl)) (.cons _ (.cons _ (List.Sublist.refl _))) ⟨_, rfl, ?_⟩
     rw [f3]
     exact ⟨⟨noE, noE_V _⟩, j', f2, rfl⟩
    ·rw [f1]
     refine r_nn <| r_seq <| r_sr <| r_ev rfl rfl <| r_ev rfl rfl <| r_fieldAddr rfl rfl <| r_loadB1 2 rfl rfl rfl rfl <| r_nn <| r_cond_false rfl <| r_skip <| r_then_normal <| r_seq ?_
     -- STOPL
     refine h_beginE [2, 1] mixed (fun hG => ?_)
     refine h_takeXA 0 rfl (by kernel_rfl) rfl hG ?_; refine ⟨_, (val_ev rfl), ?_⟩; refine h_takeXA 1 rfl (by kernel_rfl) rfl hG ?_; refine ⟨_, (val_ev rfl), ?_⟩; refine h_takeXA 2 rfl (by kernel_rfl) rfl hG ?_; refine ⟨_, (val_ev rfl), ?_⟩; refine h_takeXA 3 rfl (by kernel_rfl) rfl hG ?_; refine ⟨_, (val_loadB 0 rfl rfl (by rfl)), ?_⟩; refine h_takeXA 4 rfl (by kernel_rfl) rfl hG ?_; refine ⟨_, (val_ev rfl), ?_⟩
     refine h_one 5 (by kernel_rfl) rfl ?_
     refine r_callL 2 rfl rfl rfl (hR g3 (k + 1) hs2 f2 (by omega)) ?_
     rintro v g4 r' hw4 hle4
     obtain ⟨y, s4, hy, rfl, hbody4⟩ := post6_body hw4
     obtain ⟨b1, n1, d1, b2', n2, d2, b3, n3, d3, rfl, hy'⟩ := hy.form
     refine r_nn ?_
     refine h_keptA hG ?_
     refine h_one 6 (by kernel_rfl) rfl ?_
     refine r_buildSlice rfl rfl (by rfl) (by rfl) (by rfl) (by rfl) (by rfl) (fun b9 => ?_)
     refine r_publishRow (fun g5 hg5 hs5 => ?_)
     have hle35 := Ghost.le_trans hle4 hg5
     refine r_nn ?_
     refine h_keptA hG ?_
     refine h_takeXA 7 rfl (by kernel_rfl) rfl hG ?_; refine ⟨_, (val_build rfl (by rfl)), ?_⟩
     refine h_one 8 (by kernel_rfl) rfl ?_
     refine r_storeA 1 rfl rfl rfl rfl (by rfl) (by repeat' (first | exact rfl | assumption | refine all_cons ?_ ?_)) rfl ?_; refine r_nn ?_
     refine h_keptA hG ?_
     refine h_done (by kernel_rfl) ?_
     refine r_then_normal <| r_retc <| r_in_ret <| r_then_ret ?_
     refine r_retA [_] rfl (res_blk 1 rfl rfl (by rfl)) (.cons _ (.cons _ (List.Sublist.refl _))) ⟨_, rfl, ?_⟩
     have hV := kidsE_V g5 kd (posOf l i) (RS.text l 1 (.good j)) hs5 (exs2 (hx'.mono hle35) (hy'.mono hg5))
     cases s4 with
     | bad j' p =>
      obtain ⟨h1', h2'⟩ := hbody4
      rw [f3, h1']
      exact ⟨⟨_, hV⟩, j', h2', rfl⟩
     | good k' =>
      obtain ⟨h1', h2', h3'⟩ := hbody4
      rw [f3, h1']
      exact ⟨hV, rfl, by omega, h3'⟩
  ·intro K hK
   refine r_sr <| r_ev rfl rfl ?_
   refine r_callL 1 rfl rfl rfl (Skip5_spec g' l hb lv hs b (.good (i + 1)) hlt recB) ?_
   rintro v g1 r' ⟨rfl, rfl, rfl⟩ _
   have hp2 : isAt l (i + 1) recB = wordAt l (i + 1) recB := isAt_word hkw (by decide) _
   rw [show RS.isIs l recB (.good (i + 1)) = wordAt l (i + 1) recB from hp2]
   cases hk : wordAt l (i + 1) recB with
   | false =>
    rw [hk] at hr
    simp only [Bool.false_eq_true, if_false] at hr
    rw [(skip_no (hp2.trans hk)).1]
    refine r_nn <| r_cond_false rfl <| r_skip <| r_then_normal ?_
    exact hK (6, i + 1) _ ⟨hlt, by simp, hr⟩ ⟨rfl, rfl, rfl, rfl, trivial⟩
   | true =>
    rw [hk] at hr
    simp only [if_true] at hr
    have hlt2 := tokAt_lt hk
    rw [(skip_yes (hp2.trans hk)).1]
    refine r_nn <| r_cond_true rfl <| r_region <| r_ev rfl rfl <| r_nn ?_
    exact hK (7, i + 2) _ ⟨hlt2, by simp, hr⟩ ⟨rfl, rfl, rfl, rfl, trivial⟩
 | false =>
 rw [h2] at hr
 simp only [Bool.false_eq_true, if_false] at hr
 rw [(skip_no (hq.trans h2)).1]
 refine r_ev rfl rfl <| r_nn <| r_cond_false rfl <| r_sr <| r_ev rfl rfl ?_
 refine r_callL 1 rfl rfl rfl (Skip5_spec g' l hb lv hs b (.good i) hi caseB) ?_
 rintro v g' r' ⟨rfl, rfl, rfl⟩ _
 rw [show RS.isIs l caseB (.good i) = wordAt l i caseB from hc]
 cases h3 : wordAt l i caseB with
 | true =>
  have hlt := tokAt_lt h3
  rw [h3] at hr
  simp only [if_true] at hr
  have hr' : eread l .expr i = caseRes l (posOf l i) (i + 1) := hr
  rw [(skip_yes (hc.trans h3)).1]
  refine r_ev rfl rfl <| r_nn <| r_cond_true rfl <| r_sr <| r_ev rfl rfl <| r_ev rfl rfl ?_
  refine r_callL 1 rfl rfl rfl (cases6_step hb hkw m lv b hR g' (i + 1) hs hlt (by omega) (posOf l i)) ?_
  rintro v g1 r' hw hle
  cases hq1 : caseRes l (posOf l i) (i + 1) with
  | error p =>
   rw [hq1] at hw hr'
   obtain ⟨⟨x, hx⟩, j, hj, rfl⟩ := hw
   obtain ⟨a1, m1, c1, a2, m2, c2, a3, m3, c3, rfl, hx'⟩ := hx.form
   refine r_storeA 0 rfl rfl rfl rfl (by rfl) (by repeat' (first | exact rfl | assumption | refine all_cons ?_ ?_)) rfl ?_; refine r_nn <| r_retc <| r_in_ret <| r_then_ret ?_
   refine r_retA [_] rfl (res_blk 0 rfl rfl (by rfl)) (.cons _ (List.Sublist.refl _)) ⟨_, rfl, ?_⟩
   rw [hr']
   exact ⟨⟨x, _, rfl, hx'⟩, j, hj, rfl⟩
  | ok q =>
   obtain ⟨x, j⟩ := q
   rw [hq1] at hw hr'
   obtain ⟨hx, rfl, hj1, hj2⟩ := hw
   obtain ⟨a1, m1, c1, a2, m2, c2, a3, m3, c3, rfl, hx'⟩ := hx.form
   refine r_storeA 0 rfl rfl rfl rfl (by rfl) (by repeat' (first | exact rfl | assumption | refine all_cons ?_ ?_)) rfl ?_; refine r_nn <| r_retc <| r_in_ret <| r_then_ret ?_
   refine r_retA [_] rfl (res_blk 0 rfl rfl (by rfl)) (.cons _ (List.Sublist.refl _)) ⟨_, rfl, ?_⟩
   rw [hr']
   exact ⟨⟨_, rfl, hx'⟩, rfl, by omega, hj2⟩
 | false =>
 rw [h3] at hr
 simp only [Bool.false_eq_true, if_false] at hr
 rw [(skip_no (hc.trans h3)).1]
 refine r_ev rfl rfl <| r_nn <| r_cond_false rfl <| r_skip <| r_in_normal <| r_then_normal <| r_sr <| r_ev rfl rfl ?_
 refine r_callL 1 rfl rfl rfl (hA g' i hs hi hm) ?_
 rintro v g1 r' hw hle
 have hs1 := hs.mono hle
 have hap : ∃ x s, ExV g1 v x ∧ r' = rdB b lv s ∧ AppR l (eread l .expr i) x s ∧ (∀ j, s = .good j → i < j) := by
  rw [hr]
  cases hq : eread l .atom i with
  | error p =>
   rw [hq] at hw
   obtain ⟨⟨x, hx⟩, j, hj, rfl⟩ := hw
   exact ⟨x, .bad j p, hx, rfl, ⟨hj, rfl⟩, fun j h => by cases h⟩
  | ok q =>
   obtain ⟨x, j⟩ := q
   rw [hq] at hw
   obtain ⟨hx, rfl, h1, h2⟩ := hw
   exact ⟨x, .good j, hx, rfl, ⟨h2, rfl⟩, fun j' h => by cases h; exact h1⟩
 clear hr hw
 obtain ⟨x, s, hx, rfl, hap, hij⟩ := hap
 obtain ⟨a1, m1, c1, a2, m2, c2, a3, m3, c3, rfl, hx'⟩ := hx.form
 skip
 refine r_alloc rfl (fun b8 => ?_)
 refine r_storeA 0 rfl rfl rfl rfl (by rfl) rfl rfl ?_; refine r_nn ?_
 have hcl : ∀ {e : Ex} {j : Nat}, eread l .expr i = .ok (e, j) → i < j := fun h => eread_lt rfl h
 generalize eread l .expr i = cr at hap hcl ⊢
 -- STOPA
 refine r_cutG (ι := Ex × Value × Value × Value × RS × Ghost) (fun p => [(0, ptr b 0), (2, ptr b2 0), (8, ptr b8 0)]) (fun p => p.2.2.2.2.2)
  (fun p => [.blk b8 51 (exCells p.1 p.2.1 p.2.2.1 p.2.2.2.1), .blk b2 51 noEc, rdB b lv p.2.2.2.2.1])
  (fun p => Ghost.le g1 p.2.2.2.2.2 ∧ ExAt p.2.2.2.2.2 p.1 (exCells p.1 p.2.1 p.2.2.1 p.2.2.2.1) ∧ (match p.2.2.2.2.1 with | .good j => j ≤ l.length ∧ cr = .ok (p.1, j) | .bad j q => j ≤ l.length ∧ cr = .error q)) ?_ ?_
 ·rintro ⟨x1, v1, v2, v3, s1, g2⟩ ⟨k1, k2, k3⟩
  simp only at k1 k2 k3
  show Run E _ [(0, ptr b 0), (2, ptr b2 0), (8, ptr b8 0)] g2 [.blk b8 51 (exCells x1 v1 v2 v3), .blk b2 51 noEc, rdB b lv s1] _
  have hf : ∃ a1 m1 c1 a2 m2 c2 a3 m3 c3, v1 = .slice a1 m1 c1 ∧ v2 = .slice a2 m2 c2 ∧ v3 = .slice a3 m3 c3 := by
   obtain ⟨a1, m1, c1, a2, m2, c2, a3, m3, c3, xk, xa, e, _⟩ := k2.form
   simp only [exCells, List.cons.injEq, and_true, true_and] at e
   exact ⟨a1, m1, c1, a2, m2, c2, a3, m3, c3, e.1, e.2.1, e.2.2⟩
  obtain ⟨a1, m1, c1, a2, m2, c2, a3, m3, c3, rfl, rfl, rfl⟩ := hf
  refine r_sr <| r_loadB 0 rfl rfl rfl (by rfl) ?_; refine r_storeA 1 rfl rfl rfl rfl (by rfl) (by repeat' (first | exact rfl | assumption | refine all_cons ?_ ?_)) rfl ?_; refine r_nn <| r_retc ?_
  refine r_retA [_] rfl (res_blk 1 rfl rfl (by rfl)) (.cons _ (.cons _ (List.Sublist.refl _))) ⟨_, rfl, ?_⟩
  cases s1 with
  | bad j p =>
   obtain ⟨h1', h2'⟩ := k3
   rw [h2']
   exact ⟨⟨x1, _, rfl, k2⟩, j, h1', rfl⟩
  | good j =>
   obtain ⟨h1', h2'⟩ := k3
   have := hcl h2'
   rw [h2']
   exact ⟨⟨_, rfl, k2⟩, rfl, this, h1'⟩
 ·intro K hK
  refine r_block ?_
  refine r_loop (ι := Ex × Value × Value × Value × RS × Ghost) (fun p => [(0, ptr b 0), (2, ptr b2 0), (8, ptr b8 0)]) (fun p => p.2.2.2.2.2)
   (fun p => [.blk b8 51 (exCells p.1 p.2.1 p.2.2.1 p.2.2.2.1), .blk b2 51 noEc, rdB b lv p.2.2.2.2.1])
   (fun p => Ghost.le g1 p.2.2.2.2.2 ∧ ExAt p.2.2.2.2.2 p.1 (exCells p.1 p.2.1 p.2.2.1 p.2.2.2.1) ∧ AppR l cr p.1 p.2.2.2.2.1 ∧ (∀ j, p.2.2.2.2.1 = .good j → i < j)) (fun p => p.2.2.2.2.1.left l)
   (x, .slice a1 m1 c1, .slice a2 m2 c2, .slice a3 m3 c3, s, g1) ⟨Ghost.le_refl _, hx', hap, hij⟩ ⟨rfl, rfl, rfl, trivial⟩ rfl rfl ?_
  rintro ⟨x1, v1, v2, v3, s1, g2⟩ ⟨k1, k2, k3, k4⟩
  simp only at k1 k2 k3 k4
  show Run E _ [(0, ptr b 0), (2, ptr b2 0), (8, ptr b8 0)] g2 [.blk b8 51 (exCells x1 v1 v2 v3), .blk b2 51 noEc, rdB b lv s1] _
  have hf : ∃ a1 m1 c1 a2 m2 c2 a3 m3 c3, v1 = .slice a1 m1 c1 ∧ v2 = .slice a2 m2 c2 ∧ v3 = .slice a3 m3 c3 := by
   obtain ⟨a1, m1, c1, a2, m2, c2, a3, m3, c3, xk, xa, e, _⟩ := k2.form
   simp only [exCells, List.cons.injEq, and_true, true_and] at e
   exact ⟨a1, m1, c1, a2, m2, c2, a3, m3, c3, e.1, e.2.1, e.2.2⟩
  obtain ⟨e1, n1, d1, e2, n2, d2, e3, n3, d3, rfl, rfl, rfl⟩ := hf
  have hs2 := hs1.mono k1
  obtain ⟨la, lc, rfl⟩ := slForm2 hs
  cases s1 with
  | bad j p =>
   obtain ⟨h1', h2'⟩ := k3
   refine r_seq <| r_seq ?_
   refine h_beginE [] mixed (fun hG => ?_)
   refine h_takeXA 0 rfl (by kernel_rfl) rfl hG ?_; refine ⟨_, (val_ev rfl), ?_⟩; refine h_takeXA 1 rfl (by kernel_rfl) rfl hG ?_; refine ⟨_, (val_ev rfl), ?_⟩; refine h_takeXA 2 rfl (by kernel_rfl) rfl hG ?_; refine ⟨_, (val_fieldAddr rfl), ?_⟩; refine h_takeXA 3 rfl (by kernel_rfl) rfl hG ?_; refine ⟨_, (val_loadB1 2 rfl rfl rfl), ?_⟩; refine h_takeXA 4 rfl (by kernel_rfl) rfl hG ?_; refine ⟨_, (val_ev rfl), ?_⟩; refine h_takeXA 5 rfl (by kernel_rfl) rfl hG ?_; refine ⟨_, (val_ev rfl), ?_⟩; refine h_passA 6 rfl rfl rfl (by kernel_rfl) rfl hG ?_; refine h_passA 7 rfl rfl rfl (by kernel_rfl) rfl hG ?_; refine h_passA 8 rfl rfl rfl (by kernel_rfl) rfl hG ?_; refine h_passA 9 rfl rfl rfl (by kernel_rfl) rfl hG ?_; refine h_passA 10 rfl rfl rfl (by kernel_rfl) rfl hG ?_; refine h_passA 11 rfl rfl rfl (by kernel_rfl) rfl hG ?_; refine h_passA 12 rfl rfl rfl (by kernel_rfl) rfl hG ?_; refine h_passA 13 rfl rfl rfl (by kernel_rfl) rfl hG ?_; refine h_passA 14 rfl rfl rfl (by kernel_rfl) rfl hG ?_; refine h_passA 15 rfl rfl rfl (by kernel_rfl) rfl hG ?_; refine h_takeXA 16 rfl (by kernel_rfl) rfl hG ?_; refine ⟨_, (val_ev rfl), ?_⟩; refine h_takeXA 17 rfl (by kernel_rfl) rfl hG ?_; refine ⟨_, (val_ev rfl), ?_⟩; refine h_passA 18 rfl rfl rfl (by kernel_rfl) rfl hG ?_; refine h_passA 19 rfl rfl rfl (by kernel_rfl) rfl hG ?_; refine h_passA 20 rfl rfl rfl (by kernel_rfl) rfl hG ?_; refine h_passA 21 rfl rfl rfl (by kernel_rfl) rfl hG ?_; refine h_passA 22 rfl rfl rfl (by kernel_rfl) rfl hG ?_; refine h_passA 23 rfl rfl rfl (by kernel_rfl) rfl hG ?_; refine h_passA 24 rfl rfl rfl (by kernel_rfl) rfl hG ?_; refine h_passA 25 rfl rfl rfl (by kernel_rfl) rfl hG ?_; refine h_passA 26 rfl rfl rfl (by kernel_rfl) rfl hG ?_; refine h_passA 27 rfl rfl rfl (by kernel_rfl) rfl hG ?_; refine h_passA 28 rfl rfl rfl (by kernel_rfl) rfl hG ?_; refine h_takeXA 29 rfl (by kernel_rfl) rfl hG ?_; refine ⟨_, (val_ev rfl), ?_⟩
   refine h_done (by kernel_rfl) ?_
   refine r_then_normal <| r_cond_false rfl <| r_exit <| r_then_exit <| r_then_exit <| r_in_exit <| r_then_normal ?_
   exact hK (x1, .slice e1 n1 d1, .slice e2 n2 d2, .slice e3 n3 d3, .bad j p, g2) _ ⟨k1, k2, h1', h2'⟩ ⟨rfl, rfl, rfl, trivial⟩
  | good j =>
   obtain ⟨h1', h2'⟩ := k3
   have hij' := k4 j rfl
   rw [eread_step] at h2'
   simp only [estep] at h2'
   refine r_seq <| r_seq ?_
   -- STOPC
   refine h_beginE [] mixed (fun hG => ?_)
   refine h_takeXA 0 rfl (by kernel_rfl) rfl hG ?_; refine ⟨_, (val_ev rfl), ?_⟩; refine h_takeXA 1 rfl (by kernel_rfl) rfl hG ?_; refine ⟨_, (val_ev rfl), ?_⟩; refine h_takeXA 2 rfl (by kernel_rfl) rfl hG ?_; refine ⟨_, (val_fieldAddr rfl), ?_⟩; refine h_takeXA 3 rfl (by kernel_rfl) rfl hG ?_; refine ⟨_, (val_loadB1 2 rfl rfl rfl), ?_⟩; refine h_takeXA 4 rfl (by kernel_rfl) rfl hG ?_; refine ⟨_, (val_ev rfl), ?_⟩; refine h_takeXA 5 rfl (by kernel_rfl) rfl hG ?_; refine ⟨_, (val_ev rfl), ?_⟩; refine h_takeGXA 6 rfl rfl (by kernel_rfl) rfl hG ?_; refine ⟨_, (val_ev rfl), ?_⟩; refine h_takeGXA 7 rfl rfl (by kernel_rfl) rfl hG ?_; refine ⟨_, (val_ev rfl), ?_⟩; refine h_takeGXA 8 rfl rfl (by kernel_rfl) rfl hG ?_; refine ⟨_, (val_fieldAddr rfl), ?_⟩; refine h_takeGXA 9 rfl rfl (by kernel_rfl) rfl hG ?_; refine ⟨_, (val_loadB1 2 rfl rfl rfl), ?_⟩; refine h_takeGXA 10 rfl rfl (by kernel_rfl) rfl hG ?_; refine ⟨_, (val_ev rfl), ?_⟩; refine h_takeGXA 11 rfl rfl (by kernel_rfl) rfl hG ?_; refine ⟨_, (val_ev rfl), ?_⟩; refine h_takeGXA 12 rfl rfl (by kernel_rfl) rfl hG ?_; refine ⟨_, (val_fieldAddr rfl), ?_⟩; refine h_takeGXA 13 rfl rfl (by kernel_rfl) rfl hG ?_; refine ⟨_, (val_loadB1 2 rfl rfl rfl), ?_⟩; refine h_takeGXA 14 rfl rfl (by kernel_rfl) rfl hG ?_; refine ⟨_, (val_len_sl rfl), ?_⟩; refine h_takeGXA 15 rfl rfl (by kernel_rfl) rfl hG ?_; refine ⟨_, (val_ev rfl), ?_⟩; refine h_takeXA 16 rfl (by kernel_rfl) rfl hG ?_; refine ⟨_, (val_ev rfl), ?_⟩; refine h_takeXA 17 rfl (by kernel_rfl) rfl hG ?_; refine ⟨_, (val_ev rfl), ?_⟩
   refine r_dec 86 rfl (fun hlt => ?_) (fun hlt => ?_)
   ·have hlt' : j < l.length := by omega
    obtain ⟨b0, off, cap, hsl, hxx⟩ := hs2.held hlt'
    cases hsl
    refine h_takeGXA 18 rfl rfl (by kernel_rfl) rfl hG ?_; refine ⟨_, (val_ev rfl), ?_⟩; refine h_takeGXA 19 rfl rfl (by kernel_rfl) rfl hG ?_; refine ⟨_, (val_ev rfl), ?_⟩; refine h_takeGXA 20 rfl rfl (by kernel_rfl) rfl hG ?_; refine ⟨_, (val_fieldAddr rfl), ?_⟩; refine h_takeGXA 21 rfl rfl (by kernel_rfl) rfl hG ?_; refine ⟨_, (val_loadB1 2 rfl rfl rfl), ?_⟩; refine h_takeGXA 22 rfl rfl (by kernel_rfl) rfl hG ?_; refine ⟨_, (val_ev rfl), ?_⟩; refine h_takeGXA 23 rfl rfl (by kernel_rfl) rfl hG ?_; refine ⟨_, (val_ev rfl), ?_⟩; refine h_takeGXA 24 rfl rfl (by kernel_rfl) rfl hG ?_; refine ⟨_, (val_fieldAddr rfl), ?_⟩; refine h_takeGXA 25 rfl rfl (by kernel_rfl) rfl hG ?_; refine ⟨_, (val_loadB1 2 rfl rfl rfl), ?_⟩
    refine h_takeGXA 26 rfl rfl (by kernel_rfl) rfl hG ⟨_, (val_indexAddr (j := j) rfl rfl rfl hlt'), ?_⟩
    refine h_takeGXA 27 rfl rfl (by kernel_rfl) rfl hG ⟨_, (val_load rfl (toks_rd hxx hlt') rfl), ?_⟩
    refine h_one 28 (by kernel_rfl) rfl ?_
    refine r_take rfl ?_
    refine r_callP rfl rfl (startsE6_spec g2 l[j]) ?_
    refine r_nn ?_
    refine h_keptA hG ?_
    refine h_takeXA 29 rfl (by kernel_rfl) rfl hG ?_; refine ⟨_, (val_ev rfl), ?_⟩
    refine h_done (by kernel_rfl) ?_
    rw [startsE_at hlt'] at h2'
    cases hst : startsE l[j] with
    | false =>
     rw [hst] at h2'
     refine r_then_normal <| r_cond_false rfl <| r_exit <| r_then_exit <| r_then_exit <| r_in_exit <| r_then_normal ?_
     exact hK (x1, .slice e1 n1 d1, .slice e2 n2 d2, .slice e3 n3 d3, .good j, g2) _ ⟨k1, k2, h1', h2'⟩ ⟨rfl, rfl, rfl, trivial⟩
    | true =>
     rw [hst] at h2'
     simp only [if_true] at h2'
     refine r_then_normal <| r_cond_true rfl <| r_skip <| r_then_normal <| r_block <| r_sr <| r_ev rfl rfl ?_
     refine r_callL 2 rfl rfl rfl (hA g2 j hs2 h1' (by omega)) ?_
     rintro v g3 r' hw3 hle3
     have hap3 : ∃ a s, ExV g3 v a ∧ r' = rdB b (.slice (some ⟨b0, off, none⟩) l.length lc) s ∧ AppR l cr (kidsE 5 x1.pos [] [x1, a]) s ∧ (∀ j', s = .good j' → j < j') := by
      rw [h2']
      cases hq : eread l .atom j with
      | error p =>
       rw [hq] at hw3
       obtain ⟨⟨a, ha⟩, j', hj, rfl⟩ := hw3
       exact ⟨a, .bad j' p, ha, rfl, ⟨hj, rfl⟩, fun j h => by cases h⟩
      | ok q =>
       obtain ⟨a, j'⟩ := q
       rw [hq] at hw3
       obtain ⟨ha, rfl, h1, h2⟩ := hw3
       exact ⟨a, .good j', ha, rfl, ⟨h2, rfl⟩, fun j'' h => by cases h; exact h1⟩
     obtain ⟨a, s3, ha, rfl, hap3, hij3⟩ := hap3
     obtain ⟨q1, o1, p1, q2, o2, p2, q3, o3, p3, rfl, ha'⟩ := ha.form
     skip
     refine r_alloc rfl (fun b9 => ?_)
     refine r_storeA 0 rfl rfl rfl rfl (by rfl) (by repeat' (first | exact rfl | assumption | refine all_cons ?_ ?_)) rfl ?_; refine r_nn <| r_region <| r_fieldAddr rfl rfl <| r_loadB1 1 rfl rfl rfl rfl <| r_loadB 1 rfl rfl rfl (by rfl) ?_; refine r_loadB 0 rfl rfl rfl (by rfl) ?_
     refine r_buildSlice rfl rfl (by rfl) (by rfl) (by rfl) (by rfl) (by rfl) (fun b10 => ?_)
     refine r_publishRow (fun g4 hg4 hs4 => ?_)
     have hle34 := Ghost.le_trans hle3 hg4
     refine r_build rfl rfl (by rfl) ?_; refine r_storeA 1 rfl rfl rfl rfl (by rfl) (by repeat' (first | exact rfl | assumption | refine all_cons ?_ ?_)) rfl ?_; refine r_nil <| r_in_normal <| r_then_normal ?_
     refine r_drop (own' := [_, _, _]) (.cons _ (List.Sublist.refl _)) ?_
     refine r_again (kidsE 5 x1.pos [] [x1, a], .slice (some ⟨b10, 0, none⟩) 2 2, .slice none 0 0, .slice none 0 0, s3, g4) ⟨Ghost.le_trans k1 hle34, ?_, hap3, fun j' h => Nat.lt_trans hij' (hij3 j' h)⟩ ?_ ⟨rfl, rfl, rfl, trivial⟩ rfl rfl
     ·obtain ⟨cs, e, hh⟩ := kidsE_V g4 5 x1.pos [] hs4 (exs2 (k2.mono hle34) (ha'.mono hg4))
      simp only [Value.agg.injEq] at e
      have e' := congrArg Array.toList e
      simp only at e'
      rw [← e'] at hh
      exact hh
     ·cases s3 with
      | bad j' p => simp only [RS.left]; omega
      | good j' =>
       have := hij3 j' rfl
       simp only [RS.left]; omega
   ·have hst : startsEAt l j = false := by unfold startsEAt; rw [List.getElem?_eq_none (by omega)]
    rw [hst] at h2'
    simp only [Bool.false_eq_true, if_false] at h2'
    refine h_passA 18 rfl rfl rfl (by kernel_rfl) rfl hG ?_; refine h_passA 19 rfl rfl rfl (by kernel_rfl) rfl hG ?_; refine h_passA 20 rfl rfl rfl (by kernel_rfl) rfl hG ?_; refine h_passA 21 rfl rfl rfl (by kernel_rfl) rfl hG ?_; refine h_passA 22 rfl rfl rfl (by kernel_rfl) rfl hG ?_; refine h_passA 23 rfl rfl rfl (by kernel_rfl) rfl hG ?_; refine h_passA 24 rfl rfl rfl (by kernel_rfl) rfl hG ?_; refine h_passA 25 rfl rfl rfl (by kernel_rfl) rfl hG ?_; refine h_passA 26 rfl rfl rfl (by kernel_rfl) rfl hG ?_; refine h_passA 27 rfl rfl rfl (by kernel_rfl) rfl hG ?_; refine h_passA 28 rfl rfl rfl (by kernel_rfl) rfl hG ?_; refine h_takeXA 29 rfl (by kernel_rfl) rfl hG ?_; refine ⟨_, (val_ev rfl), ?_⟩
    refine h_done (by kernel_rfl) ?_
    refine r_then_normal <| r_cond_false rfl <| r_exit <| r_then_exit <| r_then_exit <| r_in_exit <| r_then_normal ?_
    exact hK (x1, .slice e1 n1 d1, .slice e2 n2 d2, .slice e3 n3 d3, .good j, g2) _ ⟨k1, k2, h1', h2'⟩ ⟨rfl, rfl, rfl, trivial⟩
theorem read6_all {l : List Tok} (hb : TB l) (hkw : KW l) (lv : Value) (b : Nat) : ∀ m : Nat,
  (∀ g i, ToksAt g lv l → i ≤ l.length → l.length - i < m → SpecL Tryz.prog 78 [ptr b 0] g (rdB b lv (.good i)) (post6 l i b lv (eread l .expr i))) ∧
  (∀ g i, ToksAt g lv l → i ≤ l.length → l.length - i < m → SpecL Tryz.prog 120 [ptr b 0] g (rdB b lv (.good i)) (post6 l i b lv (eread l .atom i)))
 | 0 => ⟨fun _ _ _ _ h => by omega, fun _ _ _ _ h => by omega⟩
 | m + 1 => by
  have ih := read6_all hb hkw lv b m
  have hA := fun g i => atom6_step hb hkw m lv b ih.1 g i
  exact ⟨fun g i => Read6_step hb hkw m lv b ih.1 hA g i, hA⟩
theorem Read6_spec {l : List Tok} (hb : TB l) (hkw : KW l) (g : Ghost) (lv : Value) (b i : Nat) (hs : ToksAt g lv l) (hi : i ≤ l.length) : SpecL Tryz.prog 78 [ptr b 0] g (rdB b lv (.good i)) (post6 l i b lv (eread l .expr i)) := (read6_all hb hkw lv b _).1 g i hs hi (Nat.lt_succ_self _)
end Go.Proofs.YtpjehhnaojjanaaGreatDoor
-- sum 0cfb8fc4ea137ac4

/- The plain head of a binding, and the walk of the reference's binding (typedholesref7). -/
namespace Go.Proofs.YtpjehhnaojjanaaGreatDoor
open Go Go.Eng Go.Th Go.Proofs
set_option maxRecDepth 10000
set_option maxHeartbeats 4000000
attribute [local irreducible] wpList Code.wp Run bodyPost Go.Eng.Ends Exit.then Exit.inBlock Again Wq Kq
def tailR (l : List Tok) (pos : Int) (r : Bool) (n : Bytes) (k : Nat) : Except Int (Bi × Nat) :=
 if markAt l k [58] then match tread l .whole (k + 1) with
  | .error p => .error p
  | .ok (t, k') => bodyR l (fun e => ⟨pos, r, n, true, t, e⟩) k'
 else bodyR l (fun e => ⟨pos, r, n, false, noT, e⟩) k
theorem sigR_eq (l : List Tok) (pos : Int) (r : Bool) (j : Nat) : sigR l pos r j = match nameAt l j 1 with
 | none => .error (failPos l j)
 | some n => tailR l pos r n (j + 1) := rfl
def HeadS (l : List Tok) (i : Nat) (R : Except Int (Bi × Nat)) (pos : Int) (r : Bool) (n : Bytes) : RS → Prop
 | .good k => k ≤ l.length ∧ i < k ∧ R = tailR l pos r n k
 | .bad j p => j ≤ l.length ∧ R = .error p
theorem bind_head {l : List Tok} (hkw : KW l) {i : Nat} (hi : i ≤ l.length) {s1 s2 s3 : RS} (h1 : s1 = RS.need l letB (.good i)) (h2 : s2 = s1.skip l recB) (h3 : s3 = s2.word l 1) :
  HeadS l i (bindR l i) (posOf l i) (s1.isIs l recB) (s2.text l 1) s3 := by
 have hp : isAt l i letB = wordAt l i letB := isAt_word hkw (by decide) i
 have hr : isAt l (i + 1) recB = wordAt l (i + 1) recB := isAt_word hkw (by decide) (i + 1)
 unfold bindR
 cases hw : wordAt l i letB with
 | false =>
  rw [(skip_no (hp.trans hw)).2] at h1
  subst h1; subst h2; subst h3
  exact ⟨hi, rfl⟩
 | true =>
  have hlt := tokAt_lt hw
  rw [(skip_yes (hp.trans hw)).2.1] at h1
  subst h1
  have e0 : RS.isIs l recB (.good (i + 1)) = wordAt l (i + 1) recB := hr
  rw [e0]
  cases hw2 : wordAt l (i + 1) recB with
  | false =>
   rw [(skip_no (hr.trans hw2)).1] at h2
   subst h2
   simp only [if_true, Bool.false_eq_true, if_false, sigR_eq]
   cases hk : kindAt l (i + 1) 1 with
   | false =>
    obtain ⟨e1, e2, e3⟩ := nameAt_no hk
    rw [e2] at h3
    subst h3
    rw [e1]
    exact ⟨hlt, rfl⟩
   | true =>
    obtain ⟨e1, e2, hlt2⟩ := nameAt_yes hk
    rw [e2] at h3
    subst h3
    rw [e1]
    exact ⟨hlt2, by omega, rfl⟩
  | true =>
   have hlt' := tokAt_lt hw2
   rw [(skip_yes (hr.trans hw2)).1] at h2
   subst h2
   simp only [if_true, sigR_eq]
   cases hk : kindAt l (i + 1 + 1) 1 with
   | false =>
    obtain ⟨e1, e2, e3⟩ := nameAt_no hk
    rw [e2] at h3
    subst h3
    have e1' : nameAt l (i + 2) 1 = none := e1
    rw [e1']
    exact ⟨hlt', rfl⟩
   | true =>
    obtain ⟨e1, e2, hlt2⟩ := nameAt_yes hk
    rw [e2] at h3
    subst h3
    have e1' : nameAt l (i + 2) 1 = _ := e1
    rw [e1']
    exact ⟨hlt2, by omega, rfl⟩
def BodS (l : List Tok) (i : Nat) (R : Except Int (Bi × Nat)) (pos : Int) (r : Bool) (n : Bytes) (hs : Bool) (t : Ty) : RS → Prop
 | .good k => k ≤ l.length ∧ i < k ∧ R = bodyR l (fun e => ⟨pos, r, n, hs, t, e⟩) k
 | .bad j p => j ≤ l.length ∧ R = .error p
def SemS (l : List Tok) (i : Nat) (R : Except Int (Bi × Nat)) (x : Bi) : RS → Prop
 | .good k => k ≤ l.length ∧ i < k ∧ R = if markAt l k [59] then .ok (x, k + 1) else .error (failPos l k)
 | .bad j p => j ≤ l.length ∧ R = .error p
def ExpS (l : List Tok) (i : Nat) (R : Except Int (Bi × Nat)) (pos : Int) (r : Bool) (n : Bytes) (hs : Bool) (t : Ty) : RS → Prop
 | .good k => k ≤ l.length ∧ i < k ∧ R = match eread l .expr k with
   | .error p => .error p
   | .ok (e, m) => if markAt l m [59] then .ok (⟨pos, r, n, hs, t, e⟩, m + 1) else .error (failPos l m)
 | .bad j p => j ≤ l.length ∧ R = .error p
def FinB (l : List Tok) (i : Nat) (x : Bi) (s : RS) : Except Int (Bi × Nat) → Prop
 | .ok (y, j) => y = x ∧ s = .good j ∧ i < j ∧ j ≤ l.length
 | .error p => ∃ j, j ≤ l.length ∧ s = .bad j p
theorem BodS.eq {l : List Tok} (hkw : KW l) {i : Nat} {R : Except Int (Bi × Nat)} {pos : Int} {r : Bool} {n : Bytes} {hs : Bool} {t : Ty} {s : RS} (h : BodS l i R pos r n hs t s) :
  ExpS l i R pos r n hs t (s.need l [61]) := by
 cases s with
 | bad j p => exact h
 | good k =>
  obtain ⟨h1, h2, h3⟩ := h
  have hp : isAt l k [61] = markAt l k [61] := isAt_mark hkw (by decide) k
  unfold bodyR at h3
  cases hw : markAt l k [61] with
  | false =>
   rw [(skip_no (hp.trans hw)).2]
   rw [hw] at h3
   exact ⟨h1, h3⟩
  | true =>
   rw [(skip_yes (hp.trans hw)).2.1]
   rw [hw] at h3
   exact ⟨tokAt_lt hw, by omega, h3⟩
theorem SemS.fin {l : List Tok} (hkw : KW l) {i : Nat} {R : Except Int (Bi × Nat)} {x : Bi} {s : RS} (h : SemS l i R x s) :
  FinB l i x (s.need l [59]) R := by
 cases s with
 | bad j p =>
  obtain ⟨h1, h2⟩ := h
  subst h2
  exact ⟨j, h1, rfl⟩
 | good k =>
  obtain ⟨h1, h2, h3⟩ := h
  have hp : isAt l k [59] = markAt l k [59] := isAt_mark hkw (by decide) k
  cases hw : markAt l k [59] with
  | false =>
   rw [hw] at h3
   simp only [Bool.false_eq_true, if_false] at h3
   subst h3
   exact ⟨k, h1, (skip_no (hp.trans hw)).2⟩
  | true =>
   rw [hw] at h3
   simp only [if_true] at h3
   subst h3
   exact ⟨rfl, (skip_yes (hp.trans hw)).2.1, by omega, tokAt_lt hw⟩
def biCells (pos : Int) (r : Bool) (n : Bytes) (hs : Bool) (tc ec : List Value) : List Value := [.int .i64 pos, .bool r, str n, .bool hs] ++ (tc ++ ec)
def noTc : List Value := [.int .i64 0, str [], .int .i64 0, .int .i64 0, .slice none 0 0]
theorem noT_at (g : Ghost) : TyAt g noT noTc := TyAt.mk (t := noT) (slNil g 5) (tysNil g)
theorem noE_at (g : Ghost) : ExAt g noE noEc := ExAt.mk (e := noE) (slNil g 11) (exsNil g) (slNil g 14) (arsNil g) (TyAt.mk (t := noT) (slNil g 5) (tysNil g))
end Go.Proofs.YtpjehhnaojjanaaGreatDoor
-- sum 3f75204c35306cc4

/- How deep a type is: the walk of typedholesref3.Depth. -/
namespace Go.Th
mutual
def depthT : Ty → Nat
 | .mk _ _ _ _ ta => depthTs ta
def depthTs : List Ty → Nat
 | [] => 0
 | a :: r => max (1 + depthT a) (depthTs r)
end
theorem depthTs_app : ∀ (x y : List Ty), depthTs (x ++ y) = max (depthTs x) (depthTs y)
 | [], y => by simp [depthTs]
 | a :: x, y => by simp only [List.cons_append, depthTs, depthTs_app x y]; omega
theorem depthT_eq (t : Ty) : depthT t = depthTs t.args := by cases t; simp only [depthT, Ty.args]
theorem depthTs_mem : ∀ {l : List Ty} {a : Ty}, a ∈ l → 1 + depthT a ≤ depthTs l
 | b :: r, a, h => by
  simp only [depthTs]
  rcases List.mem_cons.1 h with rfl | h
  ·omega
  ·have := depthTs_mem h; omega
theorem depthTs_succ {l : List Ty} {i : Nat} (h : i < l.length) : depthTs (l.take (i + 1)) = max (depthTs (l.take i)) (1 + depthT l[i]) := by
 rw [List.take_succ_eq_append_getElem h, depthTs_app]
 simp [depthTs]
end Go.Th
namespace Go.Proofs.YtpjehhnaojjanaaGreatDoor
open Go Go.Eng Go.Th Go.Proofs
set_option maxRecDepth 10000
set_option maxHeartbeats 4000000
attribute [local irreducible] wpList Code.wp Run bodyPost Go.Eng.Ends Exit.then Exit.inBlock Again Wq Kq
theorem Depth3_aux (g : Ghost) : ∀ (N : Nat) (t : Ty) (v : Value), SizeOf.sizeOf t < N → depthT t ≤ 1000000 → TyV g v t → Pure Tryz.prog 56 [v] g (.int .i64 (depthT t))
 | 0, _, _, h, _, _ => by omega
 | N + 1, t, v, h, hd, hv => by
  have ih := Depth3_aux g N
  obtain ⟨sl, rfl, h1⟩ := hv
  obtain ⟨xs, hs1, ht1⟩ := h1.args
  obtain ⟨a, c, rfl⟩ := slForm2 hs1
  have hle := hs1.le
  rw [depthT_eq] at hd ⊢
  refine spec_of_run Tryz.func56 rfl Tryz.ntmps56 rfl fun E hE => ?_
  refine r_sr ?_
  refine r_box rfl rfl rfl (fun b1 => ?_)
  refine r_ev rfl rfl <| r_nn <| r_sr <| r_ev rfl rfl <| r_nn <| r_seq <| r_sr <| r_ev rfl rfl <| r_nn <| r_block ?_
  refine r_loop (ι := Nat) (fun i => [(1, ptr b1 0), (3, .int .i64 (depthTs (t.args.take i))), (4, .int .i64 i)]) (fun _ => g) (fun _ => [.blk b1 49 (tyCells t (.slice a t.args.length c))]) (fun i => i ≤ t.args.length) (fun i => t.args.length - i) 0 (Nat.zero_le _) ⟨rfl, rfl, rfl, trivial⟩ rfl rfl ?_
  intro i hi
  refine r_seq <| r_sr <| r_ev rfl rfl <| r_fieldAddr rfl rfl <| r_loadB1 0 rfl rfl rfl rfl <| r_len_sl rfl rfl <| r_ev rfl rfl <| r_nn ?_
  refine r_cond rfl (fun hlt => ?_) (fun hlt => ?_)
  ·have hlt' : i < t.args.length := by omega
   obtain ⟨b, off, cap, hsl, hx⟩ := hs1.held hlt'
   cases hsl
   obtain ⟨sl', h2, hr⟩ := ht1.rd (own := [.blk b1 49 (tyCells t (.slice (some ⟨b, off, none⟩) t.args.length c))]) hx hlt'
   have hm := depthTs_mem (List.getElem_mem hlt')
   have hsz : SizeOf.sizeOf t.args[i] < N := by
    have := List.sizeOf_lt_of_mem (List.getElem_mem hlt')
    cases t with
    | mk k n i hh ta => simp only [Ty.args] at this ⊢; simp at h; omega
   have hsu := depthTs_succ hlt'
   have hdi : depthTs (t.args.take i) ≤ depthTs t.args := by
    have := depthTs_app (t.args.take i) (t.args.drop i)
    rw [List.take_append_drop] at this
    omega
   refine r_skip <| r_then_normal <| r_seq <| r_block <| r_region <| r_ev rfl rfl <| r_fieldAddr rfl rfl <| r_loadB1 0 rfl rfl rfl rfl <| r_ev rfl rfl <| r_indexAddr rfl rfl rfl rfl (by omega) ?_
   refine r_load rfl rfl hr rfl ?_
   refine r_callP rfl rfl (ih t.args[i] _ hsz (by omega) ⟨sl', rfl, h2⟩) ?_
   refine r_add rfl rfl rfl (by omega) ?_; refine r_max rfl rfl rfl <| r_ev rfl rfl <| r_nil <| r_in_normal <| r_then_normal <| r_region <| r_ev rfl rfl <| r_add rfl rfl rfl (by omega) ?_; refine r_ev rfl rfl <| r_nn ?_
   refine r_again (i + 1) (by omega) (by omega) ⟨rfl, ?_, rfl, trivial⟩ rfl rfl
   rw [hsu]
   show _ = some (Value.int .i64 ((max (depthTs (t.args.take i)) (1 + depthT t.args[i]) : Nat) : Int))
   refine lkInt rfl ?_
   omega
  ·have hil : i = t.args.length := by omega
   subst hil
   refine r_exit <| r_then_exit <| r_then_exit <| r_in_exit <| r_then_normal <| r_sr <| r_ev rfl rfl <| r_ev rfl rfl <| r_nn <| r_retc ?_
   exact r_ret1 [] rfl rfl (by simp) ⟨by rw [List.take_length], rfl, rfl⟩
theorem Depth3_spec (g : Ghost) (t : Ty) (v : Value) (hd : depthT t ≤ 1000000) (hv : TyV g v t) : Pure Tryz.prog 56 [v] g (.int .i64 (depthT t)) := Depth3_aux g _ t v (Nat.lt_succ_self _) hd hv
end Go.Proofs.YtpjehhnaojjanaaGreatDoor
-- sum 9a79a47a94535d16

/- The walking engine, tenth part: calls through interfaces, type assertions, stand-ins that read, make or write memory (what errors.As needs). -/
namespace Go.Eng
open Go Go.RowKit
section
variable {P : Program} {E : Env} {n : Nat} {L : Slots} {g : Ghost} {own : List Res} {Q : Exit → Act → World → Prop} {ops : Array Oper} {rest : List Oper}
variable {d : Nat} {ty : TypeId} {pos : String} {after : Array Edge}
theorem args_run {a : Act} (hF : Fr n L a) {xs : Array Operand} {vals : List Value} (hx : evs L xs.toList = some vals) : (xs.map a.eval) = vals.toArray := by
 have := hF.evals hx
 apply Array.ext'
 simpa using this
theorem val_extI {f : FuncId} {e : Array Value → Sem Value} [hE : Ext P f e] {xs : Array Operand} {ts : Array TypeId} {vals : List Value} {v : Value} (hx : evs L xs.toList = some vals) (he : ∀ w, Inv E g own w → (e vals.toArray).run P w = .ok v w) :
  Val P E n L g own ty (.call ⟨.value (.func f), xs, ts⟩) v := fun a w dst pos after hF hI => by
 obtain ⟨fn, h1, h2, h3, h4, h5⟩ := hE.h
 have hargs := args_run hF hx
 have hc := run_callFunc_extern h1 h2 h3 h4 h5 vals.toArray w
 rw [he w hI] at hc
 simpa [execOp, resolve, Act.eval, Deferred.ofValue, invoke, hargs] using hc
theorem r_extA {f : FuncId} {e : Array Value → Sem Value} [hE : Ext P f e] {xs : Array Operand} {ts : Array TypeId} {vals : List Value} {mk : Nat → Value} {T : TypeId} {cs : List Value} (hd : Nat.blt d n = true) (hx : evs L xs.toList = some vals)
  (he : ∀ w, (e vals.toArray).run P w = .ok (mk w.heap.size) (w.alloc (.cells cs.toArray T))) (k : ∀ b, Run E n ((d, mk b) :: L) g (.blk b T cs :: own) (wpList P ops Q rest)) :
  Run E n L g own (wpList P ops Q (⟨some d, .call ⟨.value (.func f), xs, ts⟩, ty, pos, after, none⟩ :: rest)) := r_step fun a w hF hI => by
 obtain ⟨fn, h1, h2, h3, h4, h5⟩ := hE.h
 have hargs := args_run hF hx
 have hc := run_callFunc_extern h1 h2 h3 h4 h5 vals.toArray w
 rw [he w] at hc
 have hr : (execOp a.eval ⟨some d, .call ⟨.value (.func f), xs, ts⟩, ty, pos, after, none⟩).run P w = .ok (.value (mk w.heap.size)) (w.alloc (.cells cs.toArray T)) := by
  simpa [execOp, resolve, Act.eval, Deferred.ofValue, invoke, hargs] using hc
 unfold Oper.wp
 rw [hr]
 exact k _ _ _ (hF.put hd _) (hI.alloc T cs)
theorem r_extW {f : FuncId} {e : Array Value → Sem Value} [hE : Ext P f e] {xs : Array Operand} {ts : Array TypeId} {vals : List Value} {v : Value} {b : Nat} {T : TypeId} {cs cs' : List Value} (i : Nat) (hd : Nat.blt d n = true) (hx : evs L xs.toList = some vals) (ho : own[i]? = some (.blk b T cs))
  (he : ∀ w, Inv E g own w → (e vals.toArray).run P w = .ok v (w.setRow b cs'.toArray)) (k : Run E n ((d, v) :: L) g (own.set i (.blk b T cs')) (wpList P ops Q rest)) :
  Run E n L g own (wpList P ops Q (⟨some d, .call ⟨.value (.func f), xs, ts⟩, ty, pos, after, none⟩ :: rest)) := r_step fun a w hF hI => by
 obtain ⟨fn, h1, h2, h3, h4, h5⟩ := hE.h
 have hargs := args_run hF hx
 have hc := run_callFunc_extern h1 h2 h3 h4 h5 vals.toArray w
 rw [he w hI] at hc
 have hr : (execOp a.eval ⟨some d, .call ⟨.value (.func f), xs, ts⟩, ty, pos, after, none⟩).run P w = .ok (.value v) (w.setRow b cs'.toArray) := by
  simpa [execOp, resolve, Act.eval, Deferred.ofValue, invoke, hargs] using hc
 unfold Oper.wp
 rw [hr]
 exact k _ _ (hF.put hd v) (hI.setBlk ho cs')
theorem val_invoke {x : Operand} {name : String} {f : FuncId} {e : Array Value → Sem Value} [hE : Ext P f e] {xs : Array Operand} {ts : Array TypeId} {vals : List Value} {T : TypeId} {u u' v : Value} (hx : ev L x = some (.iface T u)) (hxs : evs L xs.toList = some vals)
  (hm : ∀ w, (Go.method (P.types.size + Made.depth) T u name).run P w = .ok (f, u') w) (he : ∀ w, (e (u' :: vals).toArray).run P w = .ok v w) :
  Val P E n L g own ty (.call ⟨.invoke x name, xs, ts⟩) v := fun a w dst pos after hF _ => by
 obtain ⟨fn, h1, h2, h3, h4, h5⟩ := hE.h
 have hargs := args_run hF hxs
 have hc := run_callFunc_extern h1 h2 h3 h4 h5 (u' :: vals).toArray w
 rw [he w] at hc
 have hp : (program).run P w = .ok P w := rfl
 have hcm : (callMethod (.iface T u) name vals.toArray).run P w = .ok (.value v) w := by
  unfold callMethod
  simp only [Sem.run_bind, hp, Result.andThen_ok, hm w]
  simpa using hc
 simp [execOp, resolve, invoke, hF.eval hx, hargs, hcm]
theorem r_invokeP {x : Operand} {name : String} {f : FuncId} {xs : Array Operand} {ts : Array TypeId} {vals : List Value} {T : TypeId} {u u' v : Value} [hB : Body P f] (hd : Nat.blt d n = true) (hx : ev L x = some (.iface T u)) (hxs : evs L xs.toList = some vals)
  (hm : ∀ w, (Go.method (P.types.size + Made.depth) T u name).run P w = .ok (f, u') w) (hs : Pure P f (u' :: vals) g v) (k : Run E n ((d, v) :: L) g own (wpList P ops Q rest)) :
  Run E n L g own (wpList P ops Q (⟨some d, .call ⟨.invoke x name, xs, ts⟩, ty, pos, after, none⟩ :: rest)) := r_step fun a w hF hI => by
 have hb := hB.h
 unfold bodyB at hb
 split at hb
 ·rename_i fn hfn
  simp only [Bool.and_eq_true, Bool.not_eq_true', beq_eq_false_iff_ne, ne_eq] at hb
  have hargs := args_run hF hxs
  have hbn : fn.body ≠ none := fun h => by simp [h] at hb
  have hp : (program).run P w = .ok P w := rfl
  have hcm : (callMethod (.iface T u) name vals.toArray).run P w = .ok (.enter f (u' :: vals).toArray) w := by
   unfold callMethod
   simp only [Sem.run_bind, hp, Result.andThen_ok, hm w]
   simp [callFunc, hp, hfn, hb.2, hbn]
  have h1 : (execOp a.eval ⟨some d, .call ⟨.invoke x name, xs, ts⟩, ty, pos, after, none⟩).run P w = .ok (.enter f (u' :: vals).toArray) w := by
   simp [execOp, resolve, invoke, hF.eval hx, hargs, hcm]
  unfold Oper.wp
  rw [h1]
  have hI' : Inv E g ([] ++ own) w := hI
  have hH : Holds g [] w := (hI'.drop (List.sublist_append_left _ _)).1
  refine (hs w hH).mono ?_
  rintro e w' ⟨v', g', own', rfl, ⟨rfl, rfl, rfl⟩, hH', hS'⟩
  refine k _ _ (hF.put hd _) ?_
  exact Inv.move hI' hS'.size hS'.tape hS'.os hS'.output hS'.kept hS'.gle hH'.cov hS'.gnew hH'.sat hH'.dis hH'.gn hS'.ofoot
 ·cases hb
theorem val_tassert {x : Operand} {X T : TypeId} {u v : Value} (hx : ev L x = some u) (h : ∀ w, (Instr.typeAssert u X T true).run P w = .ok v w) : Val P E n L g own ty (.typeAssert x X T true) v := fun a w dst pos after hF _ => by
 simp [execOp, hF.eval hx, h w]
theorem blk_cell {w : World} {i b o : Nat} {T : TypeId} {cs : List Value} {v : Value} (hI : Inv E g own w) (h : own[i]? = some (.blk b T cs)) (hv : cs[o]? = some v) : w.cell? ⟨b, o, none⟩ = some v := by
 have hs : w.heap[b]? = some (.cells cs.toArray T (0, 0)) := sat_at hI h
 simp [World.cell?, hs, hv]
end
end Go.Eng
-- sum 5c37b61a6227fa84

/- The walking engine: three operations of a drawn region that can come up in any order; parts of what is read; over any program. -/
namespace Go.Eng
open Go
section
variable {P : Program} {E : Env} {n : Nat} {L : Slots} {g : Ghost} {own : List Res} {Q : Exit → Act → World → Prop} {ops : Array Oper} {S : World → Prop} {fuel : Nat} {listed : Array Bool}
theorem h_three {o o' o'' : Oper} (i i' i'' : Nat) (hr : Region.ready .any ops listed = [i, i', i'']) (hi : ops[i]? = some o) (hi' : ops[i']? = some o') (hi'' : ops[i'']? = some o'')
  (h : Run E n L g own (wpList P ops (Exit.then (fun a w => S w ∧ Hq P ops Q S fuel (listed.setIfInBounds i true) a w) Q) [o]))
  (h' : Run E n L g own (wpList P ops (Exit.then (fun a w => S w ∧ Hq P ops Q S fuel (listed.setIfInBounds i' true) a w) Q) [o']))
  (h'' : Run E n L g own (wpList P ops (Exit.then (fun a w => S w ∧ Hq P ops Q S fuel (listed.setIfInBounds i'' true) a w) Q) [o''])) : Run E n L g own (Hq P ops Q S (fuel + 1) listed) := fun a w hF hI => by
 have aux : ∀ (j : Nat) (q : Oper), ops[j]? = some q → wpList P ops (Exit.then (fun a w => S w ∧ Hq P ops Q S fuel (listed.setIfInBounds j true) a w) Q) [q] a w →
   wpOp P ops Q j (fun a' w' => S w' ∧ wpAnyH P .any ops Q S fuel (listed.setIfInBounds j true) a' w') a w := by
  intro j q hq h1
  unfold wpOp
  simp only [hq]
  unfold wpList at h1
  split
  ·rename_i hw
   rw [if_pos hw] at h1
   rcases h1 with h1 | ⟨h1, h2⟩
   ·exact .inl (upon_then h1)
   ·exact .inr ⟨h1, h2⟩
  ·rename_i hw
   rw [if_neg hw] at h1
   exact h1
 refine wpAnyH_all hr (by simp) ?_
 intro j hj
 simp only [List.mem_cons, List.not_mem_nil, or_false] at hj
 rcases hj with rfl | rfl | rfl
 ·exact aux _ _ hi (h a w hF hI)
 ·exact aux _ _ hi' (h' a w hF hI)
 ·exact aux _ _ hi'' (h'' a w hF hI)
end
theorem Rd.at1 {g : Ghost} {own : List Res} {b off : Nat} {xs : List Value} (h : Rd g own b off xs) (d : Nat) {v : Value} (hv : xs[d]? = some v) : Rd g own b (off + d) [v] :=
 h.part d fun j x hj => by
  cases j with
  | zero => simp at hj; subst hj; simpa using hv
  | succ j => simp at hj
theorem Rd.tail3 {g : Ghost} {own : List Res} {b off : Nat} {x y z : Value} {bc : List Value} (h : Rd g own b off (x :: y :: z :: bc)) : Rd g own b (off + 3) bc :=
 h.part 3 fun j v hj => by rw [Nat.add_comm]; simpa using hj
end Go.Eng
-- sum 2dd0cdf93865e33d


/- The walks of the reference's reader of programs (typedholesref7): declaration. -/
import Derived.Test.YtpjehhnaojjanaaGreatDoorK9
namespace Go.Proofs.YtpjehhnaojjanaaGreatDoor
open Go Go.Eng Go.Th Go.Proofs
set_option maxRecDepth 10000
set_option maxHeartbeats 4000000
attribute [local irreducible] wpList Code.wp Run bodyPost Go.Eng.Ends Exit.then Exit.inBlock Again Wq Kq
def postD (l : List Tok) (i : Nat) (b : Nat) (lv : Value) (r : Except Int (Da × Nat)) (v : Value) (g' : Ghost) (r' : Res) : Prop := match r with
 | .ok (d, j) => DaV g' v d ∧ r' = rdB b lv (.good j) ∧ i < j ∧ j ≤ l.length
 | .error p => (∃ d, DaV g' v d) ∧ ∃ j, j ≤ l.length ∧ r' = rdB b lv (.bad j p)
def ConsS (l : List Tok) (R : Except Int (List Cn × Nat)) (acc : List Cn) : RS → Prop
 | .good j => j ≤ l.length ∧ acc.length ≤ j ∧ R = consR l acc j
 | .bad j p => j ≤ l.length ∧ R = .error p
def ConsE (l : List Tok) (R : Except Int (List Cn × Nat)) (acc : List Cn) : RS → Prop
 | .good m => m ≤ l.length ∧ R = if markAt l m [59] then .ok (acc, m + 1) else .error (failPos l m)
 | .bad j p => j ≤ l.length ∧ R = .error p
def consStep (l : List Tok) (acc : List Cn) (pos : Int) (c : Bytes) (t : Ty) (k : Nat) : Except Int (List Cn × Nat) :=
 if markAt l k [124] then consR l (acc ++ [⟨pos, c, t.args⟩]) (k + 1) else if markAt l k [59] then .ok (acc ++ [⟨pos, c, t.args⟩], k + 1) else .error (failPos l k)
def FldS (l : List Tok) (R : Except Int (List Cn × Nat)) (acc : List Cn) (pos : Int) (c : Bytes) (n0 : Nat) (fs : List Ty) : RS → Prop
 | .good k => k ≤ l.length ∧ n0 + fs.length < k ∧ R = match tread l (.args c fs) k with
  | .error p => .error p
  | .ok (t, k') => consStep l acc pos c t k'
 | .bad j p => j ≤ l.length ∧ R = .error p
theorem decl_head {l : List Tok} (hkw : KW l) {i : Nat} (hi : i ≤ l.length) {s1 s3 : RS} {vs : List Bytes} (hs1 : s1 = RS.need l dataB (.good i)) (hv : VarsR l (s1.word l 2) s3 vs) (hk : s3.kindIs l 1 = false) :
  match s3.need l [61] with
  | .bad j p => j ≤ l.length ∧ declR l i = .error p
  | .good k => k ≤ l.length ∧ i < k ∧ declR l i = match consR l [] k with
   | .error p => .error p
   | .ok (cs, m) => .ok (⟨posOf l i, s1.text l 2, vs, cs⟩, m) := by
 have hp : isAt l i dataB = wordAt l i dataB := isAt_word hkw (by decide) i
 unfold declR
 cases hw : wordAt l i dataB with
 | false =>
  rw [(skip_no (hp.trans hw)).2] at hs1
  subst hs1
  obtain ⟨rfl, rfl⟩ := hv
  exact ⟨hi, rfl⟩
 | true =>
  have hlt := tokAt_lt hw
  rw [(skip_yes (hp.trans hw)).2.1] at hs1
  subst hs1
  simp only [if_true]
  cases h2 : kindAt l (i + 1) 2 with
  | false =>
   obtain ⟨e1, e2, e3⟩ := nameAt_no h2
   rw [e2] at hv
   obtain ⟨rfl, rfl⟩ := hv
   rw [e1]
   exact ⟨hlt, rfl⟩
  | true =>
   obtain ⟨e1, e2, hlt2⟩ := nameAt_yes h2
   rw [e2] at hv
   obtain ⟨rfl, hv2, hv3⟩ := hv
   have hk' : kindAt l (i + 1 + 1 + vs.length) 1 = false := hk
   rw [lowers_stop hk', List.append_nil] at hv3
   rw [e1]
   simp only
   rw [show i + 2 = i + 1 + 1 from rfl, hv3]
   have hq : isAt l (i + 1 + 1 + vs.length) [61] = markAt l (i + 1 + 1 + vs.length) [61] := isAt_mark hkw (by decide) _
   cases h3 : markAt l (i + 1 + 1 + vs.length) [61] with
   | false =>
    rw [(skip_no (hq.trans h3)).2]
    exact ⟨hv2, rfl⟩
   | true =>
    have hlt3 := tokAt_lt h3
    rw [(skip_yes (hq.trans h3)).2.1]
    exact ⟨hlt3, by omega, rfl⟩
theorem fld_start {l : List Tok} {R : Except Int (List Cn × Nat)} {acc : List Cn} {j : Nat} (h : ConsS l R acc (.good j)) : FldS l R acc (posOf l j) (RS.text l 2 (.good j)) acc.length [] (RS.word l 2 (.good j)) := by
 obtain ⟨h1, h2, h3⟩ := h
 rw [consR_eq] at h3
 cases hk : kindAt l j 2 with
 | false =>
  obtain ⟨e1, e2, e3⟩ := nameAt_no hk
  rw [e2]
  rw [e1] at h3
  exact ⟨h1, h3⟩
 | true =>
  obtain ⟨e1, e2, hlt⟩ := nameAt_yes hk
  rw [e2]
  rw [e1] at h3
  exact ⟨hlt, by simp; omega, h3⟩
theorem cns_snoc {g : Ghost} {l : List Cn} {xs : List Value} {p : Int} {c : Bytes} {fs : List Ty} {sf : Value} {xf : List Value} (h : AllAt (CnAt g) l xs) (h1 : SlAt g 5 sf fs.length xf) (h2 : TysAt g fs xf) :
  AllAt (CnAt g) (l ++ [⟨p, c, fs⟩]) (xs ++ [.int .i64 p, str c, sf]) := AllAt.snoc ⟨sf, xf, rfl, h1, h2⟩ h
theorem starts_rs {l : List Tok} (hkw : KW l) (j : Nat) : (RS.kindIs l 1 (.good j) || RS.kindIs l 2 (.good j) || RS.isIs l [40] (.good j)) = startsAt l j := by
 show (kindAt l j 1 || kindAt l j 2 || isAt l j [40]) = _
 rw [isAt_mark hkw (by decide)]
 unfold startsAt startsT markAt tokAt kindAt
 cases l[j]? <;> rfl
theorem decl7_spec {l : List Tok} (hb : TB l) (hkw : KW l) (g : Ghost) (lv : Value) (b i : Nat) (hs : ToksAt g lv l) (hi : i ≤ l.length) :
  SpecL Tryz.prog 49 [ptr b 0] g (rdB b lv (.good i)) (postD l i b lv (declR l i)) := by
 have hb1 := hb.1
 refine spec_of_run Tryz.func49 rfl Tryz.ntmps49 rfl fun E hE => ?_
 refine r_sr ?_
 refine r_alloc rfl (fun b2 => ?_)
 refine r_nn <| r_sr <| r_ev rfl rfl ?_
 refine r_callO 1 rfl rfl rfl (Pos5_spec g l lv hs b (.good i)) ?_
 rw [show posAt l (RS.good i).idx = posOf l i from rfl]
 refine r_build rfl rfl (by rfl) ?_
 refine r_alloc rfl (fun b3 => ?_)
 refine r_storeA 0 rfl rfl rfl rfl (by rfl) (by repeat' (first | exact rfl | assumption | refine all_cons ?_ ?_)) rfl ?_; refine r_nn <| r_sr <| r_ev rfl rfl ?_
 refine r_callL 2 rfl rfl rfl (Need5_spec g l hb lv hs b (.good i) hi dataB) ?_
 rintro v g0 r' ⟨rfl, rfl⟩ _
 have hok0 : (RS.need l dataB (.good i)).ok l := RS.need_ok (s := .good i) hi
 obtain ⟨s1, hs1⟩ : ∃ s, s = RS.need l dataB (.good i) := ⟨_, rfl⟩
 rw [← hs1] at hok0 ⊢
 refine r_nn <| r_sr <| r_ev rfl rfl ?_
 refine r_callL 2 rfl rfl rfl (Word5_spec g0 l hb lv hs b s1 hok0 2) ?_
 rintro v g0 r' ⟨rfl, rfl, rfl⟩ _
 have hok1 : (s1.word l 2).ok l := RS.word_ok hok0
 refine r_fieldAddr rfl rfl <| r_store1 0 rfl rfl rfl rfl rfl rfl <| r_nn ?_
 -- STOPA
 refine r_cutG (ι := RS × List Bytes × Value) (fun p => [(0, ptr b 0), (2, ptr b2 0), (3, ptr b3 0)]) (fun _ => g0)
  (fun p => [.row 9 1 p.2.2 p.2.1.length (p.2.1.map str), .blk b3 86 [.int .i64 (posOf l i), str (s1.text l 2), p.2.2, .slice none 0 0], .blk b2 86 [.int .i64 0, str [], .slice none 0 0, .slice none 0 0], rdB b lv p.1])
  (fun p => (∃ a m c, p.2.2 = .slice a m c) ∧ VarsR l (s1.word l 2) p.1 p.2.1 ∧ p.1.kindIs l 1 = false) ?_ ?_
 ·rintro ⟨s3, vs, vv⟩ ⟨⟨va, vm, vc, q1⟩, q2, q3⟩
  simp only at q1 q2 q3
  subst q1
  have hh := decl_head hkw hi hs1 q2 q3
  have hok3 : s3.ok l := q2.ok hok1
  have hvl := q2.len hok1
  show Run E _ [(0, ptr b 0), (2, ptr b2 0), (3, ptr b3 0)] g0 [.row 9 1 (.slice va vm vc) vs.length (vs.map str), .blk b3 86 [.int .i64 (posOf l i), str (s1.text l 2), .slice va vm vc, .slice none 0 0], .blk b2 86 [.int .i64 0, str [], .slice none 0 0, .slice none 0 0], rdB b lv s3] _
  refine r_publishRow (fun g1 hg1 hv1 => ?_)
  have hs1' := hs.mono hg1
  refine r_sr <| r_ev rfl rfl ?_
  refine r_callL 2 rfl rfl rfl (Need5_spec g1 l hb lv hs1' b s3 hok3 [61]) ?_
  rintro v g1 r' ⟨rfl, rfl⟩ _
  generalize s3.need l [61] = s4 at hh
  -- the constructors
  have hR : ∃ R : Except Int (List Cn × Nat), ConsS l R [] s4 ∧ (declR l i = match R with | .error p => .error p | .ok (cs, m) => .ok (⟨posOf l i, s1.text l 2, vs, cs⟩, m)) := by
   cases s4 with
   | bad j p => exact ⟨.error p, ⟨hh.1, rfl⟩, hh.2⟩
   | good k => exact ⟨consR l [] k, ⟨hh.1, by simp, rfl⟩, hh.2.2⟩
  obtain ⟨R, hc0, hdecl⟩ := hR
  refine r_nn ?_
  -- STOPB
  refine r_cutG (ι := RS × List Cn × Value × Ghost) (fun p => [(0, ptr b 0), (2, ptr b2 0), (3, ptr b3 0)]) (fun p => p.2.2.2)
   (fun p => [.blk b3 86 [.int .i64 (posOf l i), str (s1.text l 2), .slice va vm vc, p.2.2.1], .blk b2 86 [.int .i64 0, str [], .slice none 0 0, .slice none 0 0], rdB b lv p.1])
   (fun p => Ghost.le g1 p.2.2.2 ∧ (∃ xc, SlAt p.2.2.2 3 p.2.2.1 p.2.1.length xc ∧ AllAt (CnAt p.2.2.2) p.2.1 xc) ∧ ConsE l R p.2.1 p.1) ?_ ?_
  ·rintro ⟨s, acc, sc, g2⟩ ⟨k1, ⟨xc, k2, k3⟩, k4⟩
   simp only at k1 k2 k3 k4
   obtain ⟨ca, cm, cc, rfl⟩ := SlAt.form k2
   have hs2 := hs1'.mono k1
   show Run E _ [(0, ptr b 0), (2, ptr b2 0), (3, ptr b3 0)] g2 [.blk b3 86 [.int .i64 (posOf l i), str (s1.text l 2), .slice va vm vc, .slice ca cm cc], .blk b2 86 [.int .i64 0, str [], .slice none 0 0, .slice none 0 0], rdB b lv s] _
   have hok : s.ok l := by
    cases s with
    | good j => exact k4.1
    | bad j p => exact k4.1
   have hV : DaV g2 (.agg #[.int .i64 (posOf l i), str (s1.text l 2), .slice va vm vc, .slice ca cm cc]) ⟨posOf l i, s1.text l 2, vs, acc⟩ := ⟨_, rfl, _, _, xc, rfl, hv1.mono k1, k2, k3⟩
   refine r_sr <| r_ev rfl rfl ?_
   refine r_callL 2 rfl rfl rfl (Need5_spec g2 l hb lv hs2 b s hok [59]) ?_
   rintro v g3 r' ⟨rfl, rfl⟩ _
   refine r_nn <| r_sr <| r_loadB 0 rfl rfl rfl (by rfl) ?_; refine r_storeA 1 rfl rfl rfl rfl (by rfl) (by repeat' (first | exact rfl | assumption | refine all_cons ?_ ?_)) rfl ?_; refine r_nn <| r_retc ?_
   refine r_retA [_] rfl (res_blk 1 rfl rfl (by rfl)) (.cons _ (.cons _ (List.Sublist.refl _))) ⟨_, rfl, ?_⟩
   cases s with
   | bad j p =>
    obtain ⟨h1, h2⟩ := k4
    rw [h2] at hdecl
    rw [hdecl]
    exact ⟨⟨_, hV⟩, j, h1, rfl⟩
   | good j =>
    obtain ⟨h1, h2⟩ := k4
    have hp : isAt l j [59] = markAt l j [59] := isAt_mark hkw (by decide) j
    cases hk : markAt l j [59] with
    | true =>
     rw [hk] at h2
     simp only [if_true] at h2
     rw [h2] at hdecl
     simp only at hdecl
     have := declR_bnd hdecl
     rw [(skip_yes (hp.trans hk)).2.1, hdecl]
     exact ⟨hV, rfl, this.1, this.2⟩
    | false =>
     rw [hk] at h2
     simp only [Bool.false_eq_true, if_false] at h2
     rw [h2] at hdecl
     simp only at hdecl
     rw [(skip_no (hp.trans hk)).2, hdecl]
     exact ⟨⟨_, hV⟩, j, h1, rfl⟩
  ·intro K hK
   refine r_block ?_
   refine r_nilRow 98 3 ?_
   refine r_loop (ι := RS × List Cn × Value × List Value × Ghost) (fun p => [(0, ptr b 0), (2, ptr b2 0), (3, ptr b3 0)]) (fun p => p.2.2.2.2)
    (fun p => [.row 98 3 p.2.2.1 p.2.1.length p.2.2.2.1, .blk b3 86 [.int .i64 (posOf l i), str (s1.text l 2), .slice va vm vc, p.2.2.1], .blk b2 86 [.int .i64 0, str [], .slice none 0 0, .slice none 0 0], rdB b lv p.1])
    (fun p => Ghost.le g1 p.2.2.2.2 ∧ (∃ a m c, p.2.2.1 = .slice a m c) ∧ AllAt (CnAt p.2.2.2.2) p.2.1 p.2.2.2.1 ∧ ConsS l R p.2.1 p.1 ∧ p.2.1.length ≤ l.length)
    (fun p => p.1.left l) (s4, [], .slice none 0 0, [], g1) ⟨Ghost.le_refl _, ⟨_, _, _, rfl⟩, rfl, hc0, by simp⟩ ⟨rfl, rfl, rfl, trivial⟩ rfl rfl ?_
   rintro ⟨s, acc, sc, xc, g2⟩ ⟨k1, ⟨ca, cm, cc, k2⟩, k3, k4, k5⟩
   simp only at k1 k2 k3 k4 k5
   subst k2
   have hs2 := hs1'.mono k1
   show Run E _ [(0, ptr b 0), (2, ptr b2 0), (3, ptr b3 0)] g2 [.row 98 3 (.slice ca cm cc) acc.length xc, .blk b3 86 [.int .i64 (posOf l i), str (s1.text l 2), .slice va vm vc, .slice ca cm cc], .blk b2 86 [.int .i64 0, str [], .slice none 0 0, .slice none 0 0], rdB b lv s] _
   cases s with
   | bad j p =>
    obtain ⟨h1, h2⟩ := k4
    refine r_seq <| r_sr <| r_ev rfl rfl <| r_ev rfl rfl <| r_fieldAddr rfl rfl <| r_loadB1 3 rfl rfl rfl rfl <| r_ev rfl rfl <| r_nn <| r_cond_false rfl <| r_exit <| r_then_exit <| r_then_exit <| r_in_exit <| r_then_normal ?_
    refine r_publishRow (fun g3 hg3 ha3 => ?_)
    exact hK (.bad j p, acc, .slice ca cm cc, g3) _ ⟨Ghost.le_trans k1 hg3, ⟨xc, ha3, cns_mono hg3 k3⟩, h1, h2⟩ ⟨rfl, rfl, rfl, trivial⟩
   | good j =>
    have hfs := fld_start k4
    obtain ⟨hjl, hacl, _⟩ := k4
    refine r_seq <| r_sr <| r_ev rfl rfl <| r_ev rfl rfl <| r_fieldAddr rfl rfl <| r_loadB1 3 rfl rfl rfl rfl <| r_ev rfl rfl <| r_nn <| r_cond_true rfl <| r_skip <| r_then_normal <| r_block <| r_sr <| r_ev rfl rfl ?_
    refine r_callO 3 rfl rfl rfl (Pos5_spec g2 l lv hs2 b (.good j)) ?_
    rw [show posAt l (RS.good j).idx = posOf l j from rfl]
    refine r_ev rfl rfl ?_
    refine r_callL 3 rfl rfl rfl (Word5_spec g2 l hb lv hs2 b (.good j) hjl 2) ?_
    rintro v g2' r' ⟨rfl, rfl, rfl⟩ _
    obtain ⟨cn, hcn⟩ : ∃ c, c = RS.text l 2 (.good j) := ⟨_, rfl⟩
    rw [← hcn] at hfs ⊢
    refine r_build rfl rfl (by rfl) ?_
    refine r_alloc rfl (fun b4 => ?_)
    refine r_storeA 0 rfl rfl rfl rfl (by rfl) rfl rfl ?_; refine r_nn ?_
    have hok5 : (RS.word l 2 (.good j)).ok l := RS.word_ok (s := .good j) hjl
    have hleft5 : ∀ k, RS.word l 2 (.good j) = .good k → k = j + 1 := by
     intro k hk
     cases h : kindAt l j 2 with
     | true => rw [(nameAt_yes h).2.1] at hk; cases hk; rfl
     | false => rw [(nameAt_no h).2.1] at hk; cases hk
    generalize RS.word l 2 (.good j) = s5 at hfs hok5 hleft5
    -- STOPC
    refine r_cutG (ι := RS × List Ty × Value × Ghost) (fun p => [(0, ptr b 0), (2, ptr b2 0), (3, ptr b3 0), (4, ptr b4 0)]) (fun p => p.2.2.2)
     (fun p => [.blk b4 98 [.int .i64 (posOf l j), str cn, p.2.2.1], .row 98 3 (.slice ca cm cc) acc.length xc, .blk b3 86 [.int .i64 (posOf l i), str (s1.text l 2), .slice va vm vc, .slice ca cm cc], .blk b2 86 [.int .i64 0, str [], .slice none 0 0, .slice none 0 0], rdB b lv p.1])
     (fun p => Ghost.le g2' p.2.2.2 ∧ (∃ xf, SlAt p.2.2.2 5 p.2.2.1 p.2.1.length xf ∧ TysAt p.2.2.2 p.2.1 xf) ∧ (match p.1 with
      | .good k => k ≤ l.length ∧ j < k ∧ R = consStep l acc (posOf l j) cn (conT cn p.2.1) k
      | .bad j' p' => j' ≤ l.length ∧ R = .error p')) ?_ ?_
    ·rintro ⟨s6, fs, sf, g3⟩ ⟨m1, ⟨xf, m2, m3⟩, m4⟩
     simp only at m1 m2 m3 m4
     obtain ⟨fa, fm, fc, rfl⟩ := SlAt.form m2
     have hs3 := hs2.mono m1
     show Run E _ [(0, ptr b 0), (2, ptr b2 0), (3, ptr b3 0), (4, ptr b4 0)] g3 [.blk b4 98 [.int .i64 (posOf l j), str cn, .slice fa fm fc], .row 98 3 (.slice ca cm cc) acc.length xc, .blk b3 86 [.int .i64 (posOf l i), str (s1.text l 2), .slice va vm vc, .slice ca cm cc], .blk b2 86 [.int .i64 0, str [], .slice none 0 0, .slice none 0 0], rdB b lv s6] _
     have hok6 : s6.ok l := by
      cases s6 with
      | good j => exact m4.1
      | bad j p => exact m4.1
     have hsn := cns_snoc (p := posOf l j) (c := cn) (cns_mono m1 k3) m2 m3
     refine r_sr <| r_fieldAddr rfl rfl <| r_loadB1 2 rfl rfl rfl rfl <| r_loadB 0 rfl rfl rfl (by rfl) ?_
     refine r_buildSlice rfl rfl (by rfl) (by rfl) (by rfl) (by rfl) (by rfl) (fun b41 => ?_)
     refine r_appendRow 2 0 rfl rfl rfl rfl rfl (by rfl) (by rfl) rfl (by unfold maxLen; omega) (by omega) (fun v' hv' => ?_)
     refine r_rowForm 2 rfl ?_
     rintro ⟨ya, ym, yc, rfl⟩
     refine r_drop (own' := [_, _, _, _]) (.cons _ (.cons _ (List.Sublist.refl _))) ?_
     refine r_fieldAddr rfl rfl <| r_store1 1 rfl rfl rfl rfl rfl rfl <| r_nn <| r_sr <| r_ev rfl rfl ?_
     refine r_callL 3 rfl rfl rfl (Skip5_spec g3 l hb lv hs3 b s6 hok6 [124]) ?_
     rintro v g4 r' ⟨rfl, rfl, rfl⟩ _
     cases s6 with
     | bad j' p' =>
      obtain ⟨h1, h2⟩ := m4
      refine r_ev rfl rfl <| r_nn <| r_cond_true rfl <| r_exit <| r_in_exit_other rfl <| r_then_exit <| r_in_exit <| r_then_normal ?_
      refine r_publishRow (fun g5 hg5 ha5 => ?_)
      exact hK (.bad j' p', acc ++ [⟨posOf l j, cn, fs⟩], .slice ya ym yc, g5) _ ⟨Ghost.le_trans k1 (Ghost.le_trans m1 hg5), ⟨_, by rw [List.length_append]; exact ha5, cns_mono hg5 hsn⟩, h1, h2⟩ ⟨rfl, rfl, rfl, trivial⟩
     | good k =>
      obtain ⟨h1, h1', h2⟩ := m4
      have hp : isAt l k [124] = markAt l k [124] := isAt_mark hkw (by decide) k
      rw [show RS.isIs l [124] (.good k) = markAt l k [124] from hp]
      unfold consStep at h2
      cases hk : markAt l k [124] with
      | true =>
       have hlt := tokAt_lt hk
       rw [hk] at h2
       simp only [if_true] at h2
       rw [(skip_yes (hp.trans hk)).1]
       refine r_ev rfl rfl <| r_nn <| r_cond_false rfl <| r_skip <| r_in_normal <| r_then_normal ?_
       refine r_again (.good (k + 1), acc ++ [⟨posOf l j, cn, fs⟩], .slice ya ym yc, _, g4) ⟨Ghost.le_trans k1 m1, ⟨_, _, _, rfl⟩, hsn, ⟨hlt, by simp only [List.length_append, List.length_cons, List.length_nil]; omega, h2⟩, by simp only [List.length_append, List.length_cons, List.length_nil]; omega⟩ (by simp only [RS.left]; omega) ⟨rfl, rfl, rfl, trivial⟩ rfl ?_
       simp [repN]
      | false =>
       rw [hk] at h2
       simp only [Bool.false_eq_true, if_false] at h2
       rw [(skip_no (hp.trans hk)).1]
       refine r_ev rfl rfl <| r_nn <| r_cond_true rfl <| r_exit <| r_in_exit_other rfl <| r_then_exit <| r_in_exit <| r_then_normal ?_
       refine r_publishRow (fun g5 hg5 ha5 => ?_)
       exact hK (.good k, acc ++ [⟨posOf l j, cn, fs⟩], .slice ya ym yc, g5) _ ⟨Ghost.le_trans k1 (Ghost.le_trans m1 hg5), ⟨_, by rw [List.length_append]; exact ha5, cns_mono hg5 hsn⟩, h1, h2⟩ ⟨rfl, rfl, rfl, trivial⟩
    ·intro K2 hK2
     refine r_block ?_
     refine r_nilRow 49 5 ?_
     refine r_loop (ι := RS × List Ty × Value × List Value × Ghost) (fun p => [(0, ptr b 0), (2, ptr b2 0), (3, ptr b3 0), (4, ptr b4 0)]) (fun p => p.2.2.2.2)
      (fun p => [.row 49 5 p.2.2.1 p.2.1.length p.2.2.2.1, .blk b4 98 [.int .i64 (posOf l j), str cn, p.2.2.1], .row 98 3 (.slice ca cm cc) acc.length xc, .blk b3 86 [.int .i64 (posOf l i), str (s1.text l 2), .slice va vm vc, .slice ca cm cc], .blk b2 86 [.int .i64 0, str [], .slice none 0 0, .slice none 0 0], rdB b lv p.1])
      (fun p => Ghost.le g2' p.2.2.2.2 ∧ (∃ a m c, p.2.2.1 = .slice a m c) ∧ TysAt p.2.2.2.2 p.2.1 p.2.2.2.1 ∧ FldS l R acc (posOf l j) cn acc.length p.2.1 p.1 ∧ p.2.1.length ≤ l.length ∧ (∀ k, p.1 = .good k → j < k))
      (fun p => p.1.left l) (s5, [], .slice none 0 0, [], g2') ⟨Ghost.le_refl _, ⟨_, _, _, rfl⟩, tysNil _, hfs, by simp, fun k hk => by have := hleft5 k hk; omega⟩ ⟨rfl, rfl, rfl, rfl, trivial⟩ rfl rfl ?_
     rintro ⟨s6, fs, sf, xf, g3⟩ ⟨m1, ⟨fa, fm, fc, m2⟩, m3, m4, m5, m6⟩
     simp only at m1 m2 m3 m4 m5 m6
     subst m2
     have hs3 := hs2.mono m1
     show Run E _ [(0, ptr b 0), (2, ptr b2 0), (3, ptr b3 0), (4, ptr b4 0)] g3 [.row 49 5 (.slice fa fm fc) fs.length xf, .blk b4 98 [.int .i64 (posOf l j), str cn, .slice fa fm fc], .row 98 3 (.slice ca cm cc) acc.length xc, .blk b3 86 [.int .i64 (posOf l i), str (s1.text l 2), .slice va vm vc, .slice ca cm cc], .blk b2 86 [.int .i64 0, str [], .slice none 0 0, .slice none 0 0], rdB b lv s6] _
     cases s6 with
     | bad j' p' =>
      obtain ⟨h1, h2⟩ := m4
      refine r_seq <| r_sr <| r_ev rfl rfl ?_
      refine r_callO 5 rfl rfl rfl (Atoms5_spec g3 l lv hs3 b (.bad j' p')) ?_
      refine r_nn <| r_cond_false rfl <| r_exit <| r_then_exit <| r_then_exit <| r_in_exit <| r_then_normal ?_
      refine r_publishRow (fun g4 hg4 ha4 => ?_)
      exact hK2 (.bad j' p', fs, .slice fa fm fc, g4) _ ⟨Ghost.le_trans m1 hg4, ⟨xf, ha4, m3.mono hg4⟩, h1, h2⟩ ⟨rfl, rfl, rfl, rfl, trivial⟩
     | good k =>
      obtain ⟨h1, h1', h2⟩ := m4
      have hjk := m6 k rfl
      rw [tread_args] at h2
      refine r_seq <| r_sr <| r_ev rfl rfl ?_
      refine r_callO 5 rfl rfl rfl (Atoms5_spec g3 l lv hs3 b (.good k)) ?_
      rw [starts_rs hkw k]
      cases hst : startsAt l k with
      | false =>
       rw [hst] at h2
       simp only [Bool.false_eq_true, if_false] at h2
       refine r_nn <| r_cond_false rfl <| r_exit <| r_then_exit <| r_then_exit <| r_in_exit <| r_then_normal ?_
       refine r_publishRow (fun g4 hg4 ha4 => ?_)
       exact hK2 (.good k, fs, .slice fa fm fc, g4) _ ⟨Ghost.le_trans m1 hg4, ⟨xf, ha4, m3.mono hg4⟩, h1, hjk, h2⟩ ⟨rfl, rfl, rfl, rfl, trivial⟩
      | true =>
       rw [hst] at h2
       simp only [if_true] at h2
       refine r_nn <| r_cond_true rfl <| r_skip <| r_then_normal <| r_block ?_
       refine m_begin 6 [5, 0] mixed (by kernel_rfl) (fun hG => ?_)
       refine m_takeXA 0 rfl (by kernel_rfl) rfl hG ?_; refine ⟨_, (val_fieldAddr rfl), ?_⟩; refine m_takeXA 1 rfl (by kernel_rfl) rfl hG ?_; refine ⟨_, (val_loadB1 0 rfl rfl rfl), ?_⟩; refine m_takeXA 2 rfl (by kernel_rfl) rfl hG ?_; refine ⟨_, (val_ev rfl), ?_⟩
       refine m_one 3 (by kernel_rfl) rfl rfl ?_
       refine r_callL 5 rfl rfl rfl (RAtom5_spec hb hkw g3 lv b k hs3 h1) ?_
       rintro w g4 r' hw hle4
       have hat : ∃ (x : Ty) (s7 : RS), TyV g4 w x ∧ r' = rdB b lv s7 ∧ FldS l R acc (posOf l j) cn acc.length (fs ++ [x]) s7 ∧ (∀ k', s7 = .good k' → k < k') := by
        cases hq : tread l .atom k with
        | error p =>
         rw [hq] at hw h2
         obtain ⟨⟨x, hx⟩, j', hj', rfl⟩ := hw
         exact ⟨x, .bad j' p, hx, rfl, ⟨hj', h2⟩, fun k' h => by cases h⟩
        | ok q =>
         obtain ⟨x, k'⟩ := q
         rw [hq] at hw h2
         obtain ⟨hx, rfl, h3, h4⟩ := hw
         simp only at h2
         rw [if_pos h3] at h2
         exact ⟨x, .good k', hx, rfl, ⟨h4, by simp only [List.length_append, List.length_cons, List.length_nil]; omega, h2⟩, fun k'' h => by cases h; exact h3⟩
       obtain ⟨x, s7, hx, rfl, hf7, hk7⟩ := hat
       obtain ⟨a2, m2', c2, rfl, ht2⟩ := hx.cells5
       refine r_nn ?_
       refine h_keptA hG ?_
       refine m_one 4 (by kernel_rfl) rfl rfl ?_
       refine r_buildSlice rfl rfl (by rfl) (by rfl) (by rfl) (by rfl) (by rfl) (fun b41 => ?_)
       refine r_nn ?_
       refine h_keptA hG ?_
       refine m_one 5 (by kernel_rfl) rfl rfl ?_
       refine r_appendRow 1 0 rfl rfl rfl rfl rfl (by rfl) (by rfl) rfl (by unfold maxLen; omega) (by omega) (fun v' hv' => ?_)
       refine r_rowForm 1 rfl ?_
       rintro ⟨ya, ym, yc, rfl⟩
       refine r_nn ?_
       refine h_keptA hG ?_
       refine m_done (by kernel_rfl) ?_
       refine r_drop (own' := [_, _, _, _, _, _]) (.cons _ (List.Sublist.refl _)) ?_
       refine r_fieldAddr rfl rfl <| r_store1 1 rfl rfl rfl rfl rfl rfl <| r_nil <| r_in_normal <| r_then_normal ?_
       refine r_again (s7, fs ++ [x], .slice ya ym yc, xf ++ tyCells x (.slice a2 m2' c2), g4) ⟨Ghost.le_trans m1 hle4, ⟨_, _, _, rfl⟩, TysAt.snoc ht2 (m3.mono hle4), hf7, ?_, fun k' h => Nat.lt_trans hjk (hk7 k' h)⟩ ?_ ⟨rfl, rfl, rfl, rfl, trivial⟩ rfl ?_
       ·simp only [List.length_append, List.length_cons, List.length_nil]; omega
       ·cases s7 with
        | bad j' p => simp only [RS.left]; omega
        | good k' =>
         have := hk7 k' rfl
         have h9 : k' ≤ l.length := hf7.1
         simp only [RS.left]; omega
       ·simp [tyCells, repN]
 ·intro K hK
  refine r_block ?_
  refine r_nilRow 9 1 ?_
  refine r_loop (ι := RS × List Bytes × Value) (fun p => [(0, ptr b 0), (2, ptr b2 0), (3, ptr b3 0)]) (fun _ => g0)
   (fun p => [.row 9 1 p.2.2 p.2.1.length (p.2.1.map str), .blk b3 86 [.int .i64 (posOf l i), str (s1.text l 2), p.2.2, .slice none 0 0], .blk b2 86 [.int .i64 0, str [], .slice none 0 0, .slice none 0 0], rdB b lv p.1])
   (fun p => (∃ a m c, p.2.2 = .slice a m c) ∧ VarsR l (s1.word l 2) p.1 p.2.1) (fun p => p.1.left l) (s1.word l 2, [], .slice none 0 0) ⟨⟨_, _, _, rfl⟩, VarsR.start hok1⟩ ⟨rfl, rfl, rfl, trivial⟩ rfl rfl ?_
  rintro ⟨s3, vs, vv⟩ ⟨⟨va, vm, vc, q1⟩, q2⟩
  simp only at q1 q2
  subst q1
  have hok3 : s3.ok l := q2.ok hok1
  have hvl := q2.len hok1
  show Run E _ [(0, ptr b 0), (2, ptr b2 0), (3, ptr b3 0)] g0 [.row 9 1 (.slice va vm vc) vs.length (vs.map str), .blk b3 86 [.int .i64 (posOf l i), str (s1.text l 2), .slice va vm vc, .slice none 0 0], .blk b2 86 [.int .i64 0, str [], .slice none 0 0, .slice none 0 0], rdB b lv s3] _
  refine r_seq <| r_sr <| r_ev rfl rfl ?_
  refine r_callO 3 rfl rfl rfl (Kind5_spec g0 l lv hs b s3 1) ?_
  cases hk : s3.kindIs l 1 with
  | false =>
   refine r_nn <| r_cond_false rfl <| r_exit <| r_then_exit <| r_then_exit <| r_in_exit <| r_then_normal ?_
   exact hK (s3, vs, .slice va vm vc) _ ⟨⟨_, _, _, rfl⟩, q2, hk⟩ ⟨rfl, rfl, rfl, trivial⟩
  | true =>
   have hnx := q2.next hk
   have hleft : (s3.word l 1).left l < s3.left l := by
    cases s3 with
    | bad j p => cases hk
    | good j =>
     obtain ⟨_, e, hlt⟩ := nameAt_yes (show kindAt l j 1 = true from hk)
     rw [e]
     simp only [RS.left]; omega
   refine r_nn <| r_cond_true rfl <| r_skip <| r_then_normal <| r_block ?_
   refine m_begin 6 [3, 0] mixed (by kernel_rfl) (fun hG => ?_)
   refine m_takeXA 0 rfl (by kernel_rfl) rfl hG ?_; refine ⟨_, (val_fieldAddr rfl), ?_⟩; refine m_takeXA 1 rfl (by kernel_rfl) rfl hG ?_; refine ⟨_, (val_loadB1 0 rfl rfl rfl), ?_⟩; refine m_takeXA 2 rfl (by kernel_rfl) rfl hG ?_; refine ⟨_, (val_ev rfl), ?_⟩
   refine m_one 3 (by kernel_rfl) rfl rfl ?_
   refine r_callL 3 rfl rfl rfl (Word5_spec g0 l hb lv hs b s3 hok3 1) ?_
   rintro v g4 r' ⟨rfl, rfl, rfl⟩ _
   refine r_nn ?_
   refine h_keptA hG ?_
   refine m_one 4 (by kernel_rfl) rfl rfl ?_
   refine r_buildSlice rfl rfl (by rfl) (by rfl) (by rfl) (by rfl) (by rfl) (fun b41 => ?_)
   refine r_nn ?_
   refine h_keptA hG ?_
   refine m_one 5 (by kernel_rfl) rfl rfl ?_
   refine r_appendRow 1 0 rfl rfl rfl rfl rfl (by rfl) (by rfl) rfl (by unfold maxLen; omega) (by omega) (fun v' hv' => ?_)
   refine r_rowForm 1 rfl ?_
   rintro ⟨ya, ym, yc, rfl⟩
   refine r_nn ?_
   refine h_keptA hG ?_
   refine m_done (by kernel_rfl) ?_
   refine r_fieldAddr rfl rfl <| r_store1 2 rfl rfl rfl rfl rfl rfl <| r_nil <| r_in_normal <| r_then_normal ?_
   refine r_drop (own' := [_, _, _, _]) (.cons _ (List.Sublist.refl _)) ?_
   refine r_again (s3.word l 1, vs ++ [s3.text l 1], .slice ya ym yc) ⟨⟨_, _, _, rfl⟩, hnx⟩ hleft ⟨rfl, rfl, rfl, trivial⟩ rfl ?_
   simp [repN]
end Go.Proofs.YtpjehhnaojjanaaGreatDoor
-- sum 0b0bae712910a322


/- The walks of typedholesref7.Parse at a text of declarations, and of typedholesmake.all. -/
import Derived.Test.YtcapgcohhgjngaaGreatDoorK13
import Derived.Test.YtcapgcohhgjngaaGreatDoorK7
import Derived.Test.YtcapgcohhgjngaaGreatDoorK10
namespace Go.Th
/-- The declarations from an index to the end. -/
def datasGo (l : List Tok) : Nat → List Da → Nat → Option (List Da)
  | 0, ds, i => if l.length ≤ i then some ds else none
  | f + 1, ds, i => if i < l.length then (if wordAt l i dataB then match declR l i with
      | .ok (d, j) => datasGo l f (ds ++ [d]) j
      | .error _ => none
    else none) else some ds
theorem datasGo_zero {l : List Tok} {ds D : List Da} {i : Nat} (h : datasGo l 0 ds i = some D) : ¬ i < l.length ∧ ds = D := by
  unfold datasGo at h
  split at h
  · cases h; exact ⟨by omega, rfl⟩
  · cases h
theorem datasGo_end {l : List Tok} {f : Nat} {ds D : List Da} {i : Nat} (h : datasGo l f ds i = some D) (hi : ¬ i < l.length) : ds = D := by
  cases f with
  | zero => exact (datasGo_zero h).2
  | succ f => simp only [datasGo] at h; rw [if_neg hi] at h; cases h; rfl
theorem datasGo_step {l : List Tok} {f : Nat} {ds D : List Da} {i : Nat} (h : datasGo l f ds i = some D) (hi : i < l.length) : wordAt l i dataB = true ∧ ∃ d j f', f = f' + 1 ∧ declR l i = .ok (d, j) ∧ datasGo l f' (ds ++ [d]) j = some D := by
  cases f with
  | zero => exact absurd hi (datasGo_zero h).1
  | succ f =>
    simp only [datasGo] at h
    rw [if_pos hi] at h
    split at h
    · rename_i hw
      split at h
      · rename_i d j hd
        exact ⟨hw, d, j, f, rfl, hd, h⟩
      · cases h
    · cases h
theorem datasGo_len {l : List Tok} : ∀ {f : Nat} {ds D : List Da} {i : Nat}, datasGo l f ds i = some D → ds.length ≤ D.length
  | 0, ds, D, i, h => by rw [(datasGo_zero h).2]; exact Nat.le_refl _
  | f + 1, ds, D, i, h => by
    by_cases hi : i < l.length
    · obtain ⟨_, d, j, f', hf, _, h2⟩ := datasGo_step h hi
      cases hf
      have := datasGo_len h2
      simp only [List.length_append, List.length_cons, List.length_nil] at this
      omega
    · rw [datasGo_end h hi]; exact Nat.le_refl _
def allTxt : Bytes := [100, 97, 116, 97, 32, 66, 111, 111, 108, 32, 61, 32, 84, 114, 117, 101, 32, 124, 32, 70, 97, 108, 115, 101, 59, 32, 100, 97, 116, 97, 32, 79, 112, 116, 105, 111, 110, 32, 97, 32, 61, 32, 78, 111, 110, 101, 32, 124, 32, 83, 111, 109, 101, 32, 97, 59, 32, 100, 97, 116, 97, 32, 76, 105, 115, 116, 32, 97, 32, 61, 32, 78, 105, 108, 32, 124, 32, 67, 111, 110, 115, 32, 97, 32, 40, 76, 105, 115, 116, 32, 97, 41, 59, 100, 97, 116, 97, 32, 80, 97, 105, 114, 32, 97, 32, 98, 32, 61, 32, 80, 97, 105, 114, 32, 97, 32, 98, 59, 32, 100, 97, 116, 97, 32, 78, 97, 116, 32, 61, 32, 90, 101, 114, 111, 32, 124, 32, 83, 117, 99, 99, 32, 78, 97, 116, 59, 32, 100, 97, 116, 97, 32, 70, 117, 110, 32, 97, 32, 98, 32, 61, 32, 70, 117, 110, 32, 40, 97, 32, 45, 62, 32, 98, 41, 59, 32, 100, 97, 116, 97, 32, 84, 119, 111, 32, 97, 32, 61, 32, 66, 111, 116, 104, 32, 97, 32, 97, 32, 124, 32, 79, 110, 101, 32, 40, 79, 112, 116, 105, 111, 110, 32, 97, 41, 59]
def allD : List Da := (datasGo (toksOf allTxt) 100 [] 0).getD []
end Go.Th
namespace Go.Proofs.YtcapgcohhgjngaaGreatDoor
open Go Go.Eng Go.Th Go.Proofs
set_option maxRecDepth 10000
set_option maxHeartbeats 4000000
attribute [local irreducible] wpList Code.wp Run bodyPost Go.Eng.Ends Exit.then Exit.inBlock Again Wq Kq
theorem toksOf_TB7 (s : Bytes) : TB (toksOf s) := by
  obtain ⟨h1, h2⟩ := toksOf_facts s
  refine ⟨by omega, fun t ht => ?_⟩
  obtain ⟨a1, a2, a3, a4⟩ := h2 t ht
  exact ⟨by omega, by omega, by omega⟩
theorem toksOf_KW7 (s : Bytes) : KW (toksOf s) := fun t ht => ((toksOf_facts s).2 t ht).1
theorem das_snoc {g : Ghost} {l : List Da} {xs cs : List Value} {d : Da} (h : AllAt (DaAt g) l xs) (h1 : DaAt g d cs) : AllAt (DaAt g) (l ++ [d]) (xs ++ cs) := AllAt.snoc h1 h
theorem Parse7_datas (g : Ghost) (s : Bytes) (hs : s.length ≤ 4000) {l : List Tok} (hsc : scan s = .ok l) {f : Nat} {D : List Da} (hD : datasGo l f [] 0 = some D) (hn : D.length ≤ 8) (hok : ∀ d ∈ D, okD d) :
    SpecN Tryz.prog 25 [str s] g fun v g' => ∃ pv, v = .tuple #[pv, .agg #[.int .i64 0, .int .i64 0]] ∧ PgV g' pv ⟨D, []⟩ := by
  have hl : toksOf s = l := by unfold toksOf; rw [hsc]
  have hb : TB l := hl ▸ toksOf_TB7 s
  have hkw : KW l := hl ▸ toksOf_KW7 s
  have hb1 := hb.1
  refine spec_of_run Tryz.func25 rfl Tryz.ntmps25 rfl fun E hE => ?_
  refine r_sr ?_
  refine r_alloc rfl (fun b2 => ?_)
  refine r_alloc rfl (fun b3 => ?_)
  refine r_nn ?_; refine r_sr ?_; refine r_ev rfl rfl ?_
  refine r_call rfl rfl (refScan_spec g s (by omega)) ?_
  rintro v g0 own' ⟨rfl, hp⟩ _
  rw [hsc] at hp
  obtain ⟨sv, rfl, rfl⟩ := hp
  refine r_publishRow (fun g1 hg1 h1 => ?_)
  have hts : ToksAt g1 sv l := h1
  obtain ⟨sa, sc, rfl⟩ := slForm2 h1
  refine r_ev rfl rfl ?_; refine r_ev rfl rfl ?_; refine r_ev rfl rfl ?_
  refine r_alloc rfl (fun b5 => ?_)
  refine r_ev rfl rfl ?_; refine r_storeA 0 rfl rfl rfl rfl (by rfl) (by repeat' (first | exact rfl | assumption | refine all_cons ?_ ?_)) rfl ?_; refine r_nn ?_; refine r_seq ?_; refine r_sr ?_; refine r_fieldAddr rfl rfl ?_; refine r_loadB1 0 rfl rfl rfl rfl ?_; refine r_ev rfl rfl ?_; refine r_nn ?_; refine r_cond_false rfl ?_; refine r_skip ?_; refine r_then_normal ?_; refine r_sr ?_
  refine r_alloc rfl (fun b6 => ?_)
  refine r_nn ?_; refine r_sr ?_; refine r_ev rfl rfl ?_
  refine r_call' (lent := []) (kept := _) rfl rfl (List.Perm.refl _) (New5_spec g1 l _ hts 0) ?_
  rintro w g1' own' ⟨rfl, b, rfl, rfl⟩ _
  have hi0 : idxOf l.length 0 = 0 := by unfold idxOf; rw [if_neg (by omega)]; simp
  rw [hi0]
  refine r_ev rfl rfl ?_; refine r_nn ?_; refine r_seq ?_; refine r_block ?_
  refine r_nilRow 80 4 ?_
  refine r_loop (ι := Nat × Nat × List Da × Value × List Value × Ghost) (fun p => [(4, .slice sa l.length sc), (7, ptr b 0), (2, ptr b2 0), (3, ptr b3 0), (5, ptr b5 0), (6, ptr b6 0)]) (fun p => p.2.2.2.2.2)
    (fun p => [.row 80 4 p.2.2.2.1 p.2.2.1.length p.2.2.2.2.1, rdB b (.slice sa l.length sc) (.good p.2.1), .blk b6 55 [p.2.2.2.1, .slice none 0 0], .blk b5 43 [.int .i64 0, .int .i64 0], .blk b3 43 [.int .i64 0, .int .i64 0], .blk b2 55 [.slice none 0 0, .slice none 0 0]])
    (fun p => Ghost.le g1' p.2.2.2.2.2 ∧ (∃ a m c, p.2.2.2.1 = .slice a m c) ∧ p.2.1 ≤ l.length ∧ AllAt (DaAt p.2.2.2.2.2) p.2.2.1 p.2.2.2.2.1 ∧ datasGo l p.1 p.2.2.1 p.2.1 = some D) (fun p => p.1) (f, 0, [], .slice none 0 0, [], g1')
    ⟨Ghost.le_refl _, ⟨_, _, _, rfl⟩, Nat.zero_le _, rfl, hD⟩ ⟨rfl, rfl, rfl, rfl, rfl, rfl, trivial⟩ rfl rfl ?_
  rintro ⟨f1, i, ds, sd, xd, g2⟩ ⟨k1, ⟨da, dm, dc, k2⟩, k3, k4, k5⟩
  simp only at k1 k2 k3 k4 k5
  subst k2
  have hts2 := hts.mono k1
  have hdl := datasGo_len k5
  show Run E _ [(4, .slice sa l.length sc), (7, ptr b 0), (2, ptr b2 0), (3, ptr b3 0), (5, ptr b5 0), (6, ptr b6 0)] g2 [.row 80 4 (.slice da dm dc) ds.length xd, rdB b (.slice sa l.length sc) (.good i), .blk b6 55 [.slice da dm dc, .slice none 0 0], .blk b5 43 [.int .i64 0, .int .i64 0], .blk b3 43 [.int .i64 0, .int .i64 0], .blk b2 55 [.slice none 0 0, .slice none 0 0]] _
  refine r_seq ?_; refine r_sr ?_; refine r_ev rfl rfl ?_; refine r_ev rfl rfl ?_; refine r_fieldAddr rfl rfl ?_; refine r_loadB1 1 rfl rfl rfl rfl ?_; refine r_ev rfl rfl ?_; refine r_ev rfl rfl ?_; refine r_tev rfl rfl rfl ?_; refine r_tev rfl rfl rfl ?_; refine r_take rfl ?_; refine r_fieldAddr rfl rfl ?_; refine r_take rfl ?_; refine r_loadB1 1 rfl rfl rfl rfl ?_; refine r_tev rfl rfl rfl ?_; refine r_take rfl ?_; refine r_len_sl rfl rfl ?_; refine r_tev rfl rfl rfl ?_; refine r_ev rfl rfl ?_; refine r_nn ?_
  refine r_cond rfl (fun hlt => ?_) (fun hlt => ?_)
  · have hlt' : i < l.length := by omega
    obtain ⟨hw, d, j, f2, hf, hd, k6⟩ := datasGo_step k5 hlt'
    subst hf
    have hp : isAt l i dataB = wordAt l i dataB := isAt_word hkw (by decide) i
    have hdb := declR_bnd hd
    have hdl2 := datasGo_len k6
    simp only [List.length_append, List.length_cons, List.length_nil] at hdl2
    refine r_skip ?_; refine r_then_normal ?_; refine r_block ?_; refine r_sr ?_; refine r_ev rfl rfl ?_
    refine r_callO 1 rfl rfl rfl (Is5_spec g2 l _ hts2 b (.good i) dataB) ?_
    rw [show RS.isIs l dataB (.good i) = true from hp.trans hw]
    refine r_nn ?_; refine r_cond_true rfl ?_
    refine m_begin 6 [1, 0] mixed (by kernel_rfl) (fun hG => ?_)
    refine m_takeX 0 rfl (by kernel_rfl) rfl hG (by first | exact Ghost.le_refl _ | assumption) (by repeat' (first | exact List.nil_sublist _ | refine List.Sublist.cons_cons _ ?_ | refine List.Sublist.cons _ ?_)) ?_; refine ⟨_, (val_fieldAddr rfl), ?_⟩; refine m_takeX 1 rfl (by kernel_rfl) rfl hG (by first | exact Ghost.le_refl _ | assumption) (by repeat' (first | exact List.nil_sublist _ | refine List.Sublist.cons_cons _ ?_ | refine List.Sublist.cons _ ?_)) ?_; refine ⟨_, (val_loadB1 0 rfl rfl rfl), ?_⟩; refine m_takeX 2 rfl (by kernel_rfl) rfl hG (by first | exact Ghost.le_refl _ | assumption) (by repeat' (first | exact List.nil_sublist _ | refine List.Sublist.cons_cons _ ?_ | refine List.Sublist.cons _ ?_)) ?_; refine ⟨_, (val_ev rfl), ?_⟩
    refine m_one 3 (by kernel_rfl) rfl rfl ?_
    refine r_callL 1 rfl rfl rfl (decl7_spec hb hkw g2 _ b i hts2 (by omega)) ?_
    rintro w g3 r' hw3 hle3
    rw [hd] at hw3
    obtain ⟨⟨cs, rfl, hda⟩, rfl, _, _⟩ := hw3
    obtain ⟨a1, c1, a2, c2, xc, rfl, _⟩ := hda.form
    refine r_nn ?_
    refine h_kept hG (by first | exact Ghost.le_refl _ | assumption) (by repeat' (first | exact List.nil_sublist _ | refine List.Sublist.cons_cons _ ?_ | refine List.Sublist.cons _ ?_)) ?_
    refine m_one 4 (by kernel_rfl) rfl rfl ?_
    refine r_buildSlice rfl rfl (by rfl) (by rfl) (by rfl) (by rfl) (by rfl) (fun b40 => ?_)
    refine r_nn ?_
    refine h_kept hG (by first | exact Ghost.le_refl _ | assumption) (by repeat' (first | exact List.nil_sublist _ | refine List.Sublist.cons_cons _ ?_ | refine List.Sublist.cons _ ?_)) ?_
    refine m_one 5 (by kernel_rfl) rfl rfl ?_
    refine r_appendRow 1 0 rfl rfl rfl rfl rfl (by rfl) (by rfl) rfl (by unfold maxLen; omega) (by omega) (fun v' hv' => ?_)
    refine r_rowForm 1 rfl ?_
    rintro ⟨ya, ym, yc, rfl⟩
    refine r_nn ?_
    refine h_kept hG (by first | exact Ghost.le_refl _ | assumption) (by repeat' (first | exact List.nil_sublist _ | refine List.Sublist.cons_cons _ ?_ | refine List.Sublist.cons _ ?_)) ?_
    refine m_done (by kernel_rfl) ?_
    refine r_drop (own' := [_, _, _, _, _, _]) (.cons _ (List.Sublist.refl _)) ?_
    refine r_fieldAddr rfl rfl ?_; refine r_store1 2 rfl rfl rfl rfl rfl rfl ?_; refine r_nil ?_; refine r_in_normal ?_; refine r_then_normal ?_
    refine r_again (f2, j, ds ++ [d], .slice ya ym yc, _, g3) ⟨Ghost.le_trans k1 hle3, ⟨_, _, _, rfl⟩, by simp only; omega, das_snoc (das_mono hle3 k4) hda, k6⟩ (Nat.lt_succ_self _) ⟨rfl, rfl, rfl, rfl, rfl, rfl, trivial⟩ rfl ?_
    simp [repN]
  · have hds := datasGo_end k5 (by omega)
    subst hds
    refine r_publishRow (fun g3 hg3 hs3 => ?_)
    have hV : PgV g3 (.agg #[.slice da dm dc, .slice none 0 0]) ⟨ds, []⟩ := ⟨_, rfl, _, xd, _, [], rfl, hs3, das_mono hg3 k4, slNil g3 20, rfl⟩
    refine r_exit ?_; refine r_then_exit ?_; refine r_then_exit ?_; refine r_in_exit ?_; refine r_then_normal ?_; refine r_seq ?_; refine r_sr ?_; refine r_ev rfl rfl ?_; refine r_ev rfl rfl ?_; refine r_fieldAddr rfl rfl ?_; refine r_loadB1 0 rfl rfl rfl rfl ?_; refine r_nn ?_; refine r_cond_false rfl ?_; refine r_skip ?_; refine r_then_normal ?_; refine r_seq ?_; refine r_sr ?_; refine r_loadB 1 rfl rfl rfl (by rfl) ?_
    refine r_callP rfl rfl (Deep7_datas g3 ⟨ds, []⟩ _ hV rfl hn hok) ?_
    refine r_storeA 2 rfl rfl rfl rfl (by rfl) (by repeat' (first | exact rfl | assumption | refine all_cons ?_ ?_)) rfl ?_; refine r_nn ?_; refine r_sr ?_; refine r_fieldAddr rfl rfl ?_; refine r_loadB1 2 rfl rfl rfl rfl ?_; refine r_ev rfl rfl ?_; refine r_nn ?_; refine r_cond_false rfl ?_; refine r_skip ?_; refine r_then_normal ?_; refine r_seq ?_
    -- STOPB
    refine h_beginE [4, 3] mixed (fun hG => ?_)
    refine h_takeX 0 rfl (by kernel_rfl) rfl hG (by first | exact Ghost.le_refl _ | assumption) (by repeat' (first | exact List.nil_sublist _ | refine List.Sublist.cons_cons _ ?_ | refine List.Sublist.cons _ ?_)) ?_; refine ⟨_, (val_loadB 1 rfl rfl (by rfl)), ?_⟩; refine h_takeX 1 rfl (by kernel_rfl) rfl hG (by first | exact Ghost.le_refl _ | assumption) (by repeat' (first | exact List.nil_sublist _ | refine List.Sublist.cons_cons _ ?_ | refine List.Sublist.cons _ ?_)) ?_; refine ⟨_, (val_loadB 2 rfl rfl (by rfl)), ?_⟩
    refine h_one 2 (by kernel_rfl) rfl ?_
    refine r_storeA 4 rfl rfl rfl rfl (by rfl) (by repeat' (first | exact rfl | assumption | refine all_cons ?_ ?_)) rfl ?_; refine r_nn ?_
    refine h_kept hG (by first | exact Ghost.le_refl _ | assumption) (by repeat' (first | exact List.nil_sublist _ | refine List.Sublist.cons_cons _ ?_ | refine List.Sublist.cons _ ?_)) ?_
    refine h_one 3 (by kernel_rfl) rfl ?_
    refine r_storeA 3 rfl rfl rfl rfl (by rfl) (by repeat' (first | exact rfl | assumption | refine all_cons ?_ ?_)) rfl ?_; refine r_nn ?_
    refine h_kept hG (by first | exact Ghost.le_refl _ | assumption) (by repeat' (first | exact List.nil_sublist _ | refine List.Sublist.cons_cons _ ?_ | refine List.Sublist.cons _ ?_)) ?_
    refine h_done (by kernel_rfl) ?_
    refine r_then_normal ?_; refine r_retc ?_
    exact r_ret2 [] rfl (res_blk 4 rfl rfl (by rfl)) (res_blk 3 rfl rfl (by rfl)) (by simp) ⟨⟨_, rfl, hV⟩, rfl⟩
theorem allTxt_scan : scan allTxt = .ok (toksOf allTxt) := by kernel_rfl
theorem allD_go : datasGo (toksOf allTxt) 100 [] 0 = some allD := by kernel_rfl
theorem allD_len : allD.length = 7 := by kernel_rfl
def okDB (d : Da) : Bool := decide (d.params.length ≤ 4) && decide (d.cons.length ≤ 6) && d.cons.all fun c => decide (c.fields.length ≤ 4) && c.fields.all fun t => decide (depthT t ≤ 40)
theorem okD_of {d : Da} (h : okDB d = true) : okD d := by
  simp only [okDB, Bool.and_eq_true, decide_eq_true_eq, List.all_eq_true] at h
  exact ⟨h.1.1, h.1.2, fun c hc => ⟨(h.2 c hc).1, fun t ht => (h.2 c hc).2 t ht⟩⟩
theorem allD_ok : ∀ d ∈ allD, okD d := fun d hd => okD_of (List.all_eq_true.1 (show allD.all okDB = true by kernel_rfl) d hd)
theorem all7_spec (g : Ghost) : SpecN Tryz.prog 44 [] g fun v g' => ∃ xd, SlAt g' 4 v allD.length xd ∧ AllAt (DaAt g') allD xd := by
  refine spec_of_run Tryz.func44 rfl Tryz.ntmps44 rfl fun E hE => ?_
  refine r_sr ?_; refine r_ev rfl rfl ?_; refine r_nn ?_; refine r_sr ?_
  refine r_callN rfl rfl (Parse7_datas g allTxt (Nat.le_of_ble_eq_true (by kernel_rfl)) allTxt_scan allD_go (by rw [allD_len]; decide) allD_ok) ?_
  rintro w g1 ⟨pv, rfl, cs, rfl, sd, xd, sb, xb, rfl, h1, h2, h3, h4⟩ hle
  obtain ⟨da, dc, rfl⟩ := slForm2 h1
  obtain ⟨ba, bc, rfl⟩ := slForm2 h3
  refine r_ev rfl rfl ?_; refine r_ev rfl rfl ?_; refine r_ev rfl rfl ?_
  refine r_alloc rfl (fun b1 => ?_)
  refine r_alloc rfl (fun b2 => ?_)
  refine r_storeA 1 rfl rfl rfl rfl (by rfl) (by repeat' (first | exact rfl | assumption | refine all_cons ?_ ?_)) rfl ?_; refine r_storeA 0 rfl rfl rfl rfl (by rfl) (by repeat' (first | exact rfl | assumption | refine all_cons ?_ ?_)) rfl ?_; refine r_nn ?_; refine r_sr ?_; refine r_fieldAddr rfl rfl ?_; refine r_loadB1 1 rfl rfl rfl rfl ?_; refine r_ev rfl rfl ?_; refine r_nn ?_; refine r_retc ?_
  exact r_ret1 [] rfl rfl (by simp) ⟨⟨xd, h1, h2⟩, rfl⟩
end Go.Proofs.YtcapgcohhgjngaaGreatDoor
-- sum fa098664796f3794
/- The walks of typedholesmake: Datas, Next, Named, Few. -/
namespace Go.Eng
open Go Go.RowKit
/-- The bits in common. -/
def andI (p q : Int) : Int := IntKind.i64.wrap (((p % 18446744073709551616).toNat &&& (q % 18446744073709551616).toNat : Nat) : Int)
section
variable {P : Program} {E : Env} {n : Nat} {L : Slots} {g : Ghost} {own : List Res}
variable {d : Nat} {ty : TypeId} {pos : String} {after : Array Edge}
theorem val_and {x y : Operand} {T T' : TypeId} {p q : Int} (hx : ev L x = some (.int .i64 p)) (hy : ev L y = some (.int .i64 q)) :
    Val P E n L g own ty (.binOp .and T x y T') (.int .i64 (andI p q)) := fun a w dst pos after hF _ => by
  simp [execOp, hF.eval hx, hF.eval hy, eqGuard, binOp, Op.intBits, andI, IntKind.bits]
  rfl
theorem val_shr {x y : Operand} {T T' : TypeId} {K : IntKind} {p q : Int} (hx : ev L x = some (.int .i64 p)) (hy : ev L y = some (.int K q)) (hq : 0 ≤ q) :
    Val P E n L g own ty (.binOp .shr T x y T') (.int .i64 (p.fdiv (2 ^ min q.toNat 64))) := fun a w dst pos after hF _ => by
  have : ¬ q < 0 := by omega
  simp [execOp, hF.eval hx, hF.eval hy, eqGuard, binOp, Op.shift, this, IntKind.bits]
end
end Go.Eng
namespace Go.Proofs.YtcapgcohhgjngaaGreatDoor
open Go Go.Eng Go.Th Go.Proofs
set_option maxRecDepth 10000
set_option maxHeartbeats 4000000
attribute [local irreducible] wpList Code.wp Run bodyPost Go.Eng.Ends Exit.then Exit.inBlock Again Wq Kq
theorem Datas_spec (g : Ghost) (bits : Int) : SpecN Tryz.prog 12 [.int .i64 bits] g fun v g' => ∃ ds xd, SlAt g' 4 v ds.length xd ∧ AllAt (DaAt g') ds xd ∧ ds.length ≤ 8 ∧ ∀ d ∈ ds, d ∈ allD := by
  refine spec_of_run Tryz.func12 rfl Tryz.ntmps12 rfl fun E hE => ?_
  refine r_sr ?_; refine r_ev rfl rfl ?_; refine r_nn ?_; refine r_sr ?_
  refine r_callN rfl rfl (all7_spec g) ?_
  rintro w g1 ⟨xd, h1, h2⟩ hle
  rw [allD_len] at h1
  obtain ⟨b, off, cap, rfl, hx⟩ := h1.held (show 0 < 7 by omega)
  have hrd : ∀ (i : Nat) (h : i < 7), ∃ cs, DaAt g1 (allD[i]'(by rw [allD_len]; exact h)) cs ∧ ∀ own, Rd g1 own b (off + i * 4) cs := fun i h => all_rd (fun _ _ h => h.one.1) h2 hx (by rw [allD_len]; exact h)
  have hmem : ∀ (i : Nat) (h : i < 7), allD[i]'(by rw [allD_len]; exact h) ∈ allD := fun i h => List.getElem_mem _
  refine r_ev rfl rfl ?_; refine r_nn ?_
  refine r_sr ?_
  refine r_ev rfl rfl ?_; refine r_nn ?_
  refine r_nilRow 80 4 ?_
  refine r_cutG (ι := List Da × Value × List Value) (fun p => [(0, .int .i64 bits), (3, .slice (some ⟨b, off, none⟩) 7 cap), (4, p.2.1)]) (fun _ => g1)
    (fun p => [.row 80 4 p.2.1 p.1.length p.2.2]) (fun p => p.1.length ≤ 1 ∧ AllAt (DaAt g1) p.1 p.2.2 ∧ ∀ d ∈ p.1, d ∈ allD) ?_ ?_
  · rintro ⟨ds, v, xs⟩ ⟨k1, k2, k3⟩
    simp only at k1 k2 k3
    show Run E _ [(0, .int .i64 bits), (3, .slice (some ⟨b, off, none⟩) 7 cap), (4, v)] g1 [.row 80 4 v ds.length xs] _
    refine r_seq ?_; refine r_sr ?_; refine r_ev rfl rfl ?_; refine r_nn ?_; refine r_block ?_
    refine r_loop (ι := Nat × List Da × Value × List Value) (fun p => [(0, .int .i64 bits), (3, .slice (some ⟨b, off, none⟩) 7 cap), (4, p.2.2.1), (5, .int .i64 p.1)]) (fun _ => g1)
      (fun p => [.row 80 4 p.2.2.1 p.2.1.length p.2.2.2]) (fun p => p.1 ≤ 7 ∧ p.2.1.length ≤ 1 + p.1 ∧ AllAt (DaAt g1) p.2.1 p.2.2.2 ∧ ∀ d ∈ p.2.1, d ∈ allD) (fun p => 7 - p.1) (0, ds, v, xs) ⟨by simp, by simp only; omega, k2, k3⟩ ⟨rfl, rfl, rfl, rfl, trivial⟩ rfl rfl ?_
    rintro ⟨i, ds, v, xs⟩ ⟨k1, k2, k3, k4⟩
    simp only at k1 k2 k3 k4
    show Run E _ [(0, .int .i64 bits), (3, .slice (some ⟨b, off, none⟩) 7 cap), (4, v), (5, .int .i64 i)] g1 [.row 80 4 v ds.length xs] _
    refine r_seq ?_; refine r_sr ?_; refine r_ev rfl rfl ?_; refine r_ev rfl rfl ?_; refine r_len_sl rfl rfl ?_; refine r_ev rfl rfl ?_; refine r_nn ?_
    refine r_cond rfl (fun hlt => ?_) (fun hlt => ?_)
    · have hlt' : i < 7 := by omega
      obtain ⟨cs, e1, hr⟩ := hrd i hlt'
      have hm := hmem i hlt'
      obtain ⟨a1, c1, a2, c2, xc, rfl, _⟩ := e1.form
      refine r_skip ?_; refine r_then_normal ?_; refine r_seq ?_; refine r_block ?_; refine r_sr ?_; refine r_ev rfl rfl ?_; refine r_ev rfl rfl ?_; refine r_ev rfl rfl ?_
      refine r_gdec rfl rfl (fun h1i => ?_) (fun h1i => ?_)
      · refine r_tev rfl rfl rfl ?_; refine r_tev rfl rfl rfl ?_; refine r_take rfl ?_
        refine r_conv_int rfl rfl (by simp [IntKind.wrap, IntKind.bits, IntKind.signed]; omega) ?_
        refine r_take rfl ?_
        refine r_v rfl (val_shr (q := (i : Int)) rfl rfl (by omega)) ?_
        refine r_take rfl ?_
        refine r_v rfl (val_and rfl rfl) ?_
        refine r_tev rfl rfl rfl ?_; refine r_ev rfl rfl ?_; refine r_nn ?_
        refine r_cond rfl (fun hbit => ?_) (fun hbit => ?_)
        · refine r_region ?_; refine r_ev rfl rfl ?_; refine r_ev rfl rfl ?_; refine r_ev rfl rfl ?_; refine r_indexAddr rfl rfl rfl rfl (by omega) ?_
          refine r_load rfl rfl (hr _) rfl ?_
          refine r_buildSlice rfl rfl (by rfl) (by rfl) (by rfl) (by rfl) (by rfl) (fun b42 => ?_)
          refine r_appendRow 1 0 rfl rfl rfl rfl rfl (by rfl) (by rfl) rfl (by unfold maxLen; omega) (by omega) (fun v' _ => ?_)
          refine r_drop (own' := [_]) (.cons _ (List.Sublist.refl _)) ?_
          refine r_ev rfl rfl ?_; refine r_nil ?_; refine r_in_normal ?_; refine r_then_normal ?_; refine r_region ?_; refine r_ev rfl rfl ?_; refine r_add rfl rfl rfl (by omega) ?_; refine r_ev rfl rfl ?_; refine r_nn ?_
          refine r_again (i + 1, ds ++ [_], v', _) ⟨hlt', by simp only [List.length_append, List.length_cons, List.length_nil]; omega, das_snoc k3 e1, ?_⟩ (by simp only; omega) ⟨rfl, rfl, rfl, rfl, trivial⟩ rfl ?_
          · intro d hd
            rcases List.mem_append.1 hd with hd | hd
            · exact k4 d hd
            · rw [List.mem_singleton] at hd; subst hd; exact hm
          · simp [repN]
        · refine r_skip ?_; refine r_in_normal ?_; refine r_then_normal ?_; refine r_region ?_; refine r_ev rfl rfl ?_; refine r_add rfl rfl rfl (by omega) ?_; refine r_ev rfl rfl ?_; refine r_nn ?_
          exact r_again (i + 1, ds, v, xs) ⟨hlt', by simp only; omega, k3, k4⟩ (by simp only; omega) ⟨rfl, rfl, rfl, rfl, trivial⟩ rfl rfl
      · refine r_pass rfl rfl rfl ?_; refine r_pass rfl rfl rfl ?_; refine r_pass rfl rfl rfl ?_; refine r_pass rfl rfl rfl ?_; refine r_pass rfl rfl rfl ?_; refine r_pass rfl rfl rfl ?_; refine r_ev rfl rfl ?_; refine r_nn ?_; refine r_cond_false rfl ?_; refine r_skip ?_; refine r_in_normal ?_; refine r_then_normal ?_; refine r_region ?_; refine r_ev rfl rfl ?_; refine r_add rfl rfl rfl (by omega) ?_; refine r_ev rfl rfl ?_; refine r_nn ?_
        exact r_again (i + 1, ds, v, xs) ⟨hlt', by simp only; omega, k3, k4⟩ (by simp only; omega) ⟨rfl, rfl, rfl, rfl, trivial⟩ rfl rfl
    · refine r_publishRow (fun g2 hg2 hs2 => ?_)
      obtain ⟨va, vc, rfl⟩ := slForm2 hs2
      refine r_exit ?_; refine r_then_exit ?_; refine r_then_exit ?_; refine r_in_exit ?_; refine r_then_normal ?_; refine r_sr ?_; refine r_ev rfl rfl ?_; refine r_ev rfl rfl ?_; refine r_nn ?_; refine r_retc ?_
      exact r_ret1 [] rfl rfl (by simp) ⟨⟨ds, xs, hs2, das_mono hg2 k3, by omega, k4⟩, rfl⟩
  · intro K hK
    obtain ⟨cs, e1, hr⟩ := hrd 1 (by omega)
    have hm := hmem 1 (by omega)
    obtain ⟨a1, c1, a2, c2, xc, rfl, _⟩ := e1.form
    refine r_sr ?_; refine r_ev rfl rfl ?_
    refine r_v rfl (val_and rfl rfl) ?_
    refine r_ev rfl rfl ?_; refine r_ev rfl rfl ?_
    refine r_gdec rfl rfl (fun hb1 => ?_) (fun hb1 => ?_)
    · refine r_pass rfl rfl rfl ?_; refine r_pass rfl rfl rfl ?_; refine r_pass rfl rfl rfl ?_; refine r_ev rfl rfl ?_; refine r_nn ?_; refine r_cond_true rfl ?_; refine r_region ?_; refine r_ev rfl rfl ?_; refine r_ev rfl rfl ?_
      refine r_indexAddr (j := 1) rfl rfl rfl (by omega) (by omega) ?_
      refine r_load rfl rfl (hr _) rfl ?_
      refine r_buildSlice rfl rfl (by rfl) (by rfl) (by rfl) (by rfl) (by rfl) (fun b42 => ?_)
      refine r_appendRow 1 0 rfl rfl rfl rfl rfl (by rfl) (by rfl) rfl (by unfold maxLen; omega) (by omega) (fun v' _ => ?_)
      refine r_drop (own' := [_]) (.cons _ (List.Sublist.refl _)) ?_
      refine r_ev rfl rfl ?_; refine r_nn ?_
      exact hK ([_], v', _) _ ⟨by simp, AllAt.snoc (l := []) e1 rfl, fun d hd => by rw [List.mem_singleton] at hd; subst hd; exact hm⟩ ⟨rfl, rfl, rfl, trivial⟩
    · refine r_tev rfl rfl rfl ?_; refine r_take rfl ?_
      refine r_v rfl (val_and rfl rfl) ?_
      refine r_tev rfl rfl rfl ?_; refine r_ev rfl rfl ?_; refine r_nn ?_
      refine r_cond rfl (fun hb2 => ?_) (fun hb2 => ?_)
      · refine r_region ?_; refine r_ev rfl rfl ?_; refine r_ev rfl rfl ?_
        refine r_indexAddr (j := 1) rfl rfl rfl (by omega) (by omega) ?_
        refine r_load rfl rfl (hr _) rfl ?_
        refine r_buildSlice rfl rfl (by rfl) (by rfl) (by rfl) (by rfl) (by rfl) (fun b42 => ?_)
        refine r_appendRow 1 0 rfl rfl rfl rfl rfl (by rfl) (by rfl) rfl (by unfold maxLen; omega) (by omega) (fun v' _ => ?_)
        refine r_drop (own' := [_]) (.cons _ (List.Sublist.refl _)) ?_
        refine r_ev rfl rfl ?_; refine r_nn ?_
        exact hK ([_], v', _) _ ⟨by simp, AllAt.snoc (l := []) e1 rfl, fun d hd => by rw [List.mem_singleton] at hd; subst hd; exact hm⟩ ⟨rfl, rfl, rfl, trivial⟩
      · refine r_skip ?_; refine r_then_normal ?_
        exact hK ([], .slice none 0 0, []) _ ⟨by simp, rfl, fun d hd => by cases hd⟩ ⟨rfl, rfl, rfl, trivial⟩
/-- A list of choices, read up to an index. -/
abbrev tpB (b : Nat) (lv : Value) (i : Nat) : Res := .blk b 27 [lv, .int .i64 i]
theorem Next_spec (g : Ghost) (codes : List Int) (hc : codes.length ≤ 1000000) (lv : Value) (hs : SlAt g 1 lv codes.length (codes.map (Value.int .i64))) (b i : Nat) (hi : i ≤ codes.length) (n : Int) (hn : 1 ≤ n ∧ n ≤ 1000000) :
    SpecL Tryz.prog 42 [ptr b 0, .int .i64 n] g (tpB b lv i) fun v g' r' => g' = g ∧ ∃ (k : Int) (i' : Nat), v = .int .i64 k ∧ 0 ≤ k ∧ k < n ∧ r' = tpB b lv i' ∧ i' ≤ codes.length := by
  refine spec_of_run Tryz.func42 rfl Tryz.ntmps42 rfl fun E hE => ?_
  refine r_sr ?_; refine r_ev rfl rfl ?_; refine r_nn ?_; refine r_seq ?_; refine r_seq ?_
  refine r_qregion mixed (by kernel_rfl) ?_
  refine q_ev rfl rfl ?_; refine q_ev rfl rfl ?_; refine q_v rfl (val_fieldAddr rfl) ?_; refine q_v rfl (val_loadB1 0 rfl rfl rfl) ?_; refine q_ev rfl rfl ?_; refine q_ev rfl rfl ?_; refine q_v rfl (val_fieldAddr rfl) ?_; refine q_v rfl (val_loadB1 0 rfl rfl rfl) ?_; refine q_v rfl (val_len_at rfl (by assumption)) ?_; refine q_ev rfl rfl ?_; refine q_end ?_; refine r_then_normal ?_
  refine r_cond rfl (fun hge => ?_) (fun hge => ?_)
  · refine r_sr ?_; refine r_ev rfl rfl ?_; refine r_nn ?_; refine r_retc ?_; refine r_then_ret ?_
    exact r_ret1 [_] rfl rfl (List.Sublist.refl _) ⟨_, rfl, rfl, 0, i, rfl, by omega, by omega, rfl, hi⟩
  · have hlt' : i < codes.length := by omega
    obtain ⟨b0, off, cap, rfl, hx⟩ := hs.held hlt'
    have e1 : (codes.map (Value.int .i64))[i * 1]? = some (.int .i64 codes[i]) := by simp [hlt']
    have hm : 0 ≤ modI codes[i] n ∧ modI codes[i] n < n := by
      unfold modI
      rw [if_neg (by omega)]
      exact ⟨Int.emod_nonneg _ (by omega), Int.emod_lt_of_pos _ (by omega)⟩
    refine r_skip ?_; refine r_then_normal ?_; refine r_sr ?_; refine r_ev rfl rfl ?_; refine r_ev rfl rfl ?_; refine r_fieldAddr rfl rfl ?_; refine r_loadB1 0 rfl rfl rfl rfl ?_; refine r_add rfl rfl rfl (by omega) ?_; refine r_ev rfl rfl ?_; refine r_fieldAddr rfl rfl ?_; refine r_store1 0 rfl rfl rfl rfl rfl rfl ?_; refine r_nn ?_; refine r_seq ?_
    refine r_qregion mixed (by kernel_rfl) ?_
    refine q_ev rfl rfl ?_; refine q_ev rfl rfl ?_; refine q_v rfl (val_fieldAddr rfl) ?_; refine q_v rfl (val_loadB1 0 rfl rfl rfl) ?_; refine q_ev rfl rfl ?_; refine q_ev rfl rfl ?_; refine q_v rfl (val_fieldAddr rfl) ?_; refine q_v rfl (val_loadB1 0 rfl rfl rfl) ?_; refine q_v rfl (val_sub_ rfl rfl (by omega)) ?_
    refine q_v rfl (val_indexAddr (j := i) rfl rfl (by omega) hlt') ?_
    skip
    refine q_v rfl (val_load1 rfl (rd_g1 (hx (i * 1) _ e1))) ?_
    refine q_ev rfl rfl ?_
    refine q_callP rfl rfl (Mod_spec g codes[i] n (by omega)) ?_
    refine q_ev rfl rfl ?_; refine q_end ?_; refine r_then_normal ?_; refine r_retc ?_
    exact r_ret1 [_] rfl rfl (List.Sublist.refl _) ⟨_, rfl, rfl, modI codes[i] n, i + 1, rfl, hm.1, hm.2, rfl, by omega⟩
end Go.Proofs.YtcapgcohhgjngaaGreatDoor
-- sum 69c423330e9f0c25
/- The walk of typedholesmake's Tape.Type: it makes types that can be written, with short texts. -/
namespace Go.Th
def bT : Nat → Nat
  | 0 => 3
  | d + 1 => 12 + 2 * bT d
theorem bT_pos : ∀ d, 3 ≤ bT d
  | 0 => Nat.le_refl _
  | d + 1 => by have := bT_pos d; simp only [bT]; omega
def gdD (d : Da) : Prop := kindOf d.name = 2 ∧ d.name.length ≤ 6 ∧ d.params.length ≤ 2
theorem showArg_len (t : Ty) : (showArg t).length ≤ (showT t).length + 2 := by
  unfold showArg
  split <;> simp
theorem showArgs_len : ∀ {ta : List Ty} {B : Nat}, (∀ t ∈ ta, (showT t).length ≤ B) → (showArgs ta).length ≤ ta.length * (3 + B)
  | [], B, _ => by simp [showArgs]
  | a :: r, B, h => by
    have h1 := h a (List.mem_cons_self ..)
    have h2 := showArgs_len (ta := r) (fun t ht => h t (List.mem_cons_of_mem _ ht))
    have h3 := showArg_len a
    rw [showArgs_cons]
    simp only [List.length_cons, List.length_append, Nat.add_mul]
    omega
theorem showFrom_len (t : Ty) : (showFrom t).length ≤ (showT t).length + 2 := by
  unfold showFrom
  split <;> simp
end Go.Th
namespace Go.Proofs.YtcapgcohhgjngaaGreatDoor
open Go Go.Eng Go.Th Go.Proofs
set_option maxRecDepth 10000
set_option maxHeartbeats 4000000
attribute [local irreducible] wpList Code.wp Run bodyPost Go.Eng.Ends Exit.then Exit.inBlock Again Wq Kq
/-- What a tape makes types of. -/
structure TpE (g : Ghost) (codes : List Int) (lv : Value) (ds : List Da) (dv : Value) (lf : List Ty) (fv : Value) : Prop where
  c : SlAt g 1 lv codes.length (codes.map (Value.int .i64))
  hc : codes.length ≤ 1000000
  d : ∃ xd, SlAt g 4 dv ds.length xd ∧ AllAt (DaAt g) ds xd
  dn : ds.length ≤ 8
  dg : ∀ d ∈ ds, gdD d
  f : ∃ xl, SlAt g 5 fv lf.length xl ∧ TysAt g lf xl
  fn : lf.length ≤ 8
  fg : ∀ t ∈ lf, GoodT t ∧ (showT t).length ≤ 3
theorem TpE.mono {g g' : Ghost} (hle : Ghost.le g g') {codes : List Int} {lv : Value} {ds : List Da} {dv : Value} {lf : List Ty} {fv : Value} (h : TpE g codes lv ds dv lf fv) : TpE g' codes lv ds dv lf fv := by
  obtain ⟨h1, h2, ⟨xd, h3, h4⟩, h5, h6, ⟨xl, h7, h8⟩, h9, h10⟩ := h
  exact ⟨h1.mono hle, h2, ⟨xd, h3.mono hle, das_mono hle h4⟩, h5, h6, ⟨xl, h7.mono hle, h8.mono hle⟩, h9, h10⟩
def tpPost (codes : List Int) (b : Nat) (lv : Value) (d : Nat) (v : Value) (g' : Ghost) (r' : Res) : Prop := ∃ (t : Ty) (i' : Nat), TyV g' v t ∧ GoodT t ∧ (showT t).length ≤ bT d ∧ r' = tpB b lv i' ∧ i' ≤ codes.length
theorem good_int : GoodT intT := .con intB [] (by decide) (fun a h => by cases h)
theorem show_int : (showT intT).length = 3 := by decide
theorem TType_step (codes : List Int) (b d : Nat) (hd : d ≤ 1000)
    (hI : ∀ d', d = d' + 1 → ∀ g i lv ds dv lf fv, TpE g codes lv ds dv lf fv → i ≤ codes.length → SpecL Tryz.prog 37 [ptr b 0, dv, fv, .int .i64 d'] g (tpB b lv i) (tpPost codes b lv d'))
    (g : Ghost) (i : Nat) (lv : Value) (ds : List Da) (dv : Value) (lf : List Ty) (fv : Value) (hE0 : TpE g codes lv ds dv lf fv) (hi : i ≤ codes.length) :
    SpecL Tryz.prog 37 [ptr b 0, dv, fv, .int .i64 d] g (tpB b lv i) (tpPost codes b lv d) := by
  obtain ⟨xd, hd1, hd2⟩ := hE0.d
  obtain ⟨xl, hf1, hf2⟩ := hE0.f
  have hb3 := bT_pos d
  have hdn := hE0.dn
  have hfn := hE0.fn
  obtain ⟨da, dc, rfl⟩ := slForm2 hd1
  obtain ⟨fa, fc, rfl⟩ := slForm2 hf1
  refine spec_of_run Tryz.func37 rfl Tryz.ntmps37 rfl fun E hE => ?_
  refine r_sr ?_
  refine r_alloc rfl (fun b8 => ?_)
  refine r_nn ?_; refine r_sr ?_; refine r_ev rfl rfl ?_
  refine r_callL 1 rfl rfl rfl (Next_spec g codes hE0.hc lv hE0.c b i hi 7 (by omega)) ?_
  rintro v g1 r' ⟨rfl, k, i1, rfl, hk1, hk2, rfl, hi1⟩ _
  refine r_ev rfl rfl ?_; refine r_nn ?_
  refine r_seq ?_
  refine r_block ?_
  refine r_cutG (ι := Bool) (fun p => [(0, ptr b 0), (1, .slice da ds.length dc), (2, .slice fa lf.length fc), (3, .int .i64 d), (8, ptr b8 0), (9, .int .i64 k), (16, .bool p)]) (fun _ => g1)
    (fun _ => [.blk b8 32 (tyCells noT (.slice none 0 0)), tpB b lv i1]) (fun p => p = true → 0 < lf.length) ?_ ?_
  · intro p hp
    show Run E _ [(0, ptr b 0), (1, .slice da ds.length dc), (2, .slice fa lf.length fc), (3, .int .i64 d), (8, ptr b8 0), (9, .int .i64 k), (16, .bool p)] g1 [.blk b8 32 (tyCells noT (.slice none 0 0)), tpB b lv i1] _
    cases p with
    | true =>
      have hl0 := hp rfl
      refine r_cond_true rfl ?_; refine r_sr ?_; refine r_ev rfl rfl ?_; refine r_ev rfl rfl ?_; refine r_ev rfl rfl ?_; refine r_len_sl rfl rfl ?_
      refine r_callL 1 rfl rfl rfl (Next_spec g1 codes hE0.hc lv hE0.c b i1 hi1 lf.length (by omega)) ?_
      rintro v g2 r' ⟨rfl, q, i2, rfl, hq1, hq2, rfl, hi2⟩ _
      have hq : q.toNat < lf.length := by omega
      obtain ⟨b0, off, cap, hsl, hx⟩ := hf1.held hq
      cases hsl
      obtain ⟨sl', t2, hr⟩ := tys_rdA hf2 hx hq
      obtain ⟨f1, f2⟩ := hE0.fg _ (List.getElem_mem hq)
      obtain ⟨_, hsl2, _⟩ := t2.args
      obtain ⟨ya, ym, yc, rfl⟩ := SlAt.form hsl2
      skip
      refine r_indexAddr (j := q.toNat) rfl rfl rfl (by omega) hq ?_
      refine r_load rfl rfl (hr _) rfl ?_
      refine r_storeA 0 rfl rfl rfl rfl (by rfl) (by repeat' (first | exact rfl | assumption | refine all_cons ?_ ?_)) rfl ?_; refine r_nn ?_; refine r_retc ?_; refine r_in_ret ?_; refine r_then_ret ?_
      exact r_retA [_] rfl (res_blk 0 rfl rfl (by rfl)) (.cons _ (List.Sublist.refl _)) ⟨_, rfl, _, i2, ⟨_, rfl, t2⟩, f1, by omega, rfl, hi2⟩
    | false =>
    refine r_cond_false rfl ?_
    refine r_cutG (ι := Bool) (fun p => [(0, ptr b 0), (1, .slice da ds.length dc), (2, .slice fa lf.length fc), (3, .int .i64 d), (8, ptr b8 0), (9, .int .i64 k), (31, .bool p)]) (fun _ => g1)
      (fun _ => [.blk b8 32 (tyCells noT (.slice none 0 0)), tpB b lv i1]) (fun p => p = false → 1 ≤ d) ?_ ?_
    · intro p hp
      show Run E _ [(0, ptr b 0), (1, .slice da ds.length dc), (2, .slice fa lf.length fc), (3, .int .i64 d), (8, ptr b8 0), (9, .int .i64 k), (31, .bool p)] g1 [.blk b8 32 (tyCells noT (.slice none 0 0)), tpB b lv i1] _
      cases p with
      | true =>
        refine r_cond_true rfl ?_; refine r_sr ?_
        refine r_callN rfl rfl (rInt_spec g1) ?_
        rintro w g2 hw hle
        obtain ⟨ya, ym, yc, rfl, ht⟩ := hw.cells5
        refine r_storeA 0 rfl rfl rfl rfl (by rfl) (by repeat' (first | exact rfl | assumption | refine all_cons ?_ ?_)) rfl ?_; refine r_nn ?_; refine r_retc ?_; refine r_in_ret ?_; refine r_then_ret ?_
        exact r_retA [_] rfl (res_blk 0 rfl rfl (by rfl)) (.cons _ (List.Sublist.refl _)) ⟨_, rfl, intT, i1, ⟨_, rfl, ht⟩, good_int, by rw [show_int]; exact hb3, rfl, hi1⟩
      | false =>
      have hd1' := hp rfl
      obtain ⟨d', rfl⟩ : ∃ d', d = d' + 1 := ⟨d - 1, by omega⟩
      have ih := hI d' rfl
      refine r_cond_false rfl ?_
      refine r_cutG (ι := Bool) (fun p => [(0, ptr b 0), (1, .slice da ds.length dc), (2, .slice fa lf.length fc), (3, .int .i64 (d' + 1 : Nat)), (8, ptr b8 0), (9, .int .i64 k), (39, .bool p)]) (fun _ => g1)
        (fun _ => [.blk b8 32 (tyCells noT (.slice none 0 0)), tpB b lv i1]) (fun p => p = true → 0 < ds.length) ?_ ?_
      · intro p hp
        show Run E _ [(0, ptr b 0), (1, .slice da ds.length dc), (2, .slice fa lf.length fc), (3, .int .i64 (d' + 1 : Nat)), (8, ptr b8 0), (9, .int .i64 k), (39, .bool p)] g1 [.blk b8 32 (tyCells noT (.slice none 0 0)), tpB b lv i1] _
        cases p with
        | true =>
          have hl0 := hp rfl
          refine r_cond_true rfl ?_; refine r_sr ?_; refine r_ev rfl rfl ?_; refine r_ev rfl rfl ?_; refine r_ev rfl rfl ?_; refine r_len_sl rfl rfl ?_
          refine r_callL 1 rfl rfl rfl (Next_spec g1 codes hE0.hc lv hE0.c b i1 hi1 ds.length (by omega)) ?_
          rintro v g2 r' ⟨rfl, q, i2, rfl, hq1, hq2, rfl, hi2⟩ _
          have hq : q.toNat < ds.length := by omega
          obtain ⟨b0, off, cap, hsl, hx⟩ := hd1.held hq
          cases hsl
          obtain ⟨cs, e1, hr⟩ := all_rd (fun _ _ h => h.one.1) hd2 hx hq
          obtain ⟨n1, n2, n3⟩ := hE0.dg _ (List.getElem_mem hq)
          generalize ds[q.toNat] = dd at e1 n1 n2 n3
          obtain ⟨a1, c1, a2, c2, xc, rfl, _⟩ := e1.form
          skip
          refine r_indexAddr (j := q.toNat) rfl rfl rfl (by omega) hq ?_
          refine r_load rfl rfl (hr _) rfl ?_
          refine r_alloc rfl (fun b10 => ?_)
          refine r_storeA 0 rfl rfl rfl rfl (by rfl) (by repeat' (first | exact rfl | assumption | refine all_cons ?_ ?_)) rfl ?_; refine r_nn ?_; refine r_sr ?_; refine r_ev rfl rfl ?_; refine r_nn ?_; refine r_seq ?_; refine r_sr ?_; refine r_ev rfl rfl ?_; refine r_nn ?_; refine r_block ?_
          refine r_nilRow 32 5 ?_
          refine r_loop (ι := Nat × List Ty × Value × List Value × Nat × Ghost) (fun p => [(0, ptr b 0), (1, .slice (some ⟨b0, off, none⟩) ds.length dc), (2, .slice fa lf.length fc), (3, .int .i64 (d' + 1 : Nat)), (8, ptr b8 0), (10, ptr b10 0), (11, p.2.2.1), (12, .int .i64 p.1)]) (fun p => p.2.2.2.2.2)
            (fun p => [.row 32 5 p.2.2.1 p.2.1.length p.2.2.2.1, .blk b10 80 [.int .i64 dd.pos, str dd.name, .slice a1 dd.params.length c1, .slice a2 dd.cons.length c2], .blk b8 32 (tyCells noT (.slice none 0 0)), tpB b lv p.2.2.2.2.1])
            (fun p => Ghost.le g2 p.2.2.2.2.2 ∧ p.1 ≤ dd.params.length ∧ p.2.1.length = p.1 ∧ TysAt p.2.2.2.2.2 p.2.1 p.2.2.2.1 ∧ (∀ t ∈ p.2.1, GoodT t ∧ (showT t).length ≤ bT d') ∧ p.2.2.2.2.1 ≤ codes.length) (fun p => dd.params.length - p.1) (0, [], .slice none 0 0, [], i2, g2)
            ⟨Ghost.le_refl _, Nat.zero_le _, rfl, tysNil _, (fun t h => by cases h), hi2⟩ ⟨rfl, rfl, rfl, rfl, rfl, rfl, rfl, rfl, trivial⟩ rfl rfl ?_
          rintro ⟨m, ta, tv, xs, i3, g3⟩ ⟨k1, k2, k3, k4, k5, k6⟩
          simp only at k1 k2 k3 k4 k5 k6
          show Run E _ [(0, ptr b 0), (1, .slice (some ⟨b0, off, none⟩) ds.length dc), (2, .slice fa lf.length fc), (3, .int .i64 (d' + 1 : Nat)), (8, ptr b8 0), (10, ptr b10 0), (11, tv), (12, .int .i64 m)] g3 [.row 32 5 tv ta.length xs, .blk b10 80 [.int .i64 dd.pos, str dd.name, .slice a1 dd.params.length c1, .slice a2 dd.cons.length c2], .blk b8 32 (tyCells noT (.slice none 0 0)), tpB b lv i3] _
          refine r_seq ?_; refine r_sr ?_; refine r_ev rfl rfl ?_; refine r_fieldAddr rfl rfl ?_; refine r_loadB1 1 rfl rfl rfl rfl ?_; refine r_len_sl rfl rfl ?_; refine r_ev rfl rfl ?_; refine r_nn ?_
          refine r_cond rfl (fun hlt => ?_) (fun hlt => ?_)
          · refine r_skip ?_; refine r_then_normal ?_; refine r_seq ?_; refine r_block ?_; refine r_region ?_; refine r_ev rfl rfl ?_; refine r_ev rfl rfl ?_; refine r_ev rfl rfl ?_; refine r_ev rfl rfl ?_; refine r_ev rfl rfl ?_; refine r_sub_ rfl rfl rfl (by omega) ?_
            rw [show ((d' + 1 : Nat) : Int) - 1 = (d' : Int) by omega]
            refine r_callL 3 rfl rfl rfl (ih g3 i3 lv ds _ lf _ (hE0.mono k1) k6) ?_
            rintro w g4 r' ⟨t, i4, ht, gt, lt, rfl, hi4⟩ hle4
            obtain ⟨ya, ym, yc, rfl, ht'⟩ := ht.cells5
            skip
            refine r_buildSlice rfl rfl (by rfl) (by rfl) (by rfl) (by rfl) (by rfl) (fun b42 => ?_)
            refine r_appendRow 1 0 rfl rfl rfl rfl rfl (by rfl) (by rfl) rfl (by unfold maxLen; omega) (by omega) (fun v' _ => ?_)
            refine r_drop (own' := [_, _, _, _]) (.cons _ (List.Sublist.refl _)) ?_
            refine r_ev rfl rfl ?_; refine r_nil ?_; refine r_in_normal ?_; refine r_then_normal ?_; refine r_region ?_; refine r_ev rfl rfl ?_; refine r_add rfl rfl rfl (by omega) ?_; refine r_ev rfl rfl ?_; refine r_nn ?_
            refine r_again (m + 1, ta ++ [t], v', xs ++ tyCells t (.slice ya ym yc), i4, g4) ⟨Ghost.le_trans k1 hle4, by simp only; omega, by simp [k3], TysAt.snoc ht' (k4.mono hle4), ?_, hi4⟩ (by simp only; omega) ⟨rfl, rfl, rfl, rfl, rfl, rfl, rfl, rfl, trivial⟩ rfl ?_
            · intro u hu
              rcases List.mem_append.1 hu with hu | hu
              · exact k5 u hu
              · rw [List.mem_singleton] at hu; subst hu; exact ⟨gt, lt⟩
            · simp [tyCells, repN]
          · refine r_publishRow (fun g4 hg4 hs4 => ?_)
            refine r_exit ?_; refine r_then_exit ?_; refine r_then_exit ?_; refine r_in_exit ?_; refine r_then_normal ?_; refine r_sr ?_; refine r_fieldAddr rfl rfl ?_; refine r_loadB1 0 rfl rfl rfl rfl ?_; refine r_ev rfl rfl ?_
            refine r_callN rfl rfl (rCon_spec g4 dd.name tv ta xs hs4 (k4.mono hg4) (by omega)) ?_
            rintro w g5 hw hle5
            obtain ⟨ya, ym, yc, rfl, ht'⟩ := hw.cells5
            refine r_storeA 1 rfl rfl rfl rfl (by rfl) (by repeat' (first | exact rfl | assumption | refine all_cons ?_ ?_)) rfl ?_; refine r_nn ?_; refine r_retc ?_; refine r_in_ret ?_; refine r_then_ret ?_
            refine r_retA [_] rfl (res_blk 1 rfl rfl (by rfl)) (.cons _ (.cons _ (List.Sublist.refl _))) ⟨_, rfl, conT dd.name ta, i3, ⟨_, rfl, ht'⟩, .con _ _ n1 (fun t ht => (k5 t ht).1), ?_, rfl, k6⟩
            rw [showT_con ta (ne_arrow n1), List.length_append]
            have h1 := showArgs_len (ta := ta) (B := bT d') (fun t ht => (k5 t ht).2)
            have h2 : ta.length * (3 + bT d') ≤ 2 * (3 + bT d') := Nat.mul_le_mul_right _ (by omega)
            simp only [bT]
            omega
        | false =>
          refine r_cond_false rfl ?_; refine r_skip ?_; refine r_in_normal ?_; refine r_then_normal ?_; refine r_sr ?_; refine r_ev rfl rfl ?_; refine r_ev rfl rfl ?_; refine r_ev rfl rfl ?_; refine r_ev rfl rfl ?_; refine r_sub_ rfl rfl rfl (by omega) ?_
          rw [show ((d' + 1 : Nat) : Int) - 1 = (d' : Int) by omega]
          refine r_callL 1 rfl rfl rfl (ih g1 i1 lv ds _ lf _ hE0 hi1) ?_
          rintro w g2 r' ⟨t, i2, ht, gt, lt, rfl, hi2⟩ hle2
          obtain ⟨ya, ym, yc, rfl, ht'⟩ := ht.cells5
          skip
          refine r_alloc rfl (fun b13 => ?_)
          refine r_storeA 0 rfl rfl rfl rfl (by rfl) (by repeat' (first | exact rfl | assumption | refine all_cons ?_ ?_)) rfl ?_; refine r_nn ?_; refine r_seq ?_
          -- STOPX
          refine h_beginE [2, 1] mixed (fun hG => ?_)
          refine h_takeX 0 rfl (by kernel_rfl) rfl hG (by first | exact Ghost.le_refl _ | assumption) (by repeat' (first | exact List.nil_sublist _ | refine List.Sublist.cons_cons _ ?_ | refine List.Sublist.cons _ ?_)) ?_; refine ⟨_, (val_loadB 0 rfl rfl (by rfl)), ?_⟩; refine h_takeX 1 rfl (by kernel_rfl) rfl hG (by first | exact Ghost.le_refl _ | assumption) (by repeat' (first | exact List.nil_sublist _ | refine List.Sublist.cons_cons _ ?_ | refine List.Sublist.cons _ ?_)) ?_; refine ⟨_, (val_ev rfl), ?_⟩; refine h_takeX 2 rfl (by kernel_rfl) rfl hG (by first | exact Ghost.le_refl _ | assumption) (by repeat' (first | exact List.nil_sublist _ | refine List.Sublist.cons_cons _ ?_ | refine List.Sublist.cons _ ?_)) ?_; refine ⟨_, (val_ev rfl), ?_⟩; refine h_takeX 3 rfl (by kernel_rfl) rfl hG (by first | exact Ghost.le_refl _ | assumption) (by repeat' (first | exact List.nil_sublist _ | refine List.Sublist.cons_cons _ ?_ | refine List.Sublist.cons _ ?_)) ?_; refine ⟨_, (val_ev rfl), ?_⟩; refine h_takeX 4 rfl (by kernel_rfl) rfl hG (by first | exact Ghost.le_refl _ | assumption) (by repeat' (first | exact List.nil_sublist _ | refine List.Sublist.cons_cons _ ?_ | refine List.Sublist.cons _ ?_)) ?_; refine ⟨_, (val_ev rfl), ?_⟩
          refine h_takeX 5 rfl (by kernel_rfl) rfl hG (by first | exact Ghost.le_refl _ | assumption) (by repeat' (first | exact List.nil_sublist _ | refine List.Sublist.cons_cons _ ?_ | refine List.Sublist.cons _ ?_)) ⟨_, (val_sub_ rfl rfl (by omega)), ?_⟩
          refine h_one 6 (by kernel_rfl) rfl ?_
          rw [show ((d' + 1 : Nat) : Int) - 1 = (d' : Int) by omega]
          refine r_callL 2 rfl rfl rfl (ih g2 i2 lv ds _ lf _ (hE0.mono hle2) hi2) ?_
          rintro w g3 r' ⟨u, i3, hu, gu, lu, rfl, hi3⟩ hle3
          refine r_nn ?_
          refine h_kept hG (by first | exact Ghost.le_refl _ | assumption) (by repeat' (first | exact List.nil_sublist _ | refine List.Sublist.cons_cons _ ?_ | refine List.Sublist.cons _ ?_)) ?_
          refine h_one 7 (by kernel_rfl) rfl ?_
          refine r_callN rfl rfl (rArrow_spec g3 t u _ _ ⟨_, rfl, ht'.mono hle3⟩ hu) ?_
          rintro w4 g4 hw4 hle4
          have hle34 := Ghost.le_trans hle3 hle4
          obtain ⟨za, zm, zc, rfl, hz⟩ := hw4.cells5
          refine r_nn ?_
          refine h_kept hG (by first | exact Ghost.le_refl _ | assumption) (by repeat' (first | exact List.nil_sublist _ | refine List.Sublist.cons_cons _ ?_ | refine List.Sublist.cons _ ?_)) ?_
          refine h_one 8 (by kernel_rfl) rfl ?_
          refine r_storeA 1 rfl rfl rfl rfl (by rfl) (by repeat' (first | exact rfl | assumption | refine all_cons ?_ ?_)) rfl ?_; refine r_nn ?_
          refine h_kept hG (by first | exact Ghost.le_refl _ | assumption) (by repeat' (first | exact List.nil_sublist _ | refine List.Sublist.cons_cons _ ?_ | refine List.Sublist.cons _ ?_)) ?_
          refine h_done (by kernel_rfl) ?_
          refine r_then_normal ?_; refine r_retc ?_
          refine r_retA [_] rfl (res_blk 1 rfl rfl (by rfl)) (.cons _ (.cons _ (List.Sublist.refl _))) ⟨_, rfl, arrowT t u, i3, ⟨_, rfl, hz⟩, .arrow t u gt gu, ?_, rfl, hi3⟩
          rw [showT_arrow]
          have := showFrom_len t
          simp only [List.length_append, List.length_cons, List.length_nil, bT]
          omega
      · intro K hK
        refine r_sr ?_; refine r_ev rfl rfl ?_; refine r_ev rfl rfl ?_; refine r_ev rfl rfl ?_
        refine r_gdec rfl rfl (fun h4 => ?_) (fun h4 => ?_)
        · refine r_tev rfl rfl rfl ?_; refine r_take rfl ?_; refine r_len_sl rfl rfl ?_; refine r_tev rfl rfl rfl ?_; refine r_ev rfl rfl ?_; refine r_ev rfl rfl ?_; refine r_nn ?_
          refine r_dec 39 rfl (fun h => ?_) (fun h => ?_)
          · refine r_cond_true rfl ?_; refine r_skip ?_; refine r_then_normal ?_
            exact hK true _ (fun _ => by omega) ⟨rfl, rfl, rfl, rfl, rfl, rfl, rfl, trivial⟩
          · refine r_cond_false rfl ?_; refine r_region ?_; refine r_ev rfl rfl ?_; refine r_ev rfl rfl ?_; refine r_ev rfl rfl ?_
            refine r_gdec rfl rfl (fun h5 => ?_) (fun h5 => ?_)
            · omega
            · refine r_pass rfl rfl rfl ?_; refine r_pass rfl rfl rfl ?_; refine r_pass rfl rfl rfl ?_; refine r_ev rfl rfl ?_; refine r_ev rfl rfl ?_; refine r_nn ?_
              exact hK false _ (fun h => by cases h) ⟨rfl, rfl, rfl, rfl, rfl, rfl, rfl, trivial⟩
        · refine r_pass rfl rfl rfl ?_; refine r_pass rfl rfl rfl ?_; refine r_pass rfl rfl rfl ?_; refine r_ev rfl rfl ?_; refine r_ev rfl rfl ?_; refine r_nn ?_; refine r_cond_false rfl ?_; refine r_region ?_; refine r_ev rfl rfl ?_; refine r_ev rfl rfl ?_; refine r_ev rfl rfl ?_
          refine r_gdec rfl rfl (fun h5 => ?_) (fun h5 => ?_)
          · refine r_tev rfl rfl rfl ?_; refine r_take rfl ?_; refine r_len_sl rfl rfl ?_; refine r_tev rfl rfl rfl ?_; refine r_ev rfl rfl ?_; refine r_ev rfl rfl ?_; refine r_nn ?_
            refine r_dec 39 rfl (fun h => ?_) (fun h => ?_)
            · exact hK true _ (fun _ => by omega) ⟨rfl, rfl, rfl, rfl, rfl, rfl, rfl, trivial⟩
            · exact hK false _ (fun h => by cases h) ⟨rfl, rfl, rfl, rfl, rfl, rfl, rfl, trivial⟩
          · refine r_pass rfl rfl rfl ?_; refine r_pass rfl rfl rfl ?_; refine r_pass rfl rfl rfl ?_; refine r_ev rfl rfl ?_; refine r_ev rfl rfl ?_; refine r_nn ?_
            exact hK false _ (fun h => by cases h) ⟨rfl, rfl, rfl, rfl, rfl, rfl, rfl, trivial⟩
    · intro K hK
      refine r_region ?_; refine r_ev rfl rfl ?_; refine r_ev rfl rfl ?_; refine r_ev rfl rfl ?_
      refine r_gdec rfl rfl (fun h4 => ?_) (fun h4 => ?_)
      · refine r_pass rfl rfl rfl ?_; refine r_pass rfl rfl rfl ?_; refine r_ev rfl rfl ?_; refine r_ev rfl rfl ?_; refine r_nn ?_
        exact hK true _ (fun h => by cases h) ⟨rfl, rfl, rfl, rfl, rfl, rfl, rfl, trivial⟩
      · refine r_tev rfl rfl rfl ?_; refine r_tev rfl rfl rfl ?_; refine r_ev rfl rfl ?_; refine r_ev rfl rfl ?_; refine r_nn ?_
        refine r_dec 31 rfl (fun h => ?_) (fun h => ?_)
        · exact hK true _ (fun h => by cases h) ⟨rfl, rfl, rfl, rfl, rfl, rfl, rfl, trivial⟩
        · exact hK false _ (fun _ => by omega) ⟨rfl, rfl, rfl, rfl, rfl, rfl, rfl, trivial⟩
  · intro K hK
    refine r_region ?_; refine r_ev rfl rfl ?_; refine r_ev rfl rfl ?_; refine r_ev rfl rfl ?_
    refine r_gdec rfl rfl (fun h3 => ?_) (fun h3 => ?_)
    · refine r_tev rfl rfl rfl ?_; refine r_take rfl ?_; refine r_len_sl rfl rfl ?_; refine r_tev rfl rfl rfl ?_; refine r_ev rfl rfl ?_; refine r_ev rfl rfl ?_; refine r_nn ?_
      refine r_dec 16 rfl (fun h => ?_) (fun h => ?_)
      · exact hK true _ (fun _ => by omega) ⟨rfl, rfl, rfl, rfl, rfl, rfl, rfl, trivial⟩
      · exact hK false _ (fun h => by cases h) ⟨rfl, rfl, rfl, rfl, rfl, rfl, rfl, trivial⟩
    · refine r_pass rfl rfl rfl ?_; refine r_pass rfl rfl rfl ?_; refine r_pass rfl rfl rfl ?_; refine r_ev rfl rfl ?_; refine r_ev rfl rfl ?_; refine r_nn ?_
      exact hK false _ (fun h => by cases h) ⟨rfl, rfl, rfl, rfl, rfl, rfl, rfl, trivial⟩
theorem TType_spec (codes : List Int) (b : Nat) : ∀ d : Nat, d ≤ 1000 → ∀ g i lv ds dv lf fv, TpE g codes lv ds dv lf fv → i ≤ codes.length → SpecL Tryz.prog 37 [ptr b 0, dv, fv, .int .i64 d] g (tpB b lv i) (tpPost codes b lv d)
  | 0, h => TType_step codes b 0 h (fun d' h => by omega)
  | d + 1, h => TType_step codes b (d + 1) h (fun d' hd => by
      obtain rfl : d' = d := by omega
      exact TType_spec codes b d' (by omega))
end Go.Proofs.YtcapgcohhgjngaaGreatDoor
-- sum 554db53a12536a91

/- The walks of the laws of chapter 2: pieces of texts, and TokenScans. -/
import Derived.Test.YtjiommnmkokldaaDoorLawB
namespace Go.Proofs.YtjiommnmkokldaaDoor
open Go Go.Eng Go.Th Go.Proofs
set_option maxRecDepth 10000
attribute [local irreducible] wpList Code.wp Run bodyPost Go.Eng.Ends Exit.then Exit.inBlock Again Wq Kq
instance : Pair Tryd.prog 40 := ⟨by kernel_rfl⟩
def pieceList : List Bytes := [[108, 101, 116], [114, 101, 99], [105, 110], [100, 97, 116, 97], [99, 97, 115, 101], [111, 102], [101, 110, 100], [120], [76, 105, 115, 116], [97, 95, 49], [88, 121, 122, 57], [48], [49, 50], [48, 48, 55], [45, 62], [45], [62], [92], [46], [61], [59], [58], [124], [40], [41], [123], [125], [63], [32], [9], [13, 10], [35, 32, 110, 111, 116, 101, 10], [35], [52, 120], [95], [97, 118, 101, 114, 121, 108, 111, 110, 103, 110, 97, 109, 101, 49], [65, 118, 101, 114, 121, 108, 111, 110, 103, 110, 97, 109, 101], [49, 50, 51, 52, 53, 54, 55, 56, 57], [49, 50, 51, 52, 53, 54, 55, 56, 57, 48], [36], [0], [255], [108, 101, 116, 120], [120, 39]]
def lword (k : Int) : Bytes := pieceList.getD (modI k 44).toNat []
def lwords (l : List Int) : Bytes := l.flatMap lword
theorem lword_len (k : Int) : (lword k).length ≤ 14 := by
  unfold lword
  rw [List.getD_eq_getElem?_getD]
  cases h : pieceList[(modI k 44).toNat]? with
  | none => simp
  | some x =>
    have : ∀ x ∈ pieceList, x.length ≤ 14 := by decide
    exact this x (List.mem_of_getElem? h)
theorem lwords_len (l : List Int) : (lwords l).length ≤ 14 * l.length := by
  induction l with
  | nil => simp [lwords]
  | cons x r ih =>
    have := lword_len x
    simp only [lwords, List.flatMap_cons, List.length_append, List.length_cons] at ih ⊢
    omega
theorem lwords_succ {l : List Int} {k : Nat} (h : k < l.length) : lwords (l.take (k + 1)) = lwords (l.take k) ++ lword l[k] := by
  rw [List.take_succ_eq_append_getElem h, lwords, List.flatMap_append]; simp [lwords]
theorem modI_lt (k : Int) : 0 ≤ modI k 44 ∧ modI k 44 < 44 := by
  unfold modI
  rw [if_neg (by omega)]
  omega
theorem lword_spec (g : Ghost) (k : Int) : Pure Tryd.prog 34 [.int .i64 k] g (str (lword k)) := by
  have hm := modI_lt k
  refine spec_of_run Tryd.func34 rfl Tryd.ntmps34 rfl fun E hE => ?_
  refine r_sr ?_; refine r_ev rfl rfl ?_; refine r_nn ?_; refine r_sr ?_
  refine r_buildSlice rfl rfl (by rfl) (by rfl) (by rfl) (by rfl) (by rfl) (fun b => ?_)
  refine r_ev rfl rfl ?_; refine r_nn ?_; refine r_sr ?_; refine r_ev rfl rfl ?_; refine r_ev rfl rfl ?_; refine r_ev rfl rfl ?_; refine r_len_sl rfl rfl ?_
  refine r_callP rfl rfl (Mod_spec g k 44 (by omega)) ?_
  skip
  refine r_indexAddr (j := (modI k 44).toNat) rfl rfl rfl (by omega) (by omega) ?_
  refine r_load1 rfl rfl (v := str (lword k)) (rd_row1 0 rfl ?_) ?_
  · show (pieceList.map str)[0 + (modI k 44).toNat * 1]? = _
    have hl : (modI k 44).toNat < pieceList.length := by show _ < 44; omega
    rw [show 0 + (modI k 44).toNat * 1 = (modI k 44).toNat by omega, List.getElem?_map, List.getElem?_eq_getElem hl]
    simp only [lword, List.getD_eq_getElem?_getD, List.getElem?_eq_getElem hl]
    rfl
  refine r_ev rfl rfl ?_; refine r_nn ?_; refine r_retc ?_
  exact r_ret1 [] rfl rfl (by simp) ⟨rfl, rfl, rfl⟩
def ints (l : List Int) : List Value := l.map (Value.int .i64)
theorem lwords_spec (g : Ghost) (v : Value) (l : List Int) (hl : l.length ≤ 1000) (hs : SlAt g 1 v l.length (ints l)) : Pure Tryd.prog 30 [v] g (str (lwords l)) := by
  refine spec_of_run Tryd.func30 rfl Tryd.ntmps30 rfl fun E hE => ?_
  refine r_sr ?_; refine r_ev rfl rfl ?_; refine r_nn ?_; refine r_sr ?_; refine r_ev rfl rfl ?_; refine r_nn ?_; refine r_seq ?_; refine r_sr ?_; refine r_ev rfl rfl ?_; refine r_nn ?_; refine r_block ?_
  refine r_loop (ι := Nat) (fun k => [(0, v), (3, str (lwords (l.take k))), (4, .int .i64 k)]) (fun _ => g) (fun _ => []) (fun k => k ≤ l.length) (fun k => l.length - k) 0 (by omega) ⟨rfl, rfl, rfl, trivial⟩ rfl rfl ?_
  intro k hk
  refine r_seq ?_; refine r_sr ?_; refine r_ev rfl rfl ?_; refine r_ev rfl rfl ?_
  refine r_len_at rfl rfl hs ?_
  refine r_ev rfl rfl ?_; refine r_nn ?_
  refine r_cond rfl (fun hlt => ?_) (fun hlt => ?_)
  · have hlt' : k < l.length := by omega
    have hlen := lwords_len (l.take k)
    rw [List.length_take] at hlen
    have hlw := lword_len l[k]
    obtain ⟨b, off, cap, rfl, hx⟩ := hs.held hlt'
    refine r_skip ?_; refine r_then_normal ?_; refine r_seq ?_; refine r_block ?_; refine r_region ?_; refine r_ev rfl rfl ?_; refine r_ev rfl rfl ?_; refine r_ev rfl rfl ?_
    refine r_indexAddr (j := k) rfl rfl rfl rfl hlt' ?_
    refine r_load1 rfl rfl (v := .int .i64 l[k]) (rd_g1 (hx (k * 1) _ (by simp [ints, hlt']))) ?_
    skip
    refine r_callP rfl rfl (lword_spec g _) ?_
    skip
    refine r_add_str rfl rfl rfl (by omega) ?_
    refine r_ev rfl rfl ?_; refine r_nil ?_; refine r_in_normal ?_; refine r_then_normal ?_; refine r_region ?_; refine r_ev rfl rfl ?_
    refine r_add rfl rfl rfl (by omega) ?_
    refine r_ev rfl rfl ?_; refine r_nn ?_
    exact r_again (k + 1) (by omega) (by omega) ⟨rfl, by rw [lwords_succ hlt']; rfl, rfl, trivial⟩ rfl rfl
  · have hkl : k = l.length := by omega
    subst hkl
    refine r_exit ?_; refine r_then_exit ?_; refine r_then_exit ?_; refine r_in_exit ?_; refine r_then_normal ?_; refine r_sr ?_; refine r_ev rfl rfl ?_; refine r_ev rfl rfl ?_; refine r_nn ?_; refine r_retc ?_
    exact r_ret1 [] rfl rfl (by simp) ⟨by rw [List.take_length], rfl, rfl⟩
theorem same_refl (l : List Tok) (p : Bool) : sameT l l p = true := by
  simp [sameT]
  intro a b h
  have : a = b := by
    induction l with
    | nil => simp at h
    | cons x r ih => simp at h; rcases h with h | h; exact h.1.trans h.2.symm; exact ih h
  subst this
  simp
def toksOf (s : Bytes) : List Tok := match scan s with | .ok l => l | .bad _ _ => []
def errOf (s : Bytes) : Int := match scan s with | .ok _ => 0 | .bad e _ => e
def posOf (s : Bytes) : Int := match scan s with | .ok _ => 0 | .bad _ p => p
/-- A call of either scanner: its tokens become known. -/
theorem r_scan {E : Env} {n : Nat} {L : Slots} {g : Ghost} {own : List Res} {Q : Exit → Act → World → Prop} {ops : Array Oper} {rest : List Oper} {d : Nat} {ty : TypeId} {pos : String} {after : Array Edge}
    {P : Program} {T : TypeId} {f : FuncId} {xs : Array Operand} {ts : Array TypeId} {s : Bytes} [hB : Body P f] (hd : Nat.blt d n = true) (hx : evs L xs.toList = some [str s]) (hs : Eng.Spec P f [str s] g [] (ScanPost T s g))
    (k : ∀ g' sv, Ghost.le g g' → SlAt g' 3 sv (toksOf s).length ((toksOf s).flatMap tokCells) → Run E n ((d, .tuple #[sv, .agg #[.int .i64 (errOf s), .int .i64 (posOf s)]]) :: L) g' own (wpList P ops Q rest)) :
    Run E n L g own (wpList P ops Q (⟨some d, .call ⟨.value (.func f), xs, ts⟩, ty, pos, after, none⟩ :: rest)) := by
  refine r_call hd hx hs ?_
  rintro v g' own' ⟨rfl, hp⟩ _
  unfold toksOf errOf posOf at k
  cases hsc : scan s with
  | ok l =>
    rw [hsc] at hp k
    obtain ⟨sv, rfl, rfl⟩ := hp
    exact r_publishRow (fun g1 hg1 h1 => k g1 sv hg1 h1)
  | bad e p =>
    rw [hsc] at hp k
    obtain ⟨rfl, rfl⟩ := hp
    exact k g' _ (Ghost.le_refl _) ⟨rfl, .inl ⟨⟨_, _, rfl⟩, rfl⟩⟩
theorem same_tt {g : Ghost} {va ub : Value} {la lb : List Tok} {p : Bool} (h : sameT la lb p = true) (ha : SlAt g 3 va la.length (la.flatMap tokCells)) (hb : SlAt g 3 ub lb.length (lb.flatMap tokCells)) : Pure Tryd.prog 33 [va, ub, .bool p] g (.bool true) := by
  rw [← h]; exact same_spec g va ub la lb p ha hb
theorem TokenScans_spec (g : Ghost) (s : Bytes) (hs0 : s.length ≤ 9223372036854775807) (v : Value) (l : List Int) (hs : SlAt g 1 v l.length (ints l)) (_hw : ∀ n ∈ l, -9223372036854775808 ≤ n ∧ n ≤ 9223372036854775807) : Pure Tryd.prog 7 [str s, v] g (.bool true) := by
  refine spec_of_run Tryd.func7 rfl Tryd.ntmps7 rfl fun E hE => ?_
  refine r_sr ?_; refine r_ev rfl rfl ?_; refine r_nn ?_; refine r_seq ?_; refine r_sr ?_
  refine r_callP rfl rfl (tfirst_spec g) ?_
  refine r_ev rfl rfl ?_; refine r_nn ?_; refine r_cond_false rfl ?_; refine r_skip ?_; refine r_then_normal ?_; refine r_seq ?_; refine r_sr ?_; refine r_ev rfl rfl ?_; refine r_len_str rfl rfl ?_; refine r_ev rfl rfl ?_; refine r_ev rfl rfl ?_
  refine r_gdec rfl rfl (fun h300 => ?_) (fun h300 => ?_)
  · refine r_pass rfl rfl rfl ?_; refine r_pass rfl rfl rfl ?_; refine r_pass rfl rfl rfl ?_; refine r_ev rfl rfl ?_; refine r_nn ?_; refine r_cond_true rfl ?_; refine r_sr ?_; refine r_ev rfl rfl ?_; refine r_nn ?_; refine r_retc ?_; refine r_then_ret ?_
    exact r_ret1 [] rfl rfl (by simp) ⟨rfl, rfl, rfl⟩
  · refine r_tev rfl rfl rfl ?_; refine r_take rfl ?_
    refine r_len_at rfl rfl hs ?_
    refine r_tev rfl rfl rfl ?_; refine r_ev rfl rfl ?_; refine r_nn ?_
    refine r_cond rfl (fun h60 => ?_) (fun h60 => ?_)
    · refine r_sr ?_; refine r_ev rfl rfl ?_; refine r_nn ?_; refine r_retc ?_; refine r_then_ret ?_
      exact r_ret1 [] rfl rfl (by simp) ⟨rfl, rfl, rfl⟩
    · have hln := lwords_len l
      refine r_skip ?_; refine r_then_normal ?_; refine r_seq ?_; refine r_sr ?_; refine r_ev rfl rfl ?_; refine r_ev rfl rfl ?_
      refine r_callP rfl rfl (lwords_spec g v l (by omega) hs) ?_
      refine r_ev rfl rfl ?_
      refine r_callP rfl rfl (lwords_spec g v l (by omega) hs) ?_
      refine r_ev rfl rfl ?_
      refine r_add_str rfl rfl rfl (by omega) ?_
      skip
      refine r_buildSlice rfl rfl (by rfl) (by rfl) (by rfl) (by rfl) (by rfl) (fun bt => ?_)
      refine r_len_sl rfl rfl ?_; refine r_ev rfl rfl ?_; refine r_nn ?_; refine r_block ?_
      refine r_loop (ι := Nat) (fun k => [(28, .slice (some ⟨bt, 0, none⟩) 3 3), (29, .int .i64 3), (30, .int .i64 k)]) (fun _ => g) (fun _ => [.row 9 1 (.slice (some ⟨bt, 0, none⟩) 3 3) 3 ([s, lwords l, lwords l ++ s].map str)]) (fun k => k ≤ 3) (fun k => 3 - k) 0 (by omega) ⟨rfl, rfl, rfl, trivial⟩ rfl rfl ?_
      intro k hk
      refine r_sr ?_; refine r_ev rfl rfl ?_; refine r_nn ?_; refine r_seq ?_
      refine r_cond rfl (fun hlt => ?_) (fun hlt => ?_)
      · have hlt' : k < 3 := by omega
        obtain ⟨t, ht, htl⟩ : ∃ t, [s, lwords l, lwords l ++ s][k]? = some t ∧ t.length ≤ 2000 := by
          rcases k with _ | _ | _ | k
          · exact ⟨_, rfl, by omega⟩
          · exact ⟨_, rfl, by omega⟩
          · exact ⟨_, rfl, by simp; omega⟩
          · omega
        refine r_skip ?_; refine r_then_normal ?_; refine r_seq ?_; refine r_block ?_; refine r_sr ?_
        refine r_indexAddr (j := k) rfl rfl rfl rfl hlt' ?_
        refine r_load1 rfl rfl (v := str t) (rd_row1 0 rfl (by rw [show 0 + k * 1 = k by omega, List.getElem?_map, ht]; rfl)) ?_
        refine r_ev rfl rfl ?_; refine r_nn ?_; refine r_sr ?_; refine r_ev rfl rfl ?_
        refine r_scan rfl rfl (tScan_spec g t (by omega)) (fun g1 sv1 hg1 h1 => ?_)
        refine r_ev rfl rfl ?_; refine r_ev rfl rfl ?_; refine r_ev rfl rfl ?_; refine r_alloc rfl (fun b => ?_); refine r_ev rfl rfl ?_; refine r_storeA 0 rfl rfl rfl rfl (by rfl) rfl rfl ?_; refine r_nn ?_; refine r_sr ?_; refine r_ev rfl rfl ?_
        refine r_scan rfl rfl (refScan_spec g1 t (by omega)) (fun g2 sv2 hg2 h2 => ?_)
        refine r_ev rfl rfl ?_; refine r_ev rfl rfl ?_; refine r_ev rfl rfl ?_; refine r_alloc rfl (fun b => ?_); refine r_ev rfl rfl ?_; refine r_storeA 0 rfl rfl rfl rfl (by rfl) rfl rfl ?_; refine r_nn ?_; refine r_sr ?_; refine r_loadB 1 rfl rfl rfl (by rfl) ?_; refine r_loadB 0 rfl rfl rfl (by rfl) ?_
        refine r_v rfl (val_neq_pair rfl rfl) ?_
        refine r_ev rfl rfl ?_
        refine r_gdec rfl rfl (fun h => absurd h (by simp)) (fun h => ?_)
        refine r_tev rfl rfl rfl ?_; refine r_tev rfl rfl rfl ?_; refine r_take rfl ?_
        refine r_callP rfl rfl (same_tt (same_refl _ true) (h1.mono hg2) h2) ?_
        refine r_tev rfl rfl rfl ?_; refine r_ev rfl rfl ?_; refine r_nn ?_; refine r_cond_false rfl ?_; refine r_skip ?_; refine r_in_normal ?_; refine r_then_normal ?_; refine r_region ?_
        refine r_add rfl rfl rfl (by omega) ?_
        refine r_ev rfl rfl ?_; refine r_nn ?_
        refine r_shrink hE (Ghost.le_trans hg1 hg2) ?_
        refine r_drop (own' := [.row 9 1 (.slice (some ⟨bt, 0, none⟩) 3 3) 3 ([s, lwords l, lwords l ++ s].map str)]) (.cons _ (.cons _ (.refl _))) ?_
        exact r_again (k + 1) (by omega) (by omega) ⟨rfl, rfl, rfl, trivial⟩ rfl rfl
      · refine r_exit ?_; refine r_then_exit ?_; refine r_then_exit ?_; refine r_in_exit ?_; refine r_then_normal ?_; refine r_sr ?_; refine r_ev rfl rfl ?_; refine r_nn ?_; refine r_retc ?_
        exact r_ret1 [] rfl rfl (by simp) ⟨rfl, rfl, rfl⟩

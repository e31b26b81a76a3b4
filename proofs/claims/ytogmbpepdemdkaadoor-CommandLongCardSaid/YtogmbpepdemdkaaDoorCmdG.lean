/- The walks of chapter 37's laws: first, piece, CommandParses. -/
import Derived.Test.YtogmbpepdemdkaaDoorCmdF
namespace Go.Proofs.YtogmbpepdemdkaaDoor
open Go Go.Eng Go.Proofs
set_option maxRecDepth 10000
attribute [local irreducible] wpList Code.wp Run bodyPost Go.Eng.Ends Exit.then Exit.inBlock Again Wq Kq
theorem fmt_facts {c : Cmd} {t : Bytes} (h : formatCmd c = some t) : (∀ n ∈ c.nums, 0 ≤ n ∧ n ≤ 999999) ∧ c.text.length ≤ t.length ∧ t.length ≤ 4100 := by
  unfold formatCmd at h
  split at h
  · cases h
  · rename_i f hf
    unfold formatForm at h
    split at h
    · cases h
    · rename_i hc
      split at h
      · rename_i hall
        split at h
        · rename_i hl
          simp only [Option.some.injEq] at h
          subst h
          refine ⟨hall, ?_, hl⟩
          simp only [not_or, Decidable.not_not] at hc
          have h5 := hc.2
          unfold textOf
          cases hx : f.txt with
          | true => simp; omega
          | false =>
            rw [hx] at h5
            simp only [ne_eq, decide_eq_false_iff_not, Decidable.not_not] at h5
            rw [h5]; simp
        · cases h
      · cases h
theorem wide {c : Cmd} (h : ∀ n ∈ c.nums, 0 ≤ n ∧ n ≤ 999999) : ∀ n ∈ c.nums, -9223372036854775808 ≤ n ∧ n ≤ 9223372036854775807 := fun n hn => by have := h n hn; omega
theorem parse_ex : parseCmd [102, 105, 108, 108, 32, 48, 32, 50] = some ⟨5, [0, 2], []⟩ := rfl
theorem parse_ex2 : parseCmd [102, 105, 108, 108, 32, 48] = none := rfl
theorem cfirst_spec (g : Ghost) {o : Obj} (hp : PowTab o) (he : ErrOk g) : PureO Tryd.prog 24 [] g (tabRes o) (.bool true) := by
  refine spec_of_run Tryd.func24 rfl Tryd.ntmps24 rfl fun E hE => ?_
  refine r_sr ?_; refine r_ev rfl rfl ?_; refine r_nn ?_; refine r_sr ?_
  refine r_callSO 0 rfl rfl rfl (Parse_spec g hp he [102, 105, 108, 108, 32, 48, 32, 50] (by decide)) ?_
  rintro v g1 ⟨cv, e, rfl, hm⟩ hle1
  rw [parse_ex] at hm
  obtain ⟨rfl, hc⟩ := hm
  have hc' := hc
  obtain ⟨sl, rfl, h1, hs⟩ := hc'
  refine r_ev rfl rfl ?_; refine r_ev rfl rfl ?_; refine r_ev rfl rfl ?_
  refine r_alloc rfl (fun b1 => ?_)
  refine r_storeA 0 rfl rfl rfl rfl (by rfl) (by repeat' (first | exact rfl | assumption | refine all_cons ?_ ?_)) rfl ?_; refine r_ev rfl rfl ?_; refine r_nn ?_; refine r_sr ?_
  refine r_callSO 1 rfl rfl rfl (Parse_spec g1 hp (he.mono hle1) [102, 105, 108, 108, 32, 48] (by decide)) ?_
  rintro v g2 ⟨cv2, e2, rfl, hm⟩ hle2
  rw [parse_ex2] at hm
  obtain ⟨rfl, hz⟩ := hm
  obtain ⟨sl2, rfl, h12, hs2⟩ := hz
  have hc2 := hc.mono hle2
  have hs3 := hs.mono hle2
  have hle := Ghost.le_trans hle1 hle2
  obtain ⟨bn, off, cap, rfl, hxn⟩ := hs3.held (j := 1) (by decide)
  have hcell : g2 bn (off + 1 * 1) = some (.int .i64 2) := hxn 1 _ rfl
  have hw : ∀ n ∈ (⟨5, [0, 2], []⟩ : Cmd).nums, -9223372036854775808 ≤ n ∧ n ≤ 9223372036854775807 := by decide
  refine r_ev rfl rfl ?_; refine r_ev rfl rfl ?_; refine r_ev rfl rfl ?_
  refine r_alloc rfl (fun b3 => ?_)
  refine r_storeA 0 rfl rfl rfl rfl (by rfl) (by repeat' (first | exact rfl | assumption | refine all_cons ?_ ?_)) rfl ?_; refine r_ev rfl rfl ?_; refine r_nn ?_; refine r_sr ?_; refine r_ev rfl rfl ?_; refine r_ev rfl rfl ?_; refine r_ev rfl rfl ?_; refine r_take rfl ?_; refine r_fieldAddr rfl rfl ?_; refine r_take rfl ?_; refine r_loadB1 1 rfl rfl rfl rfl ?_; refine r_tev rfl rfl rfl ?_; refine r_ev rfl rfl ?_; refine r_ev rfl rfl ?_; refine r_take rfl ?_; refine r_fieldAddr rfl rfl ?_; refine r_take rfl ?_; refine r_loadB1 1 rfl rfl rfl rfl ?_; refine r_take rfl ?_; refine r_len_sl rfl rfl ?_; refine r_tev rfl rfl rfl ?_; refine r_ev rfl rfl ?_; refine r_ev rfl rfl ?_; refine r_take rfl ?_; refine r_fieldAddr rfl rfl ?_; refine r_take rfl ?_; refine r_loadB1 1 rfl rfl rfl rfl ?_; refine r_take rfl ?_
  refine r_indexAddr (j := 1) rfl rfl rfl rfl (by decide) ?_
  refine r_take rfl ?_
  refine r_load1 rfl rfl (rd_g1 hcell) ?_
  refine r_tev rfl rfl rfl ?_; refine r_ev rfl rfl ?_; refine r_ev rfl rfl ?_; refine r_tev rfl rfl rfl ?_; refine r_tev rfl rfl rfl ?_; refine r_ev rfl rfl ?_; refine r_ev rfl rfl ?_; refine r_take rfl ?_; refine r_loadB 1 rfl rfl rfl (by rfl) ?_; refine r_take rfl ?_
  refine r_callO 2 rfl rfl rfl (Format_spec g2 hp _ _ hc2 (by decide) hw) ?_
  rw [show fmtS ⟨5, [0, 2], []⟩ = [102, 105, 108, 108, 32, 48, 32, 50] by unfold fmtS; rw [format_parse parse_ex]; rfl]
  refine r_tev rfl rfl rfl ?_; refine r_ev rfl rfl ?_; refine r_ev rfl rfl ?_; refine r_take rfl ?_; refine r_loadB 1 rfl rfl rfl (by rfl) ?_; refine r_take rfl ?_
  refine r_callO 2 rfl rfl rfl (Valid_spec g2 hp _ _ hc2 (by decide) hw) ?_
  rw [format_parse parse_ex]
  refine r_ev rfl rfl ?_; refine r_ev rfl rfl ?_; refine r_nn ?_; refine r_retc ?_
  refine r_shrink hE hle ?_
  exact r_ret1 [_] rfl rfl (.cons _ (.cons _ (List.Sublist.refl _))) ⟨rfl, rfl, rfl⟩
def pieceL : List Bytes := [[108, 111, 97, 100], [116, 121, 112, 101, 115], [104, 111, 108, 101, 115], [115, 121, 110, 116, 104], [102, 105, 108, 108], [112, 117, 116], [109, 111, 118, 101, 115], [109, 111, 118, 101], [114, 117, 110], [117, 110, 100, 111], [112, 114, 105, 110, 116], [32], [48], [49, 50], [57, 57, 57, 57, 57, 57], [49, 48, 48, 48, 48, 48, 48], [48, 48, 55], [45, 49], [120], [108, 101, 116, 32, 120, 32, 61, 32, 49, 59], [32, 32], [10], [0]]
def pieceOf (k : Int) : Bytes := pieceL.getD (modI k 23).toNat []
theorem piece_len (k : Int) : (pieceOf k).length ≤ 10 := by
  unfold pieceOf
  rw [List.getD_eq_getElem?_getD]
  cases h : pieceL[(modI k 23).toNat]? with
  | none => simp
  | some x =>
    have : ∀ x ∈ pieceL, x.length ≤ 10 := by decide
    exact this x (List.mem_of_getElem? h)
theorem modI_le2 (a m : Int) (h : 1 ≤ m) : 0 ≤ modI a m ∧ modI a m < m := by
  unfold modI; rw [if_neg (by omega)]
  exact ⟨Int.emod_nonneg _ (by omega), Int.emod_lt_of_pos _ (by omega)⟩
theorem piece_spec (g : Ghost) (k : Int) : Pure Tryd.prog 25 [.int .i64 k] g (str (pieceOf k)) := by
  have hm := modI_le2 k 23 (by omega)
  refine spec_of_run Tryd.func25 rfl Tryd.ntmps25 rfl fun E hE => ?_
  refine r_sr ?_; refine r_ev rfl rfl ?_; refine r_nn ?_; refine r_sr ?_
  refine r_buildSlice rfl rfl (by rfl) (by rfl) (by rfl) (by rfl) (by rfl) (fun b => ?_)
  refine r_ev rfl rfl ?_; refine r_nn ?_; refine r_sr ?_; refine r_ev rfl rfl ?_; refine r_ev rfl rfl ?_; refine r_ev rfl rfl ?_; refine r_len_sl rfl rfl ?_
  refine r_callP rfl rfl (Mod_spec g k 23 (by omega)) ?_
  skip
  refine r_indexAddr (j := (modI k 23).toNat) rfl rfl rfl (by omega) (by omega) ?_
  refine r_load1 rfl rfl (v := str (pieceOf k)) (rd_row1 0 rfl ?_) ?_
  · show (pieceL.map str)[0 + (modI k 23).toNat * 1]? = _
    have hl : (modI k 23).toNat < pieceL.length := by show _ < 23; omega
    rw [show 0 + (modI k 23).toNat * 1 = (modI k 23).toNat by omega, List.getElem?_map, List.getElem?_eq_getElem hl]
    simp only [pieceOf, List.getD_eq_getElem?_getD, List.getElem?_eq_getElem hl]
    rfl
  refine r_ev rfl rfl ?_; refine r_nn ?_; refine r_retc ?_
  exact r_ret1 [] rfl rfl (by simp) ⟨rfl, rfl, rfl⟩
theorem CommandParses_spec (g : Ghost) {o : Obj} (hp : PowTab o) (he : ErrOk g) (s : Bytes) (hs : s.length ≤ 9223372036854775807) (v : Value) (l : List Int) (hsl : SlAt g 1 v l.length (ints l)) (_hw : ∀ n ∈ l, -9223372036854775808 ≤ n ∧ n ≤ 9223372036854775807) :
    PureO Tryd.prog 9 [str s, v] g (tabRes o) (.bool true) := by
  refine spec_of_run Tryd.func9 rfl Tryd.ntmps9 rfl fun E hE => ?_
  refine r_sr ?_; refine r_ev rfl rfl ?_; refine r_nn ?_; refine r_seq ?_; refine r_sr ?_
  refine r_callO 0 rfl rfl rfl (cfirst_spec g hp he) ?_
  refine r_ev rfl rfl ?_; refine r_nn ?_; refine r_cond_false rfl ?_; refine r_skip ?_; refine r_then_normal ?_; refine r_seq ?_; refine r_sr ?_; refine r_ev rfl rfl ?_; refine r_len_str rfl rfl ?_; refine r_ev rfl rfl ?_; refine r_ev rfl rfl ?_
  refine r_gdec rfl rfl (fun h100 => ?_) (fun h100 => ?_)
  · refine r_pass rfl rfl rfl ?_; refine r_pass rfl rfl rfl ?_; refine r_pass rfl rfl rfl ?_; refine r_ev rfl rfl ?_; refine r_nn ?_; refine r_cond_true rfl ?_; refine r_sr ?_; refine r_ev rfl rfl ?_; refine r_nn ?_; refine r_retc ?_; refine r_then_ret ?_
    exact r_ret1 [_] rfl rfl (List.Sublist.refl _) ⟨rfl, rfl, rfl⟩
  refine r_tev rfl rfl rfl ?_; refine r_take rfl ?_; refine r_len_at rfl rfl (by assumption) ?_; refine r_tev rfl rfl rfl ?_; refine r_ev rfl rfl ?_; refine r_nn ?_
  refine r_cond rfl (fun h12 => ?_) (fun h12 => ?_)
  · refine r_sr ?_; refine r_ev rfl rfl ?_; refine r_nn ?_; refine r_retc ?_; refine r_then_ret ?_
    exact r_ret1 [_] rfl rfl (List.Sublist.refl _) ⟨rfl, rfl, rfl⟩
  refine r_skip ?_; refine r_then_normal ?_; refine r_sr ?_; refine r_ev rfl rfl ?_; refine r_ev rfl rfl ?_; refine r_nn ?_; refine r_seq ?_; refine r_sr ?_; refine r_ev rfl rfl ?_; refine r_nn ?_; refine r_block ?_
  refine r_loop (ι := Nat × Bytes × Bytes) (fun p => [(0, str s), (1, v), (5, str p.2.1), (6, str p.2.2), (7, .int .i64 p.1)]) (fun _ => g) (fun _ => [tabRes o]) (fun p => p.1 ≤ l.length ∧ p.2.1.length ≤ 12 * p.1 ∧ p.2.2.length ≤ 12 * p.1) (fun p => l.length - p.1) (0, [], []) ⟨by omega, by simp, by simp⟩ ⟨rfl, rfl, rfl, rfl, rfl, trivial⟩ rfl rfl ?_
  rintro ⟨i, t, u⟩ ⟨hi, ht, hu⟩
  simp only at hi ht hu
  show Run E _ [(0, str s), (1, v), (5, str t), (6, str u), (7, .int .i64 i)] g [tabRes o] _
  refine r_seq ?_; refine r_sr ?_; refine r_ev rfl rfl ?_; refine r_ev rfl rfl ?_; refine r_len_at rfl rfl (by assumption) ?_; refine r_ev rfl rfl ?_; refine r_nn ?_
  refine r_cond rfl (fun hlt => ?_) (fun hlt => ?_)
  · have hlt' : i < l.length := by omega
    obtain ⟨b, off, cap, rfl, hx⟩ := hsl.held hlt'
    have hcell : g b (off + i * 1) = some (.int .i64 l[i]) := by rw [Nat.mul_one]; exact hx i _ (by simp [ints, hlt'])
    have hpl := piece_len l[i]
    refine r_skip ?_; refine r_then_normal ?_; refine r_seq ?_; refine r_block ?_; refine r_sr ?_; refine r_ev rfl rfl ?_; refine r_ev rfl rfl ?_; refine r_ev rfl rfl ?_; refine r_indexAddr rfl rfl rfl rfl (by omega) ?_
    refine r_load1 rfl rfl (rd_g1 hcell) ?_
    refine r_callP rfl rfl (piece_spec g _) ?_
    refine r_add_str rfl rfl rfl (by omega) ?_
    refine r_ev rfl rfl ?_; refine r_nn ?_; refine r_seq ?_; refine r_sr ?_; refine r_ev rfl rfl ?_; refine r_ev rfl rfl ?_; refine r_nn ?_
    refine r_cond rfl (fun h0 => ?_) (fun h0 => ?_)
    · refine r_region ?_; refine r_ev rfl rfl ?_
      refine r_add_str rfl rfl rfl (by rw [List.length_singleton]; omega) ?_
      refine r_ev rfl rfl ?_; refine r_nn ?_; refine r_region ?_; refine r_ev rfl rfl ?_; refine r_ev rfl rfl ?_; refine r_ev rfl rfl ?_; refine r_indexAddr rfl rfl rfl rfl (by omega) ?_
      refine r_load1 rfl rfl (rd_g1 hcell) ?_
      refine r_callP rfl rfl (piece_spec g _) ?_
      refine r_add_str rfl rfl rfl (by rw [List.length_append, List.length_singleton]; omega) ?_
      refine r_ev rfl rfl ?_; refine r_nil ?_; refine r_in_normal ?_; refine r_then_normal ?_; refine r_region ?_; refine r_ev rfl rfl ?_; refine r_add rfl rfl rfl (by omega) ?_; refine r_ev rfl rfl ?_; refine r_nn ?_
      exact r_again (i + 1, _, _) ⟨by simp only; omega, by simp only [List.length_append]; omega, by simp only [List.length_append, List.length_singleton]; omega⟩ (by simp only; omega) ⟨rfl, rfl, rfl, rfl, rfl, trivial⟩ rfl rfl
    · refine r_skip ?_; refine r_then_normal ?_; refine r_region ?_; refine r_ev rfl rfl ?_; refine r_ev rfl rfl ?_; refine r_ev rfl rfl ?_; refine r_indexAddr rfl rfl rfl rfl (by omega) ?_
      refine r_load1 rfl rfl (rd_g1 hcell) ?_
      refine r_callP rfl rfl (piece_spec g _) ?_
      refine r_add_str rfl rfl rfl (by omega) ?_
      refine r_ev rfl rfl ?_; refine r_nil ?_; refine r_in_normal ?_; refine r_then_normal ?_; refine r_region ?_; refine r_ev rfl rfl ?_; refine r_add rfl rfl rfl (by omega) ?_; refine r_ev rfl rfl ?_; refine r_nn ?_
      exact r_again (i + 1, _, _) ⟨by simp only; omega, by simp only [List.length_append]; omega, by simp only [List.length_append]; omega⟩ (by simp only; omega) ⟨rfl, rfl, rfl, rfl, rfl, trivial⟩ rfl rfl
  have hpl := piece_len s.length
  refine r_exit ?_; refine r_then_exit ?_; refine r_then_exit ?_; refine r_in_exit ?_; refine r_then_normal ?_; refine r_seq ?_; refine r_sr ?_; refine r_ev rfl rfl ?_; refine r_ev rfl rfl ?_; refine r_ev rfl rfl ?_; refine r_ev rfl rfl ?_; refine r_len_str rfl rfl ?_
  refine r_callP rfl rfl (piece_spec g _) ?_
  refine r_add_str rfl rfl rfl (by rw [List.length_singleton]; omega) ?_
  refine r_ev rfl rfl ?_
  refine r_add_str rfl rfl rfl (by rw [List.length_append, List.length_singleton]; omega) ?_
  obtain ⟨x, hxd⟩ : ∃ x, pieceOf s.length ++ [32] ++ s = x := ⟨_, rfl⟩
  have hxl : x.length ≤ 300 := by rw [← hxd]; simp only [List.length_append, List.length_singleton]; omega
  rw [hxd]
  refine r_buildSlice rfl rfl (by rfl) (by rfl) (by rfl) (by rfl) (by rfl) (fun bx => ?_)
  refine r_publishRow (fun g1 hg1 hsx => ?_)
  obtain ⟨_, _, _, he1, hxs⟩ := hsx.held (j := 0) (by decide)
  simp only [Value.slice.injEq, Option.some.injEq, Addr.mk.injEq, and_true, true_and] at he1
  obtain ⟨⟨rfl, rfl⟩, rfl⟩ := he1
  obtain ⟨xs, hxsd⟩ : ∃ xs : List Bytes, xs = [s, t, u, x] := ⟨_, rfl⟩
  have hxs4 : xs.length = 4 := by rw [hxsd]; rfl
  have hxsl : ∀ y ∈ xs, y.length ≤ 300 := by
    rw [hxsd]
    intro y hy
    simp only [List.mem_cons, List.not_mem_nil, or_false] at hy
    rcases hy with rfl | rfl | rfl | rfl <;> omega
  have hcell : ∀ (j : Nat) (h : j < xs.length), g1 bx (0 + j * 1) = some (str xs[j]) := by
    intro j h
    rw [Nat.mul_one]
    refine hxs j _ ?_
    show (([s, t, u, x] : List Bytes).map str)[j]? = _
    rw [← hxsd]; simp [h]
  clear hxs hsx
  refine r_len_sl rfl rfl ?_; refine r_ev rfl rfl ?_; refine r_nn ?_; refine r_block ?_
  refine r_loop (ι := Nat × Ghost) (fun p => [(57, .slice (some ⟨bx, 0, none⟩) 4 4), (58, .int .i64 4), (59, .int .i64 p.1)]) (fun p => p.2) (fun _ => [tabRes o]) (fun p => p.1 ≤ 4 ∧ Ghost.le g1 p.2) (fun p => 4 - p.1) (0, g1) ⟨by omega, Ghost.le_refl _⟩ ⟨rfl, rfl, rfl, trivial⟩ rfl rfl ?_
  rintro ⟨i, g2⟩ ⟨hi, hle⟩
  simp only at hi hle
  show Run E _ [(57, .slice (some ⟨bx, 0, none⟩) 4 4), (58, .int .i64 4), (59, .int .i64 i)] g2 [tabRes o] _
  refine r_sr ?_; refine r_ev rfl rfl ?_; refine r_nn ?_; refine r_seq ?_
  refine r_cond rfl (fun hlt => ?_) (fun hlt => ?_)
  · have hlt' : i < xs.length := by omega
    have hyl := hxsl _ (List.getElem_mem hlt')
    have hc := hle _ _ _ (hcell i hlt')
    generalize xs[i] = y at hyl hc
    refine r_skip ?_; refine r_then_normal ?_; refine r_seq ?_; refine r_block ?_; refine r_sr ?_; refine r_indexAddr rfl rfl rfl rfl (by omega) ?_
    refine r_load1 rfl rfl (rd_g1 hc) ?_
    refine r_ev rfl rfl ?_; refine r_nn ?_; refine r_sr ?_; refine r_ev rfl rfl ?_
    refine r_callSO 0 rfl rfl rfl (Parse_spec g2 hp (he.mono (Ghost.le_trans hg1 hle)) y (by omega)) ?_
    rintro v g3 ⟨cv, e, rfl, hm⟩ hle3
    cases hpy : parseCmd y with
    | none =>
      rw [hpy] at hm
      obtain ⟨rfl, hca⟩ := hm
      have hca' := hca
      obtain ⟨sl, rfl, h1, _⟩ := hca'
      refine r_ev rfl rfl ?_; refine r_ev rfl rfl ?_; refine r_ev rfl rfl ?_
      refine r_alloc rfl (fun b10 => ?_)
      refine r_storeA 0 rfl rfl rfl rfl (by rfl) (by repeat' (first | exact rfl | assumption | refine all_cons ?_ ?_)) rfl ?_; refine r_ev rfl rfl ?_; refine r_nn ?_; refine r_sr ?_; refine r_ev rfl rfl ?_
      refine r_callN rfl rfl (rParse_spec g3 y (by omega)) ?_
      rintro v g4 ⟨cv, e, rfl, hm⟩ hle4
      rw [hpy] at hm
      obtain ⟨rfl, hcb⟩ := hm
      have hcb' := hcb
      obtain ⟨sl', rfl, h1', _⟩ := hcb'
      refine r_ev rfl rfl ?_; refine r_ev rfl rfl ?_; refine r_ev rfl rfl ?_
      refine r_alloc rfl (fun b12 => ?_)
      refine r_storeA 0 rfl rfl rfl rfl (by rfl) (by repeat' (first | exact rfl | assumption | refine all_cons ?_ ?_)) rfl ?_; refine r_ev rfl rfl ?_; refine r_nn ?_; refine r_sr ?_; refine r_ev rfl rfl ?_; refine r_ev rfl rfl ?_; refine r_ev rfl rfl ?_; refine r_ev rfl rfl ?_; refine r_take rfl ?_; refine r_loadB 1 rfl rfl rfl (by rfl) ?_; refine r_take rfl ?_; refine r_loadB 0 rfl rfl rfl (by rfl) ?_; refine r_take rfl ?_
      refine r_callP rfl rfl (same_spec g4 ⟨0, [], []⟩ _ _ (hca.mono hle4) hcb) ?_
      refine r_tev rfl rfl rfl ?_; refine r_ev rfl rfl ?_; refine r_ev rfl rfl ?_; refine r_tev rfl rfl rfl ?_; refine r_tev rfl rfl rfl ?_; refine r_tev rfl rfl rfl ?_; refine r_pass rfl rfl rfl ?_; refine r_pass rfl rfl rfl ?_; refine r_pass rfl rfl rfl ?_; refine r_pass rfl rfl rfl ?_; refine r_tev rfl rfl rfl ?_; refine r_ev rfl rfl ?_; refine r_nn ?_; refine r_cond_false rfl ?_; refine r_skip ?_; refine r_in_normal ?_; refine r_then_normal ?_; refine r_region ?_; refine r_add rfl rfl rfl (by omega) ?_; refine r_ev rfl rfl ?_; refine r_nn ?_
      refine r_drop (own' := [_]) (.cons _ (.cons _ (List.Sublist.refl _))) ?_
      exact r_again (i + 1, g4) ⟨by simp only; omega, Ghost.le_trans hle (Ghost.le_trans hle3 hle4)⟩ (by simp only; omega) ⟨rfl, rfl, rfl, trivial⟩ rfl rfl
    | some c =>
      rw [hpy] at hm
      obtain ⟨rfl, hca⟩ := hm
      have hfp := format_parse hpy
      have hff := fmt_facts hfp
      have hfs : fmtS c = y := by unfold fmtS; rw [hfp]; rfl
      have hca' := hca
      obtain ⟨sl, rfl, h1, _⟩ := hca'
      refine r_ev rfl rfl ?_; refine r_ev rfl rfl ?_; refine r_ev rfl rfl ?_
      refine r_alloc rfl (fun b10 => ?_)
      refine r_storeA 0 rfl rfl rfl rfl (by rfl) (by repeat' (first | exact rfl | assumption | refine all_cons ?_ ?_)) rfl ?_; refine r_ev rfl rfl ?_; refine r_nn ?_; refine r_sr ?_; refine r_ev rfl rfl ?_
      refine r_callN rfl rfl (rParse_spec g3 y (by omega)) ?_
      rintro v g4 ⟨cv, e, rfl, hm⟩ hle4
      rw [hpy] at hm
      obtain ⟨rfl, hcb⟩ := hm
      have hcb' := hcb
      obtain ⟨sl', rfl, h1', _⟩ := hcb'
      have hca4 := hca.mono hle4
      refine r_ev rfl rfl ?_; refine r_ev rfl rfl ?_; refine r_ev rfl rfl ?_
      refine r_alloc rfl (fun b12 => ?_)
      refine r_storeA 0 rfl rfl rfl rfl (by rfl) (by repeat' (first | exact rfl | assumption | refine all_cons ?_ ?_)) rfl ?_; refine r_ev rfl rfl ?_; refine r_nn ?_; refine r_sr ?_; refine r_ev rfl rfl ?_; refine r_ev rfl rfl ?_; refine r_ev rfl rfl ?_; refine r_ev rfl rfl ?_; refine r_take rfl ?_; refine r_loadB 1 rfl rfl rfl (by rfl) ?_; refine r_take rfl ?_; refine r_loadB 0 rfl rfl rfl (by rfl) ?_; refine r_take rfl ?_
      refine r_callP rfl rfl (same_spec g4 c _ _ hca4 hcb) ?_
      refine r_tev rfl rfl rfl ?_; refine r_ev rfl rfl ?_; refine r_ev rfl rfl ?_; refine r_tev rfl rfl rfl ?_; refine r_tev rfl rfl rfl ?_; refine r_tev rfl rfl rfl ?_; refine r_take rfl ?_; refine r_loadB 1 rfl rfl rfl (by rfl) ?_; refine r_take rfl ?_
      refine r_callO 2 rfl rfl rfl (Format_spec g4 hp c _ hca4 (by omega) (wide hff.1)) ?_
      rw [hfs]
      refine r_tev rfl rfl rfl ?_; refine r_tev rfl rfl rfl ?_; refine r_tev rfl rfl rfl ?_; refine r_ev rfl rfl ?_; refine r_nn ?_
      refine r_cond rfl (fun h => absurd rfl h) (fun _ => ?_)
      refine r_skip ?_; refine r_in_normal ?_; refine r_then_normal ?_; refine r_region ?_; refine r_add rfl rfl rfl (by omega) ?_; refine r_ev rfl rfl ?_; refine r_nn ?_
      refine r_drop (own' := [_]) (.cons _ (.cons _ (List.Sublist.refl _))) ?_
      exact r_again (i + 1, g4) ⟨by simp only; omega, Ghost.le_trans hle (Ghost.le_trans hle3 hle4)⟩ (by simp only; omega) ⟨rfl, rfl, rfl, trivial⟩ rfl rfl
  · refine r_exit ?_; refine r_then_exit ?_; refine r_then_exit ?_; refine r_in_exit ?_; refine r_then_normal ?_; refine r_sr ?_; refine r_ev rfl rfl ?_; refine r_nn ?_; refine r_retc ?_
    refine r_shrink hE (Ghost.le_trans hg1 hle) ?_
    exact r_ret1 [_] rfl rfl (List.Sublist.refl _) ⟨rfl, rfl, rfl⟩
end Go.Proofs.YtogmbpepdemdkaaDoor

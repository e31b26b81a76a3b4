/- The walk of typedholesmake.Tokens. -/
import Derived.Test.YtblbbjhbigpgnaaGreatDoorTypJ
import Derived.Test.YtblbbjhbigpgnaaGreatDoorRefD
import Derived.Test.YtblbbjhbigpgnaaGreatDoorPlainD
namespace Go.Th
theorem kindOf_len {s : Bytes} (h : kindOf s ≠ 0) : s.length ≤ 12 := by
  unfold kindOf at h
  by_cases h1 : isKeyword s = true
  · have h2 : s ∈ keywords := by simpa [isKeyword] using h1
    have : ∀ x ∈ keywords, x.length ≤ 12 := by decide
    exact this s h2
  rw [if_neg h1] at h
  by_cases h2 : isLower s = true
  · simp only [isLower, Bool.and_eq_true, decide_eq_true_eq] at h2; exact h2.1.2
  rw [if_neg h2] at h
  by_cases h3 : isUpper s = true
  · simp only [isUpper, Bool.and_eq_true, decide_eq_true_eq] at h3; exact h3.2
  rw [if_neg h3] at h
  by_cases h4 : isInteger s = true
  · simp only [isInteger, Bool.and_eq_true, decide_eq_true_eq] at h4; have := h4.1.1.2; omega
  rw [if_neg h4] at h
  by_cases h5 : isMark s = true
  · rcases mark_cases h5 with rfl | ⟨c, _, rfl⟩ <;> simp
  rw [if_neg h5] at h
  exact absurd rfl h
end Go.Th
namespace Go.Proofs.YtblbbjhbigpgnaaGreatDoor
open Go Go.Eng Go.Th Go.Proofs
set_option maxRecDepth 10000
set_option maxHeartbeats 4000000
attribute [local irreducible] wpList Code.wp Run bodyPost Go.Eng.Ends Exit.then Exit.inBlock Again Wq Kq
def fixTok (t : Tok) : Tok := ⟨t.kind, t.text, modI t.pos 4000⟩
def goodToks (l : List Tok) : List Tok := (l.map fixTok).filter validTok
theorem goodToks_succ {l : List Tok} {k : Nat} (h : k < l.length) : goodToks (l.take (k + 1)) = goodToks (l.take k) ++ if validTok (fixTok l[k]) then [fixTok l[k]] else [] := by
  rw [List.take_succ_eq_append_getElem h, goodToks, List.map_append, List.filter_append]
  congr 1
  simp only [List.map_cons, List.map_nil, List.filter_cons, List.filter_nil]
theorem goodToks_len (l : List Tok) : (goodToks l).length ≤ l.length := by
  have := List.length_filter_le validTok (l.map fixTok)
  rw [List.length_map] at this
  exact this
theorem Tokens_spec (g : Ghost) (v : Value) (l : List Tok) (hl : l.length ≤ 1000) (hb : ∀ t ∈ l, t.text.length ≤ 9223372036854775807) (hs : ToksAt g v l) : SpecN Tryz.prog 23 [v] g fun v' g' => ToksAt g' v' (goodToks l) := by
  refine spec_of_run Tryz.func23 rfl Tryz.ntmps23 rfl fun E hE => ?_
  refine r_sr ?_; refine r_ev rfl rfl ?_; refine r_nn ?_; refine r_sr ?_; refine r_ev rfl rfl ?_; refine r_nn ?_; refine r_seq ?_; refine r_sr ?_; refine r_ev rfl rfl ?_; refine r_nn ?_; refine r_block ?_
  refine r_nilRow 51 3 ?_
  refine r_loop (ι := Nat × Value) (fun p => [(0, v), (3, p.2), (4, .int .i64 p.1)]) (fun _ => g) (fun p => [.row 51 3 p.2 (goodToks (l.take p.1)).length ((goodToks (l.take p.1)).flatMap tokCells)]) (fun p => p.1 ≤ l.length) (fun p => l.length - p.1) (0, .slice none 0 0) (by simp) ⟨rfl, rfl, rfl, trivial⟩ rfl rfl ?_
  rintro ⟨k, sv⟩ hk
  simp only at hk
  show Run E _ [(0, v), (3, sv), (4, .int .i64 k)] g [.row 51 3 sv (goodToks (l.take k)).length ((goodToks (l.take k)).flatMap tokCells)] _
  refine r_seq ?_; refine r_sr ?_; refine r_ev rfl rfl ?_; refine r_ev rfl rfl ?_; refine r_len_at rfl rfl (by assumption) ?_; refine r_ev rfl rfl ?_; refine r_nn ?_
  refine r_cond rfl (fun hlt => ?_) (fun hlt => ?_)
  · have hlt' : k < l.length := by omega
    have hsucc := goodToks_succ hlt'
    have hlen := goodToks_len (l.take k)
    rw [List.length_take] at hlen
    have htl := hb _ (List.getElem_mem hlt')
    obtain ⟨b0, off, cap, rfl, hx⟩ := hs.held hlt'
    refine r_skip ?_; refine r_then_normal ?_; refine r_seq ?_; refine r_block ?_; refine r_sr ?_; refine r_ev rfl rfl ?_; refine r_ev rfl rfl ?_; refine r_indexAddr rfl rfl rfl rfl (by omega) ?_
    refine r_load rfl rfl (vs := tokCells l[k]) (toks_rd hx hlt') rfl ?_
    skip
    refine r_alloc rfl (fun b5 => ?_)
    refine r_storeA 0 rfl rfl rfl rfl (by rfl) (by repeat' (first | exact rfl | assumption | refine all_cons ?_ ?_)) rfl ?_; refine r_nn ?_; refine r_sr ?_; refine r_fieldAddr rfl rfl ?_; refine r_loadB1 0 rfl rfl rfl rfl ?_
    -- STOP1
    refine r_callP rfl rfl (Mod_spec g l[k].pos 4000 (by omega)) ?_
    refine r_fieldAddr rfl rfl ?_; refine r_store1 0 rfl rfl rfl rfl rfl rfl ?_; refine r_nn ?_; refine r_sr ?_; refine r_loadB 0 rfl rfl rfl (by rfl) ?_
    refine r_callP rfl rfl (Valid_spec g (fixTok l[k]) htl) ?_
    cases hv : validTok (fixTok l[k]) with
    | false =>
      rw [hv] at hsucc
      simp only [Bool.false_eq_true, if_false, List.append_nil] at hsucc
      refine r_nn ?_; refine r_cond_false rfl ?_; refine r_skip ?_; refine r_in_normal ?_; refine r_then_normal ?_; refine r_region ?_; refine r_ev rfl rfl ?_; refine r_add rfl rfl rfl (by omega) ?_; refine r_ev rfl rfl ?_; refine r_nn ?_
      refine r_drop (own' := [_]) (.cons _ (List.Sublist.refl _)) ?_
      exact r_again (k + 1, sv) (by simp only; omega) (by simp only; omega) ⟨rfl, rfl, rfl, trivial⟩ rfl (by simp only; rw [hsucc])
    | true =>
      rw [hv] at hsucc
      simp only [if_true] at hsucc
      refine r_nn ?_; refine r_cond_true rfl ?_; refine r_region ?_; refine r_ev rfl rfl ?_; refine r_loadB 0 rfl rfl rfl (by rfl) ?_
      refine r_buildSlice rfl rfl (by rfl) (by rfl) (by rfl) (by rfl) (by rfl) (fun b2 => ?_)
      refine r_appendRow 2 0 rfl rfl rfl rfl rfl (by rfl) (by rfl) rfl (by unfold maxLen; omega) (by omega) (fun v' _ => ?_)
      refine r_ev rfl rfl ?_; refine r_nil ?_; refine r_in_normal ?_; refine r_then_normal ?_; refine r_region ?_; refine r_ev rfl rfl ?_; refine r_add rfl rfl rfl (by omega) ?_; refine r_ev rfl rfl ?_; refine r_nn ?_
      refine r_drop (own' := [_]) (.cons _ (.cons _ (List.Sublist.refl _))) ?_
      refine r_again (k + 1, v') (by simp only; omega) (by simp only; omega) ⟨rfl, rfl, rfl, trivial⟩ rfl ?_
      simp only
      rw [hsucc, List.length_append, List.flatMap_append]
      rfl
  · have hkl : k = l.length := by omega
    subst hkl
    rw [List.take_length]
    refine r_publishRow (fun g1 hg1 h1 => ?_)
    obtain ⟨a, m, c, rfl⟩ := SlAt.form h1
    refine r_exit ?_; refine r_then_exit ?_; refine r_then_exit ?_; refine r_in_exit ?_; refine r_then_normal ?_; refine r_sr ?_; refine r_ev rfl rfl ?_; refine r_ev rfl rfl ?_; refine r_nn ?_; refine r_retc ?_
    exact r_ret1 [] rfl rfl (by simp) ⟨h1, rfl⟩
theorem goodToks_ok (l : List Tok) : ∀ t ∈ goodToks l, t.kind = kindOf t.text ∧ 0 ≤ t.pos ∧ t.pos < 4000 ∧ t.text.length ≤ 12 := by
  intro t ht
  have h := (List.mem_filter.1 ht).2
  simp only [validTok, Bool.and_eq_true, decide_eq_true_eq] at h
  obtain ⟨⟨⟨⟨h1, h2⟩, h3⟩, h4⟩, h5⟩ := h
  exact ⟨h3.symm, h4, h5, kindOf_len (by omega)⟩
theorem goodToks_TB {l : List Tok} (h : l.length ≤ 1000) : TB (goodToks l) := by
  have := goodToks_len l
  refine ⟨by omega, fun t ht => ?_⟩
  obtain ⟨_, h1, h2, h3⟩ := goodToks_ok l t ht
  exact ⟨by omega, by omega, by omega⟩
theorem goodToks_KW (l : List Tok) : KW (goodToks l) := fun t ht => (goodToks_ok l t ht).1
end Go.Proofs.YtblbbjhbigpgnaaGreatDoor
-- sum 6961577c1f688676

/- The walks of chapter 5's laws: scan, words, first. -/
import Derived.Test.YtblbbjhbigpgnaaDoorTypK
import Derived.Test.YtblbbjhbigpgnaaDoorPlainD
import Derived.Test.YtblbbjhbigpgnaaDoorRefD
namespace Go.Proofs.YtblbbjhbigpgnaaDoor
open Go Go.Eng Go.Th Go.Proofs
set_option maxRecDepth 10000
set_option maxHeartbeats 4000000
attribute [local irreducible] wpList Code.wp Run bodyPost Go.Eng.Ends Exit.then Exit.inBlock Again Wq Kq
instance : Pair Tryd.prog 40 := ⟨by kernel_rfl⟩
theorem toksOf_TB (s : Bytes) : TB (toksOf s) := by
  obtain ⟨h1, h2⟩ := toksOf_facts s
  refine ⟨by omega, fun t ht => ?_⟩
  obtain ⟨a1, a2, a3, a4⟩ := h2 t ht
  exact ⟨by omega, by omega, by omega⟩
theorem toksOf_KW (s : Bytes) : KW (toksOf s) := fun t ht => ((toksOf_facts s).2 t ht).1
theorem scan5_spec (g : Ghost) (s : Bytes) (hs : s.length ≤ 9223372036854775807) : SpecN Tryd.prog 12 [str s] g fun v g' => ToksAt g' v (toksOf s) := by
  refine spec_of_run Tryd.func12 rfl Tryd.ntmps12 rfl fun E hE => ?_
  refine r_sr ?_
  refine r_ev rfl rfl ?_; refine r_nn ?_; refine r_sr ?_; refine r_ev rfl rfl ?_
  refine r_call rfl rfl (refScan_spec g s hs) ?_
  rintro v g' own' ⟨rfl, hp⟩ _
  cases hsc : scan s with
  | ok l =>
    rw [hsc] at hp
    obtain ⟨sv, rfl, rfl⟩ := hp
    refine r_publishRow (fun g1 hg1 h1 => ?_)
    obtain ⟨a, m, c, rfl⟩ := SlAt.form h1
    refine r_ev rfl rfl ?_; refine r_ev rfl rfl ?_; refine r_ev rfl rfl ?_
    refine r_alloc rfl (fun b4 => ?_)
    refine r_ev rfl rfl ?_; refine r_storeA 0 rfl rfl rfl rfl (by rfl) (by repeat' (first | exact rfl | assumption | refine all_cons ?_ ?_)) rfl ?_; refine r_nn ?_; refine r_sr ?_; refine r_ev rfl rfl ?_; refine r_ev rfl rfl ?_; refine r_nn ?_; refine r_retc ?_
    exact r_ret1 [] rfl rfl (by simp) ⟨by unfold toksOf; rw [hsc]; exact h1, rfl⟩
  | bad e p =>
    rw [hsc] at hp
    obtain ⟨rfl, rfl⟩ := hp
    refine r_ev rfl rfl ?_; refine r_ev rfl rfl ?_; refine r_ev rfl rfl ?_
    refine r_alloc rfl (fun b4 => ?_)
    refine r_ev rfl rfl ?_; refine r_storeA 0 rfl rfl rfl rfl (by rfl) (by repeat' (first | exact rfl | assumption | refine all_cons ?_ ?_)) rfl ?_; refine r_nn ?_; refine r_sr ?_; refine r_ev rfl rfl ?_; refine r_ev rfl rfl ?_; refine r_nn ?_; refine r_retc ?_
    exact r_ret1 [] rfl rfl (by simp) ⟨by unfold toksOf; rw [hsc]; exact slNil g' 3, rfl⟩
theorem scan5_row (g : Ghost) (s : Bytes) (hs : s.length ≤ 9223372036854775807) : Eng.Spec Tryd.prog 12 [str s] g [] fun v g' own' => g' = g ∧ own' = [.row 44 3 v (toksOf s).length ((toksOf s).flatMap tokCells)] := by
  refine spec_of_run Tryd.func12 rfl Tryd.ntmps12 rfl fun E hE => ?_
  refine r_sr ?_
  refine r_ev rfl rfl ?_; refine r_nn ?_; refine r_sr ?_; refine r_ev rfl rfl ?_
  refine r_call rfl rfl (refScan_spec g s hs) ?_
  rintro v g' own' ⟨rfl, hp⟩ _
  cases hsc : scan s with
  | ok l =>
    rw [hsc] at hp
    obtain ⟨sv, rfl, rfl⟩ := hp
    refine r_rowForm 0 rfl ?_
    rintro ⟨a, m, c, rfl⟩
    refine r_ev rfl rfl ?_; refine r_ev rfl rfl ?_; refine r_ev rfl rfl ?_
    refine r_alloc rfl (fun b4 => ?_)
    refine r_ev rfl rfl ?_; refine r_storeA 0 rfl rfl rfl rfl (by rfl) (by repeat' (first | exact rfl | assumption | refine all_cons ?_ ?_)) rfl ?_; refine r_nn ?_; refine r_sr ?_; refine r_ev rfl rfl ?_; refine r_ev rfl rfl ?_; refine r_nn ?_; refine r_retc ?_
    exact r_ret1 [_] rfl rfl (.cons _ (List.Sublist.refl _)) ⟨rfl, by unfold toksOf; rw [hsc]; rfl⟩
  | bad e p =>
    rw [hsc] at hp
    obtain ⟨rfl, rfl⟩ := hp
    refine r_ev rfl rfl ?_; refine r_ev rfl rfl ?_; refine r_ev rfl rfl ?_
    refine r_alloc rfl (fun b4 => ?_)
    refine r_ev rfl rfl ?_; refine r_storeA 0 rfl rfl rfl rfl (by rfl) (by repeat' (first | exact rfl | assumption | refine all_cons ?_ ?_)) rfl ?_; refine r_nn ?_; refine r_sr ?_; refine r_ev rfl rfl ?_; refine r_ev rfl rfl ?_; refine r_nn ?_; refine r_retc ?_
    refine r_nilRow 44 3 ?_
    exact r_ret1 [_] rfl rfl (.cons_cons _ (List.nil_sublist _)) ⟨rfl, by unfold toksOf; rw [hsc]; rfl⟩
def pieces5 : List Bytes := [[97], [98], [73, 110, 116], [76, 105, 115, 116], [80, 97, 105, 114], [40], [41], [45, 62], [45, 62], [40], [41], [108, 101, 116], [46], [58], [49, 50], [61], [59]]
def word5 (k : Int) : Bytes := pieces5.getD (modI k 17).toNat [] ++ [32]
def words5 (l : List Int) : Bytes := l.flatMap word5
theorem word5_len (k : Int) : (word5 k).length ≤ 6 := by
  unfold word5
  rw [List.getD_eq_getElem?_getD, List.length_append]
  cases h : pieces5[(modI k 17).toNat]? with
  | none => simp
  | some x =>
    have : ∀ x ∈ pieces5, x.length ≤ 4 := by decide
    have := this x (List.mem_of_getElem? h)
    simp
    omega
theorem words5_len (l : List Int) : (words5 l).length ≤ 6 * l.length := by
  induction l with
  | nil => simp [words5]
  | cons x r ih =>
    have := word5_len x
    simp only [words5, List.flatMap_cons, List.length_append, List.length_cons] at ih ⊢
    omega
theorem words5_succ {l : List Int} {k : Nat} (h : k < l.length) : words5 (l.take (k + 1)) = words5 (l.take k) ++ word5 l[k] := by
  rw [List.take_succ_eq_append_getElem h, words5, List.flatMap_append]; simp [words5]
def ints (l : List Int) : List Value := l.map (Value.int .i64)
theorem words5_spec (g : Ghost) (v : Value) (l : List Int) (hl : l.length ≤ 1000) (hs : SlAt g 1 v l.length (ints l)) : SpecN Tryd.prog 15 [v] g fun v' g' => ToksAt g' v' (toksOf (words5 l)) := by
  refine spec_of_run Tryd.func15 rfl Tryd.ntmps15 rfl fun E hE => ?_
  refine r_sr ?_; refine r_ev rfl rfl ?_; refine r_nn ?_; refine r_sr ?_
  refine r_buildSlice rfl rfl (by rfl) (by rfl) (by rfl) (by rfl) (by rfl) (fun b3 => ?_)
  refine r_ev rfl rfl ?_; refine r_nn ?_; refine r_sr ?_; refine r_ev rfl rfl ?_; refine r_nn ?_; refine r_seq ?_; refine r_sr ?_; refine r_ev rfl rfl ?_; refine r_nn ?_; refine r_block ?_
  refine r_loop (ι := Nat) (fun k => [(0, v), (3, .slice (some ⟨b3, 0, none⟩) 17 17), (4, str (words5 (l.take k))), (5, .int .i64 k)]) (fun _ => g) (fun _ => [.row 9 1 (.slice (some ⟨b3, 0, none⟩) 17 17) 17 (pieces5.map str)]) (fun k => k ≤ l.length) (fun k => l.length - k) 0 (by omega) ⟨rfl, rfl, rfl, rfl, trivial⟩ rfl rfl ?_
  intro k hk
  refine r_seq ?_; refine r_sr ?_; refine r_ev rfl rfl ?_; refine r_ev rfl rfl ?_; refine r_len_at rfl rfl (by assumption) ?_; refine r_ev rfl rfl ?_; refine r_nn ?_
  refine r_cond rfl (fun hlt => ?_) (fun hlt => ?_)
  · have hlt' : k < l.length := by omega
    have hlen := words5_len (l.take k)
    rw [List.length_take] at hlen
    have hlw := word5_len l[k]
    obtain ⟨b, off, cap, rfl, hx⟩ := hs.held hlt'
    have hm : 0 ≤ modI l[k] 17 ∧ modI l[k] 17 < 17 := by unfold modI; rw [if_neg (by omega)]; omega
    refine r_skip ?_; refine r_then_normal ?_; refine r_seq ?_; refine r_block ?_; refine r_region ?_; refine r_ev rfl rfl ?_; refine r_ev rfl rfl ?_; refine r_ev rfl rfl ?_; refine r_ev rfl rfl ?_; refine r_indexAddr rfl rfl rfl rfl (by omega) ?_
    refine r_load1 rfl rfl (v := .int .i64 l[k]) (rd_g1 (hx (k * 1) _ (by simp [ints, hlt']))) ?_
    refine r_ev rfl rfl ?_; refine r_len_sl rfl rfl ?_
    refine r_callP rfl rfl (Mod_spec g l[k] 17 (by omega)) ?_
    skip
    refine r_indexAddr (j := (modI l[k] 17).toNat) rfl rfl rfl (by omega) (by omega) ?_
    refine r_load1 rfl rfl (v := str (pieces5.getD (modI l[k] 17).toNat [])) (rd_row1 0 rfl ?_) ?_
    · have hl : (modI l[k] 17).toNat < pieces5.length := by show _ < 17; omega
      rw [show 0 + (modI l[k] 17).toNat * 1 = (modI l[k] 17).toNat by omega, List.getElem?_map, List.getElem?_eq_getElem hl]
      simp only [List.getD_eq_getElem?_getD, List.getElem?_eq_getElem hl]
      rfl
    skip
    have hw5 : (pieces5.getD (modI l[k] 17).toNat [] ++ [32]).length ≤ 6 := hlw
    refine r_add_str rfl rfl rfl (by simp at hw5 ⊢; omega) ?_
    refine r_add_str rfl rfl rfl (by simp at hw5 ⊢; omega) ?_
    refine r_ev rfl rfl ?_; refine r_nil ?_; refine r_in_normal ?_; refine r_then_normal ?_; refine r_region ?_; refine r_ev rfl rfl ?_; refine r_add rfl rfl rfl (by omega) ?_; refine r_ev rfl rfl ?_; refine r_nn ?_
    exact r_again (k + 1) (by omega) (by omega) ⟨rfl, rfl, by rw [words5_succ hlt']; rfl, rfl, trivial⟩ rfl rfl
  · have hkl : k = l.length := by omega
    subst hkl
    have hlen := words5_len l
    refine r_exit ?_; refine r_then_exit ?_; refine r_then_exit ?_; refine r_in_exit ?_; refine r_then_normal ?_; refine r_sr ?_; refine r_ev rfl rfl ?_
    rw [List.take_length]
    refine r_callN rfl rfl (scan5_spec g (words5 l) (by omega)) ?_
    rintro w g1 hw hle
    obtain ⟨a, m, c, rfl⟩ := SlAt.form hw
    refine r_ev rfl rfl ?_; refine r_nn ?_; refine r_retc ?_
    exact r_ret1 [] rfl rfl (by simp) ⟨hw, rfl⟩
theorem words5_row (g : Ghost) (v : Value) (l : List Int) (hl : l.length ≤ 1000) (hs : SlAt g 1 v l.length (ints l)) : Eng.Spec Tryd.prog 15 [v] g [] fun v' g' own' => g' = g ∧ own' = [.row 44 3 v' (toksOf (words5 l)).length ((toksOf (words5 l)).flatMap tokCells)] := by
  refine spec_of_run Tryd.func15 rfl Tryd.ntmps15 rfl fun E hE => ?_
  refine r_sr ?_; refine r_ev rfl rfl ?_; refine r_nn ?_; refine r_sr ?_
  refine r_buildSlice rfl rfl (by rfl) (by rfl) (by rfl) (by rfl) (by rfl) (fun b3 => ?_)
  refine r_ev rfl rfl ?_; refine r_nn ?_; refine r_sr ?_; refine r_ev rfl rfl ?_; refine r_nn ?_; refine r_seq ?_; refine r_sr ?_; refine r_ev rfl rfl ?_; refine r_nn ?_; refine r_block ?_
  refine r_loop (ι := Nat) (fun k => [(0, v), (3, .slice (some ⟨b3, 0, none⟩) 17 17), (4, str (words5 (l.take k))), (5, .int .i64 k)]) (fun _ => g) (fun _ => [.row 9 1 (.slice (some ⟨b3, 0, none⟩) 17 17) 17 (pieces5.map str)]) (fun k => k ≤ l.length) (fun k => l.length - k) 0 (by omega) ⟨rfl, rfl, rfl, rfl, trivial⟩ rfl rfl ?_
  intro k hk
  refine r_seq ?_; refine r_sr ?_; refine r_ev rfl rfl ?_; refine r_ev rfl rfl ?_; refine r_len_at rfl rfl (by assumption) ?_; refine r_ev rfl rfl ?_; refine r_nn ?_
  refine r_cond rfl (fun hlt => ?_) (fun hlt => ?_)
  · have hlt' : k < l.length := by omega
    have hlen := words5_len (l.take k)
    rw [List.length_take] at hlen
    have hlw := word5_len l[k]
    obtain ⟨b, off, cap, rfl, hx⟩ := hs.held hlt'
    have hm : 0 ≤ modI l[k] 17 ∧ modI l[k] 17 < 17 := by unfold modI; rw [if_neg (by omega)]; omega
    refine r_skip ?_; refine r_then_normal ?_; refine r_seq ?_; refine r_block ?_; refine r_region ?_; refine r_ev rfl rfl ?_; refine r_ev rfl rfl ?_; refine r_ev rfl rfl ?_; refine r_ev rfl rfl ?_; refine r_indexAddr rfl rfl rfl rfl (by omega) ?_
    refine r_load1 rfl rfl (v := .int .i64 l[k]) (rd_g1 (hx (k * 1) _ (by simp [ints, hlt']))) ?_
    refine r_ev rfl rfl ?_; refine r_len_sl rfl rfl ?_
    refine r_callP rfl rfl (Mod_spec g l[k] 17 (by omega)) ?_
    skip
    refine r_indexAddr (j := (modI l[k] 17).toNat) rfl rfl rfl (by omega) (by omega) ?_
    refine r_load1 rfl rfl (v := str (pieces5.getD (modI l[k] 17).toNat [])) (rd_row1 0 rfl ?_) ?_
    · have hl : (modI l[k] 17).toNat < pieces5.length := by show _ < 17; omega
      rw [show 0 + (modI l[k] 17).toNat * 1 = (modI l[k] 17).toNat by omega, List.getElem?_map, List.getElem?_eq_getElem hl]
      simp only [List.getD_eq_getElem?_getD, List.getElem?_eq_getElem hl]
      rfl
    skip
    have hw5 : (pieces5.getD (modI l[k] 17).toNat [] ++ [32]).length ≤ 6 := hlw
    refine r_add_str rfl rfl rfl (by simp at hw5 ⊢; omega) ?_
    refine r_add_str rfl rfl rfl (by simp at hw5 ⊢; omega) ?_
    refine r_ev rfl rfl ?_; refine r_nil ?_; refine r_in_normal ?_; refine r_then_normal ?_; refine r_region ?_; refine r_ev rfl rfl ?_; refine r_add rfl rfl rfl (by omega) ?_; refine r_ev rfl rfl ?_; refine r_nn ?_
    exact r_again (k + 1) (by omega) (by omega) ⟨rfl, rfl, by rw [words5_succ hlt']; rfl, rfl, trivial⟩ rfl rfl
  · have hkl : k = l.length := by omega
    subst hkl
    have hlen := words5_len l
    refine r_exit ?_; refine r_then_exit ?_; refine r_then_exit ?_; refine r_in_exit ?_; refine r_then_normal ?_; refine r_sr ?_; refine r_ev rfl rfl ?_
    rw [List.take_length]
    refine r_call' (lent := []) (kept := _) rfl rfl (List.Perm.refl _) (scan5_row g (words5 l) (by omega)) ?_
    rintro w g1 own' ⟨rfl, rfl⟩ hle
    refine r_rowForm 0 rfl ?_
    rintro ⟨a, m, c, rfl⟩
    refine r_ev rfl rfl ?_; refine r_nn ?_; refine r_retc ?_
    exact r_ret1 [_] rfl rfl (.cons_cons _ (List.nil_sublist _)) ⟨rfl, rfl⟩
end Go.Proofs.YtblbbjhbigpgnaaDoor
-- sum 6bbb80d7d124173d

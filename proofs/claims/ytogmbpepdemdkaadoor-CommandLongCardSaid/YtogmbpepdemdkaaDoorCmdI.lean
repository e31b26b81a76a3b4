/- The walk of chapter 37's law CommandLong. -/
import Derived.Test.YtogmbpepdemdkaaDoorCmdG
namespace Go.Proofs.YtogmbpepdemdkaaDoor
open Go Go.Eng Go.Proofs
set_option maxRecDepth 10000
attribute [local irreducible] wpList Code.wp Run bodyPost Go.Eng.Ends Exit.then Exit.inBlock Again Wq Kq
def xList (n k : Nat) : List UInt8 := List.replicate k 120 ++ List.replicate (n - k) 0
theorem xList_len {n k : Nat} (h : k ≤ n) : (xList n k).length = n := by simp [xList]; omega
theorem xList_set {n k : Nat} (h : k < n) : (xList n k).set k 120 = xList n (k + 1) := by
  unfold xList
  rw [List.set_append_right _ _ (by simp)]
  obtain ⟨m, hm⟩ : ∃ m, n - k = m + 1 := ⟨n - k - 1, by omega⟩
  rw [hm, show n - (k + 1) = m by omega]
  simp [List.replicate_succ]
  rw [show List.replicate k (120 : UInt8) ++ 120 :: List.replicate m 0 = (List.replicate k 120 ++ [120]) ++ List.replicate m 0 by simp, ← List.replicate_succ']
  rfl
theorem bytesV_set (l : List UInt8) (j : Nat) (c : UInt8) : (bytesV l).set j (.int .u8 c.toNat) = bytesV (l.set j c) := by
  simp [bytesV, List.map_set, byteV]
theorem bytesV_len (l : List UInt8) : (bytesV l).length = l.length := by simp [bytesV]
def loadF : Form := ⟨[108, 111, 97, 100], 1, 0, true⟩
theorem parse_long {x : Bytes} (hx : x ≠ []) : parseCmd ([108, 111, 97, 100, 32] ++ x) = if 4100 < 5 + x.length then none else some ⟨1, [], x⟩ := by
  have hc : cutSp ([108, 111, 97, 100, 32] ++ x) = ([108, 111, 97, 100], some x) := cut_of [108, 111, 97, 100] (some x) (by decide)
  have hf : formOf [108, 111, 97, 100] = some loadF := by decide
  have hl : ([108, 111, 97, 100, 32] ++ x).length = 5 + x.length := by simp; omega
  unfold parseCmd
  rw [hl, hc]
  simp only
  rw [hf]
  simp [parseForm, takeNums, endForm, loadF, hx]
theorem format_long {x : Bytes} (hx : x ≠ []) : (formatCmd ⟨1, [], x⟩).isSome = decide (5 + x.length ≤ 4100) := by
  have hk : kindForm 1 = some loadF := by decide
  unfold formatCmd
  simp only
  rw [hk]
  simp only
  rw [fmt_some (by rfl) (by simp [hx, loadF]) (by simp)]
  have hl : (textOf loadF ⟨1, [], x⟩).length = 5 + x.length := by simp [textOf, loadF, numsText]; omega
  rw [hl]
  by_cases h : 5 + x.length ≤ 4100
  · rw [if_pos h]; simp [h]
  · rw [if_neg h]; simp [h]
theorem CommandLong_spec (g : Ghost) {o : Obj} (hp : PowTab o) (he : ErrOk g) (a : Int) (_ha : -9223372036854775808 ≤ a ∧ a ≤ 9223372036854775807) : PureO Tryd.prog 11 [.int .i64 a] g (tabRes o) (.bool true) := by
  refine spec_of_run Tryd.func11 rfl Tryd.ntmps11 rfl fun E hE => ?_
  refine r_sr ?_; refine r_ev rfl rfl ?_; refine r_nn ?_; refine r_seq ?_; refine r_sr ?_
  refine r_callO 0 rfl rfl rfl (cfirst_spec g hp he) ?_
  refine r_ev rfl rfl ?_; refine r_nn ?_; refine r_cond_false rfl ?_; refine r_skip ?_; refine r_then_normal ?_; refine r_sr ?_; refine r_ev rfl rfl ?_
  refine r_callP rfl rfl (Mod_spec g a 5 (by omega)) ?_
  obtain ⟨q, hq, hq5⟩ : ∃ q : Nat, modI a 5 = q ∧ q < 5 := by
    refine ⟨(modI a 5).toNat, ?_, ?_⟩ <;> (unfold modI; rw [if_neg (by omega)]; omega)
  rw [hq]
  refine r_add rfl rfl rfl (by omega) ?_
  refine r_makeSlice (len := 4093 + q) rfl (by rw [show ((4093 + q : Nat) : Int) = 4093 + (q : Int) by omega]; rfl) (by rw [show ((4093 + q : Nat) : Int) = 4093 + (q : Int) by omega]; rfl) (by rfl) rfl (by omega) (by omega) (fun bt => ?_)
  rw [repN_byte]
  refine r_ev rfl rfl ?_; refine r_nn ?_; refine r_seq ?_; refine r_sr ?_; refine r_ev rfl rfl ?_; refine r_nn ?_; refine r_block ?_
  refine r_loop (ι := Nat) (fun k => [(3, .slice (some ⟨bt, 0, none⟩) (4093 + q) (4093 + q)), (4, .int .i64 k)]) (fun _ => g) (fun k => [.blk bt 5 (bytesV (xList (4093 + q) k)), tabRes o]) (fun k => k ≤ 4093 + q) (fun k => 4093 + q - k) 0 (by omega) ⟨rfl, rfl, trivial⟩ rfl rfl ?_
  intro k hk
  refine r_seq ?_; refine r_sr ?_; refine r_ev rfl rfl ?_; refine r_ev rfl rfl ?_; refine r_len_sl rfl rfl ?_; refine r_ev rfl rfl ?_; refine r_nn ?_
  refine r_cond rfl (fun hlt => ?_) (fun hlt => ?_)
  · have hlt' : k < 4093 + q := by omega
    refine r_skip ?_; refine r_then_normal ?_; refine r_seq ?_; refine r_block ?_; refine r_region ?_; refine r_ev rfl rfl ?_; refine r_ev rfl rfl ?_; refine r_indexAddr rfl rfl rfl rfl (by omega) ?_
    refine r_store1 0 rfl rfl rfl rfl rfl (splice_set _ _ _ (by rw [bytesV_len, xList_len hk]; omega)) ?_
    refine r_nil ?_; refine r_in_normal ?_; refine r_then_normal ?_; refine r_region ?_; refine r_ev rfl rfl ?_; refine r_add rfl rfl rfl (by omega) ?_; refine r_ev rfl rfl ?_; refine r_nn ?_
    refine r_again (k + 1) (by omega) (by omega) ⟨rfl, rfl, trivial⟩ rfl ?_
    rw [← xList_set hlt', ← bytesV_set]
    simp
  · have hkn : k = 4093 + q := by omega
    subst hkn
    obtain ⟨x, hx, hxl⟩ : ∃ x : Bytes, xList (4093 + q) (4093 + q) = x ∧ x.length = 4093 + q := ⟨_, rfl, xList_len (Nat.le_refl _)⟩
    have hxn : x ≠ [] := fun h => by rw [h] at hxl; simp at hxl; omega
    have hpl := parse_long hxn
    have hfl := format_long hxn
    have hsl : ([108, 111, 97, 100, 32] ++ x).length = 5 + x.length := by simp; omega
    rw [hx]
    refine r_exit ?_; refine r_then_exit ?_; refine r_then_exit ?_; refine r_in_exit ?_; refine r_then_normal ?_; refine r_sr ?_; refine r_ev rfl rfl ?_
    refine r_convBS 0 rfl rfl rfl hxl ?_
    refine r_add_str rfl rfl rfl (by rw [show ([108, 111, 97, 100, 32] : Bytes).length = 5 from rfl]; omega) ?_
    generalize hsd : ([108, 111, 97, 100, 32] : Bytes) ++ x = s at hpl hsl
    refine r_ev rfl rfl ?_; refine r_nn ?_; refine r_sr ?_; refine r_ev rfl rfl ?_
    refine r_callSO 1 rfl rfl rfl (Parse_spec g hp he s (by omega)) ?_
    rintro v g1 ⟨cv, e, rfl, hm⟩ hle
    rw [hpl] at hm
    by_cases hlong : 4100 < 5 + x.length
    · rw [if_pos hlong] at hm
      obtain ⟨rfl, sl, rfl, h1, _⟩ := hm
      have hb1 : decide ((s.length : Int) ≤ 4100) = false := decide_eq_false (by omega)
      have hb2 : decide (5 + x.length ≤ 4100) = false := decide_eq_false (by omega)
      refine r_ev rfl rfl ?_; refine r_ev rfl rfl ?_; refine r_ev rfl rfl ?_
      refine r_alloc rfl (fun b6 => ?_)
      refine r_storeA 0 rfl rfl rfl rfl (by rfl) (by repeat' (first | exact rfl | assumption | refine all_cons ?_ ?_)) rfl ?_; refine r_ev rfl rfl ?_; refine r_nn ?_; refine r_sr ?_; refine r_ev rfl rfl ?_; refine r_ev rfl rfl ?_; refine r_ev rfl rfl ?_; refine r_len_str rfl rfl ?_; refine r_ev rfl rfl ?_; refine r_v rfl (val_eql_bool rfl rfl (by kernel_rfl)) ?_; refine r_ev rfl rfl ?_
      rw [hb1]
      refine r_tev rfl rfl rfl ?_; refine r_tev rfl rfl rfl ?_; refine r_tev rfl rfl rfl ?_; refine r_pass rfl rfl rfl ?_; refine r_pass rfl rfl rfl ?_; refine r_pass rfl rfl rfl ?_; refine r_pass rfl rfl rfl ?_; refine r_pass rfl rfl rfl ?_; refine r_pass rfl rfl rfl ?_; refine r_tev rfl rfl rfl ?_; refine r_ev rfl rfl ?_; refine r_ev rfl rfl ?_; refine r_tev rfl rfl rfl ?_; refine r_take rfl ?_
      refine r_convBS 1 rfl rfl rfl hxl ?_
      refine r_take rfl ?_; refine r_build rfl rfl (by rfl) ?_; refine r_take rfl ?_
      refine r_callO 2 rfl rfl rfl (Valid_spec g1 hp ⟨1, [], x⟩ _ (zero_cmd g1 1 x) (by simp only; omega) (by simp)) ?_
      rw [hfl, hb2]
      refine r_tev rfl rfl rfl ?_; refine r_tev rfl rfl rfl ?_; refine r_take rfl ?_; refine r_v rfl (val_eql_bool rfl rfl (by kernel_rfl)) ?_; refine r_ev rfl rfl ?_; refine r_ev rfl rfl ?_; refine r_nn ?_; refine r_retc ?_
      refine r_shrink hE hle ?_
      exact r_ret1 [_] rfl rfl (.cons _ (.cons _ (List.Sublist.refl _))) ⟨rfl, rfl, rfl⟩
    · rw [if_neg hlong] at hm
      obtain ⟨rfl, sl, rfl, h1, _⟩ := hm
      have hb1 : decide ((s.length : Int) ≤ 4100) = true := decide_eq_true (by omega)
      have hb2 : decide (5 + x.length ≤ 4100) = true := decide_eq_true (by omega)
      refine r_ev rfl rfl ?_; refine r_ev rfl rfl ?_; refine r_ev rfl rfl ?_
      refine r_alloc rfl (fun b6 => ?_)
      refine r_storeA 0 rfl rfl rfl rfl (by rfl) (by repeat' (first | exact rfl | assumption | refine all_cons ?_ ?_)) rfl ?_; refine r_ev rfl rfl ?_; refine r_nn ?_; refine r_sr ?_; refine r_ev rfl rfl ?_; refine r_ev rfl rfl ?_; refine r_ev rfl rfl ?_; refine r_len_str rfl rfl ?_; refine r_ev rfl rfl ?_; refine r_v rfl (val_eql_bool rfl rfl (by kernel_rfl)) ?_; refine r_ev rfl rfl ?_
      rw [hb1]
      refine r_tev rfl rfl rfl ?_; refine r_tev rfl rfl rfl ?_; refine r_tev rfl rfl rfl ?_; refine r_take rfl ?_; refine r_fieldAddr rfl rfl ?_; refine r_take rfl ?_; refine r_loadB1 0 rfl rfl rfl rfl ?_; refine r_take rfl ?_; refine r_len_str rfl rfl ?_; refine r_tev rfl rfl rfl ?_; refine r_take rfl ?_; refine r_len_sl rfl rfl ?_; refine r_tev rfl rfl rfl ?_; refine r_tev rfl rfl rfl ?_; refine r_ev rfl rfl ?_; refine r_ev rfl rfl ?_
      refine r_gdec rfl rfl (fun _ => ?_) (fun h => absurd (by show (List.length x : Int) = _; omega) h)
      refine r_tev rfl rfl rfl ?_; refine r_take rfl ?_
      refine r_convBS 1 rfl rfl rfl hxl ?_
      refine r_take rfl ?_; refine r_build rfl rfl (by rfl) ?_; refine r_take rfl ?_
      refine r_callO 2 rfl rfl rfl (Valid_spec g1 hp ⟨1, [], x⟩ _ (zero_cmd g1 1 x) (by simp only; omega) (by simp)) ?_
      rw [hfl, hb2]
      refine r_tev rfl rfl rfl ?_; refine r_tev rfl rfl rfl ?_; refine r_take rfl ?_; refine r_v rfl (val_eql_bool rfl rfl (by kernel_rfl)) ?_; refine r_ev rfl rfl ?_; refine r_ev rfl rfl ?_; refine r_nn ?_; refine r_retc ?_
      refine r_shrink hE hle ?_
      exact r_ret1 [_] rfl rfl (.cons _ (.cons _ (List.Sublist.refl _))) ⟨rfl, rfl, rfl⟩
end Go.Proofs.YtogmbpepdemdkaaDoor

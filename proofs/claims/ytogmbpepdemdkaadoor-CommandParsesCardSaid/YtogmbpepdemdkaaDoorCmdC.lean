/- The walks of chapter 37: reading a command: the program's parse and Parse, the reference's arguments and Parse. -/
import Derived.Test.YtogmbpepdemdkaaDoorCmdB
namespace Go.Proofs.YtogmbpepdemdkaaDoor
open Go Go.Eng Go.Proofs
set_option maxRecDepth 10000
attribute [local irreducible] wpList Code.wp Run bodyPost Go.Eng.Ends Exit.then Exit.inBlock Again Wq Kq
/-- A command in memory. -/
def CmdAt (g : Ghost) (v : Value) (c : Cmd) : Prop := ∃ sl, v = .agg #[.int .i64 c.kind, sl, str c.text] ∧ oneC sl = true ∧ SlAt g 1 sl c.nums.length (ints c.nums)
theorem CmdAt.mono {g g' : Ghost} (h : Ghost.le g g') {v : Value} {c : Cmd} (hc : CmdAt g v c) : CmdAt g' v c := by
  obtain ⟨sl, h1, h2, h3⟩ := hc
  exact ⟨sl, h1, h2, h3.mono h⟩
theorem SlAt.one {g : Ghost} {size : Nat} {v : Value} {n : Nat} {xs : List Value} (h : SlAt g size v n xs) : oneC v = true := by
  rcases h.2 with ⟨⟨a, c, rfl⟩, _⟩ | ⟨b, off, cap, rfl, _⟩ <;> rfl
def cmdPost (r : Option Cmd) (v : Value) (g' : Ghost) : Prop := ∃ cv b, v = .tuple #[cv, .bool b] ∧ match r with
  | some c => b = true ∧ CmdAt g' cv c
  | none => b = false ∧ ∃ c, CmdAt g' cv c
/-- What is still to be read, when some numbers have been read. -/
def Left (f : Form) (r0 : Option Bytes) (k : Nat) (nums : List Int) (r : Option Bytes) : Prop := takeNums f.cnt r0 = match takeNums (f.cnt - k) r with
  | some (l, r') => some (nums ++ l, r')
  | none => none
theorem Left.none {f : Form} {r0 : Option Bytes} {k : Nat} {nums : List Int} {r : Option Bytes} (h : Left f r0 k nums r) (hk : k < f.cnt) (hr : r = none ∨ ∃ t, r = some t ∧ numOf (cutSp t).1 = none) : parseForm f r0 = none := by
  have : takeNums (f.cnt - k) r = Option.none := by
    obtain ⟨m, hm⟩ : ∃ m, f.cnt - k = m + 1 := ⟨f.cnt - k - 1, by omega⟩
    rw [hm]
    rcases hr with rfl | ⟨t, rfl, hn⟩
    · rfl
    · simp only [takeNums, hn]
  unfold Left at h
  rw [this] at h
  unfold parseForm
  rw [h]
theorem Left.step {f : Form} {r0 : Option Bytes} {k : Nat} {nums : List Int} {t : Bytes} (h : Left f r0 k nums (some t)) (hk : k < f.cnt) {n : Nat} (hn : numOf (cutSp t).1 = some n) : Left f r0 (k + 1) (nums ++ [(n : Int)]) (cutSp t).2 := by
  unfold Left at h ⊢
  obtain ⟨m, hm⟩ : ∃ m, f.cnt - k = m + 1 := ⟨f.cnt - k - 1, by omega⟩
  rw [hm] at h
  rw [h, show f.cnt - (k + 1) = m by omega]
  simp only [takeNums, hn]
  cases takeNums m (cutSp t).2 with
  | none => rfl
  | some p => simp
theorem Left.last {f : Form} {r0 : Option Bytes} {nums : List Int} {r : Option Bytes} (h : Left f r0 f.cnt nums r) : parseForm f r0 = endForm f nums r := by
  unfold Left at h
  rw [Nat.sub_self] at h
  simp only [takeNums, List.append_nil] at h
  unfold parseForm
  rw [h]
theorem cut_len (s : Bytes) : (cutSp s).1.length ≤ s.length ∧ (optS (cutSp s).2).length ≤ s.length := by
  have := congrArg List.length (cut_glue s)
  rw [List.length_append] at this
  cases h : (cutSp s).2 with
  | none => rw [h] at this; simp [tailO, optS] at this ⊢; omega
  | some t => rw [h] at this; simp [tailO, optS] at this ⊢; omega
theorem parse_spec (g : Ghost) {o : Obj} (hp : PowTab o) (he : ErrOk g) (f : Form) (hf : f.cnt ≤ 3) (r0 : Option Bytes) (hr : (optS r0).length ≤ 1000000) :
    SpecO Tryd.prog 37 [formV f, str (optS r0), .bool r0.isSome] g (tabRes o) fun v g' => cmdPost (parseForm f r0) v g' := by
  refine spec_of_run Tryd.func37 rfl Tryd.ntmps37 rfl fun E hE => ?_
  refine r_sr ?_
  refine r_box rfl rfl rfl (fun b3 => ?_)
  refine r_alloc rfl (fun b6 => ?_)
  refine r_ev rfl rfl ?_; refine r_nn ?_; refine r_sr ?_; refine r_fieldAddr rfl rfl ?_; refine r_loadB1 1 rfl rfl rfl rfl ?_; refine r_build rfl rfl (by rfl) ?_
  refine r_alloc rfl (fun b8 => ?_)
  refine r_storeA 0 rfl rfl rfl rfl (by rfl) (by repeat' (first | exact rfl | assumption | refine all_cons ?_ ?_)) rfl ?_; refine r_nn ?_; refine r_seq ?_; refine r_sr ?_; refine r_fieldAddr rfl rfl ?_; refine r_loadB1 2 rfl rfl rfl rfl ?_; refine r_ev rfl rfl ?_; refine r_nn ?_; refine r_block ?_
  refine r_nilRow 3 1 ?_
  refine r_loop (ι := Nat × List Int × Option Bytes × Value) (fun p => [(1, str (optS p.2.2.1)), (2, .bool p.2.2.1.isSome), (3, ptr b3 0), (6, ptr b6 0), (8, ptr b8 0), (16, .int .i64 f.cnt), (17, .int .i64 p.1)]) (fun _ => g)
    (fun p => [.row 3 1 p.2.2.2 p.2.1.length (ints p.2.1), .blk b8 42 [.int .i64 f.kind, p.2.2.2, str []], .blk b6 42 [.int .i64 0, .slice none 0 0, str []], .blk b3 58 (formCells f), tabRes o])
    (fun p => p.1 ≤ f.cnt ∧ p.2.1.length = p.1 ∧ (optS p.2.2.1).length ≤ 1000000 ∧ oneC p.2.2.2 = true ∧ Left f r0 p.1 p.2.1 p.2.2.1) (fun p => f.cnt - p.1) (0, [], r0, .slice none 0 0) ⟨Nat.zero_le _, rfl, hr, rfl, ?_⟩ ⟨rfl, rfl, rfl, rfl, rfl, rfl, rfl, trivial⟩ rfl rfl ?_
  · unfold Left
    rw [Nat.sub_zero]
    cases takeNums f.cnt r0 with
    | none => rfl
    | some p => simp
  rintro ⟨k, nums, r, sl⟩ ⟨h1, h2, h3, h4, h5⟩
  simp only at h1 h2 h3 h4 h5
  show Run E _ [(1, str (optS r)), (2, .bool r.isSome), (3, ptr b3 0), (6, ptr b6 0), (8, ptr b8 0), (16, .int .i64 f.cnt), (17, .int .i64 k)] g [.row 3 1 sl nums.length (ints nums), .blk b8 42 [.int .i64 f.kind, sl, str []], .blk b6 42 [.int .i64 0, .slice none 0 0, str []], .blk b3 58 (formCells f), tabRes o] _
  refine r_sr ?_; refine r_ev rfl rfl ?_; refine r_nn ?_; refine r_seq ?_
  refine r_cond rfl (fun hlt => ?_) (fun hlt => ?_)
  · have hlt' : k < f.cnt := by omega
    cases r with
    | none =>
      have hn := h5.none hlt' (.inl rfl)
      refine r_skip ?_; refine r_then_normal ?_; refine r_seq ?_; refine r_block ?_; refine r_seq ?_; refine r_sr ?_; refine r_ev rfl rfl ?_; refine r_ev rfl rfl ?_; refine r_nn ?_; refine r_cond_true rfl ?_; refine r_sr ?_; refine r_loadB 1 rfl rfl rfl (by rfl) ?_; refine r_storeA 2 rfl rfl rfl rfl (by rfl) (by repeat' (first | exact rfl | assumption | refine all_cons ?_ ?_)) rfl ?_; refine r_ev rfl rfl ?_; refine r_nn ?_; refine r_retc ?_; refine r_then_ret ?_; refine r_in_ret ?_; refine r_then_ret ?_; refine r_then_ret ?_; refine r_in_ret ?_; refine r_then_ret ?_
      refine r_publishRow (fun g' hg' hs => ?_)
      refine r_ret2 [tabRes o] rfl (res_blk 1 rfl rfl (by rfl)) (.tmp rfl) (by simp) ⟨⟨_, _, rfl, ?_⟩, rfl⟩
      rw [hn]
      exact ⟨rfl, ⟨f.kind, nums, []⟩, sl, rfl, h4, hs⟩
    | some t =>
      refine r_skip ?_; refine r_then_normal ?_; refine r_seq ?_; refine r_block ?_; refine r_seq ?_; refine r_sr ?_; refine r_ev rfl rfl ?_; refine r_ev rfl rfl ?_; refine r_nn ?_; refine r_cond_false rfl ?_; refine r_skip ?_; refine r_then_normal ?_; refine r_sr ?_; refine r_ev rfl rfl ?_; refine r_nn ?_; refine r_sr ?_; refine r_ev rfl rfl ?_
      have h3' : t.length ≤ 1000000 := h3
      have hcl := cut_len t
      refine r_callP rfl rfl (Cut_spec g t (by omega)) ?_
      unfold cutV
      refine r_ev rfl rfl ?_; refine r_ev rfl rfl ?_; refine r_ev rfl rfl ?_; refine r_ev rfl rfl ?_; refine r_ev rfl rfl ?_; refine r_ev rfl rfl ?_; refine r_ev rfl rfl ?_; refine r_nn ?_; refine r_sr ?_; refine r_ev rfl rfl ?_
      refine r_callSO 4 rfl rfl rfl (number_spec g hp he _ (by omega)) ?_
      rintro v g' ⟨⟨n, b, rfl, hm⟩, rfl⟩ _
      cases hno : numOf (cutSp t).1 with
      | none =>
        rw [hno] at hm
        subst hm
        have hn := h5.none hlt' (.inr ⟨t, rfl, hno⟩)
        refine r_ev rfl rfl ?_; refine r_ev rfl rfl ?_; refine r_ev rfl rfl ?_; refine r_ev rfl rfl ?_; refine r_ev rfl rfl ?_; refine r_nn ?_; refine r_seq ?_; refine r_sr ?_; refine r_ev rfl rfl ?_; refine r_ev rfl rfl ?_; refine r_nn ?_; refine r_cond_true rfl ?_; refine r_sr ?_; refine r_loadB 1 rfl rfl rfl (by rfl) ?_; refine r_storeA 2 rfl rfl rfl rfl (by rfl) (by repeat' (first | exact rfl | assumption | refine all_cons ?_ ?_)) rfl ?_; refine r_ev rfl rfl ?_; refine r_nn ?_; refine r_retc ?_; refine r_then_ret ?_; refine r_in_ret ?_; refine r_then_ret ?_; refine r_then_ret ?_; refine r_in_ret ?_; refine r_then_ret ?_
        refine r_publishRow (fun g' hg' hs => ?_)
        refine r_ret2 [tabRes o] rfl (res_blk 1 rfl rfl (by rfl)) (.tmp rfl) (by simp) ⟨⟨_, _, rfl, ?_⟩, rfl⟩
        rw [hn]
        exact ⟨rfl, ⟨f.kind, nums, []⟩, sl, rfl, h4, hs⟩
      | some m =>
        rw [hno] at hm
        obtain ⟨rfl, rfl⟩ := hm
        have hst := h5.step hlt' hno
        refine r_ev rfl rfl ?_; refine r_ev rfl rfl ?_; refine r_ev rfl rfl ?_; refine r_ev rfl rfl ?_; refine r_ev rfl rfl ?_; refine r_nn ?_; refine r_seq ?_; refine r_sr ?_; refine r_ev rfl rfl ?_; refine r_ev rfl rfl ?_; refine r_nn ?_; refine r_cond_false rfl ?_; refine r_skip ?_; refine r_then_normal ?_; refine r_region ?_; refine r_fieldAddr rfl rfl ?_; refine r_loadB1 1 rfl rfl rfl rfl ?_; refine r_ev rfl rfl ?_
        refine r_buildSlice rfl rfl (by rfl) (by rfl) (by rfl) (by rfl) (by rfl) (fun b2 => ?_)
        refine r_appendRow 1 0 rfl rfl rfl rfl rfl (by rfl) (by rfl) rfl (by unfold maxLen; omega) (by omega) (fun v' _ => ?_)
        refine r_rowOne 1 rfl (fun hv' => ?_)
        refine r_fieldAddr rfl rfl ?_; refine r_store1 2 rfl rfl rfl (cells_one (by assumption)) (by repeat' (first | exact rfl | assumption | refine all_cons ?_ ?_)) rfl ?_; refine r_nil ?_; refine r_in_normal ?_; refine r_then_normal ?_; refine r_region ?_; refine r_add rfl rfl rfl (by omega) ?_; refine r_ev rfl rfl ?_; refine r_nn ?_
        refine r_drop (own' := [_, _, _, _, _]) (List.sublist_cons_self _ _) ?_
        refine r_again (k + 1, nums ++ [(m : Int)], (cutSp t).2, v') ⟨by simp only; omega, by simp; omega, by simp only; omega, hv', hst⟩ (by simp only; omega) ⟨rfl, rfl, rfl, rfl, rfl, rfl, rfl, trivial⟩ rfl ?_
        simp [ints, repN]
  · have hk : k = f.cnt := by omega
    subst hk
    have hl := h5.last
    obtain ⟨w, kd, cnt, tx⟩ := f
    simp only at hf h1 h2 h5 hl hlt ⊢
    rcases r with _ | t
    · cases tx with
      | true =>
        refine r_exit ?_; refine r_then_exit ?_; refine r_then_exit ?_; refine r_in_exit ?_; refine r_then_normal ?_; refine r_seq ?_; refine r_sr ?_; refine r_fieldAddr rfl rfl ?_; refine r_loadB1 3 rfl rfl rfl rfl ?_; refine r_nn ?_; refine r_cond_true rfl ?_; refine r_region ?_; refine r_ev rfl rfl ?_; refine r_fieldAddr rfl rfl ?_; refine r_store1 1 rfl rfl rfl rfl rfl rfl ?_; refine r_nn ?_; refine r_seq ?_
        refine h_beginE [2] mixed (fun hG => ?_)
        -- STOP3
        refine h_takeX 0 rfl (by kernel_rfl) rfl hG (by first | exact Ghost.le_refl _ | assumption) (by repeat' (first | exact List.nil_sublist _ | refine List.Sublist.cons_cons _ ?_ | refine List.Sublist.cons _ ?_)) ?_; refine ⟨_, (val_loadB 1 rfl rfl (by rfl)), ?_⟩; refine h_takeX 1 rfl (by kernel_rfl) rfl hG (by first | exact Ghost.le_refl _ | assumption) (by repeat' (first | exact List.nil_sublist _ | refine List.Sublist.cons_cons _ ?_ | refine List.Sublist.cons _ ?_)) ?_; refine ⟨_, (val_ev rfl), ?_⟩; refine h_takeX 2 rfl (by kernel_rfl) rfl hG (by first | exact Ghost.le_refl _ | assumption) (by repeat' (first | exact List.nil_sublist _ | refine List.Sublist.cons_cons _ ?_ | refine List.Sublist.cons _ ?_)) ?_; refine ⟨_, (val_fieldAddr rfl), ?_⟩; refine h_takeX 3 rfl (by kernel_rfl) rfl hG (by first | exact Ghost.le_refl _ | assumption) (by repeat' (first | exact List.nil_sublist _ | refine List.Sublist.cons_cons _ ?_ | refine List.Sublist.cons _ ?_)) ?_; refine ⟨_, (val_loadB1 2 rfl rfl rfl), ?_⟩; refine h_takeX 4 rfl (by kernel_rfl) rfl hG (by first | exact Ghost.le_refl _ | assumption) (by repeat' (first | exact List.nil_sublist _ | refine List.Sublist.cons_cons _ ?_ | refine List.Sublist.cons _ ?_)) ?_; refine ⟨_, (val_eql_bool rfl rfl (by kernel_rfl)), ?_⟩; refine h_takeX 5 rfl (by kernel_rfl) rfl hG (by first | exact Ghost.le_refl _ | assumption) (by repeat' (first | exact List.nil_sublist _ | refine List.Sublist.cons_cons _ ?_ | refine List.Sublist.cons _ ?_)) ?_; refine ⟨_, (val_ev rfl), ?_⟩; refine h_pass 6 rfl rfl rfl (by kernel_rfl) rfl hG (by first | exact Ghost.le_refl _ | assumption) (by repeat' (first | exact List.nil_sublist _ | refine List.Sublist.cons_cons _ ?_ | refine List.Sublist.cons _ ?_)) ?_; refine h_pass 7 rfl rfl rfl (by kernel_rfl) rfl hG (by first | exact Ghost.le_refl _ | assumption) (by repeat' (first | exact List.nil_sublist _ | refine List.Sublist.cons_cons _ ?_ | refine List.Sublist.cons _ ?_)) ?_; refine h_pass 8 rfl rfl rfl (by kernel_rfl) rfl hG (by first | exact Ghost.le_refl _ | assumption) (by repeat' (first | exact List.nil_sublist _ | refine List.Sublist.cons_cons _ ?_ | refine List.Sublist.cons _ ?_)) ?_; refine h_pass 9 rfl rfl rfl (by kernel_rfl) rfl hG (by first | exact Ghost.le_refl _ | assumption) (by repeat' (first | exact List.nil_sublist _ | refine List.Sublist.cons_cons _ ?_ | refine List.Sublist.cons _ ?_)) ?_; refine h_pass 10 rfl rfl rfl (by kernel_rfl) rfl hG (by first | exact Ghost.le_refl _ | assumption) (by repeat' (first | exact List.nil_sublist _ | refine List.Sublist.cons_cons _ ?_ | refine List.Sublist.cons _ ?_)) ?_; refine h_takeX 11 rfl (by kernel_rfl) rfl hG (by first | exact Ghost.le_refl _ | assumption) (by repeat' (first | exact List.nil_sublist _ | refine List.Sublist.cons_cons _ ?_ | refine List.Sublist.cons _ ?_)) ?_; refine ⟨_, (val_ev rfl), ?_⟩
        refine h_one 12 (by kernel_rfl) rfl ?_
        refine r_storeA 2 rfl rfl rfl rfl (by rfl) (by repeat' (first | exact rfl | assumption | refine all_cons ?_ ?_)) rfl ?_; refine r_nn ?_
        refine h_kept hG (by first | exact Ghost.le_refl _ | assumption) (by repeat' (first | exact List.nil_sublist _ | refine List.Sublist.cons_cons _ ?_ | refine List.Sublist.cons _ ?_)) ?_
        refine h_takeX 13 rfl (by kernel_rfl) rfl hG (by first | exact Ghost.le_refl _ | assumption) (by repeat' (first | exact List.nil_sublist _ | refine List.Sublist.cons_cons _ ?_ | refine List.Sublist.cons _ ?_)) ?_; refine ⟨_, (val_ev rfl), ?_⟩
        refine h_done (by kernel_rfl) ?_
        refine r_then_normal ?_; refine r_retc ?_
        refine r_publishRow (fun g' hg' hs => ?_)
        refine r_ret2 [tabRes o] rfl (res_blk 1 rfl rfl (by rfl)) (.tmp rfl) (by simp) ⟨⟨_, _, rfl, ?_⟩, rfl⟩
        rw [hl]
        exact ⟨rfl, ⟨kd, nums, _⟩, sl, rfl, h4, hs⟩
      | false =>
        refine r_exit ?_; refine r_then_exit ?_; refine r_then_exit ?_; refine r_in_exit ?_; refine r_then_normal ?_; refine r_seq ?_; refine r_sr ?_; refine r_fieldAddr rfl rfl ?_; refine r_loadB1 3 rfl rfl rfl rfl ?_; refine r_nn ?_; refine r_cond_false rfl ?_; refine r_skip ?_; refine r_then_normal ?_; refine r_seq ?_
        refine h_beginE [2] mixed (fun hG => ?_)
        refine h_takeX 0 rfl (by kernel_rfl) rfl hG (by first | exact Ghost.le_refl _ | assumption) (by repeat' (first | exact List.nil_sublist _ | refine List.Sublist.cons_cons _ ?_ | refine List.Sublist.cons _ ?_)) ?_; refine ⟨_, (val_loadB 1 rfl rfl (by rfl)), ?_⟩; refine h_takeX 1 rfl (by kernel_rfl) rfl hG (by first | exact Ghost.le_refl _ | assumption) (by repeat' (first | exact List.nil_sublist _ | refine List.Sublist.cons_cons _ ?_ | refine List.Sublist.cons _ ?_)) ?_; refine ⟨_, (val_ev rfl), ?_⟩; refine h_takeX 2 rfl (by kernel_rfl) rfl hG (by first | exact Ghost.le_refl _ | assumption) (by repeat' (first | exact List.nil_sublist _ | refine List.Sublist.cons_cons _ ?_ | refine List.Sublist.cons _ ?_)) ?_; refine ⟨_, (val_fieldAddr rfl), ?_⟩; refine h_takeX 3 rfl (by kernel_rfl) rfl hG (by first | exact Ghost.le_refl _ | assumption) (by repeat' (first | exact List.nil_sublist _ | refine List.Sublist.cons_cons _ ?_ | refine List.Sublist.cons _ ?_)) ?_; refine ⟨_, (val_loadB1 2 rfl rfl rfl), ?_⟩; refine h_takeX 4 rfl (by kernel_rfl) rfl hG (by first | exact Ghost.le_refl _ | assumption) (by repeat' (first | exact List.nil_sublist _ | refine List.Sublist.cons_cons _ ?_ | refine List.Sublist.cons _ ?_)) ?_; refine ⟨_, (val_eql_bool rfl rfl (by kernel_rfl)), ?_⟩; refine h_takeX 5 rfl (by kernel_rfl) rfl hG (by first | exact Ghost.le_refl _ | assumption) (by repeat' (first | exact List.nil_sublist _ | refine List.Sublist.cons_cons _ ?_ | refine List.Sublist.cons _ ?_)) ?_; refine ⟨_, (val_ev rfl), ?_⟩; refine h_takeGX 6 rfl rfl (by kernel_rfl) rfl hG (by first | exact Ghost.le_refl _ | assumption) (by repeat' (first | exact List.nil_sublist _ | refine List.Sublist.cons_cons _ ?_ | refine List.Sublist.cons _ ?_)) ?_; refine ⟨_, (val_ev rfl), ?_⟩; refine h_takeGX 7 rfl rfl (by kernel_rfl) rfl hG (by first | exact Ghost.le_refl _ | assumption) (by repeat' (first | exact List.nil_sublist _ | refine List.Sublist.cons_cons _ ?_ | refine List.Sublist.cons _ ?_)) ?_; refine ⟨_, (val_ev rfl), ?_⟩; refine h_takeGX 8 rfl rfl (by kernel_rfl) rfl hG (by first | exact Ghost.le_refl _ | assumption) (by repeat' (first | exact List.nil_sublist _ | refine List.Sublist.cons_cons _ ?_ | refine List.Sublist.cons _ ?_)) ?_; refine ⟨_, (val_fieldAddr rfl), ?_⟩; refine h_takeGX 9 rfl rfl (by kernel_rfl) rfl hG (by first | exact Ghost.le_refl _ | assumption) (by repeat' (first | exact List.nil_sublist _ | refine List.Sublist.cons_cons _ ?_ | refine List.Sublist.cons _ ?_)) ?_; refine ⟨_, (val_loadB1 2 rfl rfl rfl), ?_⟩; refine h_takeGX 10 rfl rfl (by kernel_rfl) rfl hG (by first | exact Ghost.le_refl _ | assumption) (by repeat' (first | exact List.nil_sublist _ | refine List.Sublist.cons_cons _ ?_ | refine List.Sublist.cons _ ?_)) ?_; refine ⟨_, (val_eql_bool rfl rfl (by kernel_rfl)), ?_⟩; refine h_takeX 11 rfl (by kernel_rfl) rfl hG (by first | exact Ghost.le_refl _ | assumption) (by repeat' (first | exact List.nil_sublist _ | refine List.Sublist.cons_cons _ ?_ | refine List.Sublist.cons _ ?_)) ?_; refine ⟨_, (val_ev rfl), ?_⟩
        refine h_one 12 (by kernel_rfl) rfl ?_
        refine r_storeA 2 rfl rfl rfl rfl (by rfl) (by repeat' (first | exact rfl | assumption | refine all_cons ?_ ?_)) rfl ?_; refine r_nn ?_
        refine h_kept hG (by first | exact Ghost.le_refl _ | assumption) (by repeat' (first | exact List.nil_sublist _ | refine List.Sublist.cons_cons _ ?_ | refine List.Sublist.cons _ ?_)) ?_
        refine h_takeX 13 rfl (by kernel_rfl) rfl hG (by first | exact Ghost.le_refl _ | assumption) (by repeat' (first | exact List.nil_sublist _ | refine List.Sublist.cons_cons _ ?_ | refine List.Sublist.cons _ ?_)) ?_; refine ⟨_, (val_ev rfl), ?_⟩
        refine h_done (by kernel_rfl) ?_
        refine r_then_normal ?_; refine r_retc ?_
        refine r_publishRow (fun g' hg' hs => ?_)
        refine r_ret2 [tabRes o] rfl (res_blk 1 rfl rfl (by rfl)) (.tmp rfl) (by simp) ⟨⟨_, _, rfl, ?_⟩, rfl⟩
        rw [hl]
        exact ⟨rfl, sl, rfl, h4, hs⟩
    · cases tx with
      | true =>
        refine r_exit ?_; refine r_then_exit ?_; refine r_then_exit ?_; refine r_in_exit ?_; refine r_then_normal ?_; refine r_seq ?_; refine r_sr ?_; refine r_fieldAddr rfl rfl ?_; refine r_loadB1 3 rfl rfl rfl rfl ?_; refine r_nn ?_; refine r_cond_true rfl ?_; refine r_region ?_; refine r_ev rfl rfl ?_; refine r_fieldAddr rfl rfl ?_; refine r_store1 1 rfl rfl rfl rfl rfl rfl ?_; refine r_nn ?_; refine r_seq ?_
        refine h_beginE [2] mixed (fun hG => ?_)
        refine h_takeX 0 rfl (by kernel_rfl) rfl hG (by first | exact Ghost.le_refl _ | assumption) (by repeat' (first | exact List.nil_sublist _ | refine List.Sublist.cons_cons _ ?_ | refine List.Sublist.cons _ ?_)) ?_; refine ⟨_, (val_loadB 1 rfl rfl (by rfl)), ?_⟩; refine h_takeX 1 rfl (by kernel_rfl) rfl hG (by first | exact Ghost.le_refl _ | assumption) (by repeat' (first | exact List.nil_sublist _ | refine List.Sublist.cons_cons _ ?_ | refine List.Sublist.cons _ ?_)) ?_; refine ⟨_, (val_ev rfl), ?_⟩; refine h_takeX 2 rfl (by kernel_rfl) rfl hG (by first | exact Ghost.le_refl _ | assumption) (by repeat' (first | exact List.nil_sublist _ | refine List.Sublist.cons_cons _ ?_ | refine List.Sublist.cons _ ?_)) ?_; refine ⟨_, (val_fieldAddr rfl), ?_⟩; refine h_takeX 3 rfl (by kernel_rfl) rfl hG (by first | exact Ghost.le_refl _ | assumption) (by repeat' (first | exact List.nil_sublist _ | refine List.Sublist.cons_cons _ ?_ | refine List.Sublist.cons _ ?_)) ?_; refine ⟨_, (val_loadB1 2 rfl rfl rfl), ?_⟩; refine h_takeX 4 rfl (by kernel_rfl) rfl hG (by first | exact Ghost.le_refl _ | assumption) (by repeat' (first | exact List.nil_sublist _ | refine List.Sublist.cons_cons _ ?_ | refine List.Sublist.cons _ ?_)) ?_; refine ⟨_, (val_eql_bool rfl rfl (by kernel_rfl)), ?_⟩; refine h_takeX 5 rfl (by kernel_rfl) rfl hG (by first | exact Ghost.le_refl _ | assumption) (by repeat' (first | exact List.nil_sublist _ | refine List.Sublist.cons_cons _ ?_ | refine List.Sublist.cons _ ?_)) ?_; refine ⟨_, (val_ev rfl), ?_⟩; refine h_takeGX 6 rfl rfl (by kernel_rfl) rfl hG (by first | exact Ghost.le_refl _ | assumption) (by repeat' (first | exact List.nil_sublist _ | refine List.Sublist.cons_cons _ ?_ | refine List.Sublist.cons _ ?_)) ?_; refine ⟨_, (val_ev rfl), ?_⟩; refine h_takeGX 7 rfl rfl (by kernel_rfl) rfl hG (by first | exact Ghost.le_refl _ | assumption) (by repeat' (first | exact List.nil_sublist _ | refine List.Sublist.cons_cons _ ?_ | refine List.Sublist.cons _ ?_)) ?_; refine ⟨_, (val_ev rfl), ?_⟩; refine h_takeGX 8 rfl rfl (by kernel_rfl) rfl hG (by first | exact Ghost.le_refl _ | assumption) (by repeat' (first | exact List.nil_sublist _ | refine List.Sublist.cons_cons _ ?_ | refine List.Sublist.cons _ ?_)) ?_; refine ⟨_, (val_fieldAddr rfl), ?_⟩; refine h_takeGX 9 rfl rfl (by kernel_rfl) rfl hG (by first | exact Ghost.le_refl _ | assumption) (by repeat' (first | exact List.nil_sublist _ | refine List.Sublist.cons_cons _ ?_ | refine List.Sublist.cons _ ?_)) ?_; refine ⟨_, (val_loadB1 2 rfl rfl rfl), ?_⟩; refine h_takeGX 10 rfl rfl (by kernel_rfl) rfl hG (by first | exact Ghost.le_refl _ | assumption) (by repeat' (first | exact List.nil_sublist _ | refine List.Sublist.cons_cons _ ?_ | refine List.Sublist.cons _ ?_)) ?_; refine ⟨_, (val_eql_bool rfl rfl (by kernel_rfl)), ?_⟩; refine h_takeX 11 rfl (by kernel_rfl) rfl hG (by first | exact Ghost.le_refl _ | assumption) (by repeat' (first | exact List.nil_sublist _ | refine List.Sublist.cons_cons _ ?_ | refine List.Sublist.cons _ ?_)) ?_; refine ⟨_, (val_ev rfl), ?_⟩
        refine h_one 12 (by kernel_rfl) rfl ?_
        refine r_storeA 2 rfl rfl rfl rfl (by rfl) (by repeat' (first | exact rfl | assumption | refine all_cons ?_ ?_)) rfl ?_; refine r_nn ?_
        refine h_kept hG (by first | exact Ghost.le_refl _ | assumption) (by repeat' (first | exact List.nil_sublist _ | refine List.Sublist.cons_cons _ ?_ | refine List.Sublist.cons _ ?_)) ?_
        refine h_takeX 13 rfl (by kernel_rfl) rfl hG (by first | exact Ghost.le_refl _ | assumption) (by repeat' (first | exact List.nil_sublist _ | refine List.Sublist.cons_cons _ ?_ | refine List.Sublist.cons _ ?_)) ?_; refine ⟨_, (val_ev rfl), ?_⟩
        refine h_done (by kernel_rfl) ?_
        refine r_then_normal ?_; refine r_retc ?_
        refine r_publishRow (fun g' hg' hs => ?_)
        refine r_ret2 [tabRes o] rfl (res_blk 1 rfl rfl (by rfl)) (.tmp rfl) (by simp) ⟨⟨_, _, rfl, ?_⟩, rfl⟩
        rw [hl]
        by_cases ht : t = []
        · subst ht
          exact ⟨rfl, ⟨kd, nums, []⟩, sl, rfl, h4, hs⟩
        · simp only [endForm, ht, if_true, if_false]
          exact ⟨by simp [optS, ht], sl, rfl, h4, hs⟩
      | false =>
        refine r_exit ?_; refine r_then_exit ?_; refine r_then_exit ?_; refine r_in_exit ?_; refine r_then_normal ?_; refine r_seq ?_; refine r_sr ?_; refine r_fieldAddr rfl rfl ?_; refine r_loadB1 3 rfl rfl rfl rfl ?_; refine r_nn ?_; refine r_cond_false rfl ?_; refine r_skip ?_; refine r_then_normal ?_; refine r_seq ?_
        refine h_beginE [2] mixed (fun hG => ?_)
        refine h_takeX 0 rfl (by kernel_rfl) rfl hG (by first | exact Ghost.le_refl _ | assumption) (by repeat' (first | exact List.nil_sublist _ | refine List.Sublist.cons_cons _ ?_ | refine List.Sublist.cons _ ?_)) ?_; refine ⟨_, (val_loadB 1 rfl rfl (by rfl)), ?_⟩; refine h_takeX 1 rfl (by kernel_rfl) rfl hG (by first | exact Ghost.le_refl _ | assumption) (by repeat' (first | exact List.nil_sublist _ | refine List.Sublist.cons_cons _ ?_ | refine List.Sublist.cons _ ?_)) ?_; refine ⟨_, (val_ev rfl), ?_⟩; refine h_takeX 2 rfl (by kernel_rfl) rfl hG (by first | exact Ghost.le_refl _ | assumption) (by repeat' (first | exact List.nil_sublist _ | refine List.Sublist.cons_cons _ ?_ | refine List.Sublist.cons _ ?_)) ?_; refine ⟨_, (val_fieldAddr rfl), ?_⟩; refine h_takeX 3 rfl (by kernel_rfl) rfl hG (by first | exact Ghost.le_refl _ | assumption) (by repeat' (first | exact List.nil_sublist _ | refine List.Sublist.cons_cons _ ?_ | refine List.Sublist.cons _ ?_)) ?_; refine ⟨_, (val_loadB1 2 rfl rfl rfl), ?_⟩; refine h_takeX 4 rfl (by kernel_rfl) rfl hG (by first | exact Ghost.le_refl _ | assumption) (by repeat' (first | exact List.nil_sublist _ | refine List.Sublist.cons_cons _ ?_ | refine List.Sublist.cons _ ?_)) ?_; refine ⟨_, (val_eql_bool rfl rfl (by kernel_rfl)), ?_⟩; refine h_takeX 5 rfl (by kernel_rfl) rfl hG (by first | exact Ghost.le_refl _ | assumption) (by repeat' (first | exact List.nil_sublist _ | refine List.Sublist.cons_cons _ ?_ | refine List.Sublist.cons _ ?_)) ?_; refine ⟨_, (val_ev rfl), ?_⟩; refine h_pass 6 rfl rfl rfl (by kernel_rfl) rfl hG (by first | exact Ghost.le_refl _ | assumption) (by repeat' (first | exact List.nil_sublist _ | refine List.Sublist.cons_cons _ ?_ | refine List.Sublist.cons _ ?_)) ?_; refine h_pass 7 rfl rfl rfl (by kernel_rfl) rfl hG (by first | exact Ghost.le_refl _ | assumption) (by repeat' (first | exact List.nil_sublist _ | refine List.Sublist.cons_cons _ ?_ | refine List.Sublist.cons _ ?_)) ?_; refine h_pass 8 rfl rfl rfl (by kernel_rfl) rfl hG (by first | exact Ghost.le_refl _ | assumption) (by repeat' (first | exact List.nil_sublist _ | refine List.Sublist.cons_cons _ ?_ | refine List.Sublist.cons _ ?_)) ?_; refine h_pass 9 rfl rfl rfl (by kernel_rfl) rfl hG (by first | exact Ghost.le_refl _ | assumption) (by repeat' (first | exact List.nil_sublist _ | refine List.Sublist.cons_cons _ ?_ | refine List.Sublist.cons _ ?_)) ?_; refine h_pass 10 rfl rfl rfl (by kernel_rfl) rfl hG (by first | exact Ghost.le_refl _ | assumption) (by repeat' (first | exact List.nil_sublist _ | refine List.Sublist.cons_cons _ ?_ | refine List.Sublist.cons _ ?_)) ?_; refine h_takeX 11 rfl (by kernel_rfl) rfl hG (by first | exact Ghost.le_refl _ | assumption) (by repeat' (first | exact List.nil_sublist _ | refine List.Sublist.cons_cons _ ?_ | refine List.Sublist.cons _ ?_)) ?_; refine ⟨_, (val_ev rfl), ?_⟩
        refine h_one 12 (by kernel_rfl) rfl ?_
        refine r_storeA 2 rfl rfl rfl rfl (by rfl) (by repeat' (first | exact rfl | assumption | refine all_cons ?_ ?_)) rfl ?_; refine r_nn ?_
        refine h_kept hG (by first | exact Ghost.le_refl _ | assumption) (by repeat' (first | exact List.nil_sublist _ | refine List.Sublist.cons_cons _ ?_ | refine List.Sublist.cons _ ?_)) ?_
        refine h_takeX 13 rfl (by kernel_rfl) rfl hG (by first | exact Ghost.le_refl _ | assumption) (by repeat' (first | exact List.nil_sublist _ | refine List.Sublist.cons_cons _ ?_ | refine List.Sublist.cons _ ?_)) ?_; refine ⟨_, (val_ev rfl), ?_⟩
        refine h_done (by kernel_rfl) ?_
        refine r_then_normal ?_; refine r_retc ?_
        refine r_publishRow (fun g' hg' hs => ?_)
        refine r_ret2 [tabRes o] rfl (res_blk 1 rfl rfl (by rfl)) (.tmp rfl) (by simp) ⟨⟨_, _, rfl, ?_⟩, rfl⟩
        rw [hl]
        exact ⟨rfl, ⟨kd, nums, _⟩, sl, rfl, h4, hs⟩
end Go.Proofs.YtogmbpepdemdkaaDoor

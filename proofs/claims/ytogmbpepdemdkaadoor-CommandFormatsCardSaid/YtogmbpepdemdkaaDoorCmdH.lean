/- The walks of chapter 37's laws: CommandFormats, CommandLong. -/
import Derived.Test.YtogmbpepdemdkaaDoorCmdG
namespace Go.Proofs.YtogmbpepdemdkaaDoor
open Go Go.Eng Go.Proofs
set_option maxRecDepth 10000
attribute [local irreducible] wpList Code.wp Run bodyPost Go.Eng.Ends Exit.then Exit.inBlock Again Wq Kq
theorem SlAt.form {g : Ghost} {size : Nat} {v : Value} {n : Nat} {xs : List Value} (h : SlAt g size v n xs) : ∃ a m c, v = .slice a m c := by
  rcases h.2 with ⟨⟨a, c, rfl⟩, _⟩ | ⟨b, off, cap, rfl, _⟩
  · exact ⟨_, _, _, rfl⟩
  · exact ⟨_, _, _, rfl⟩
def cmdsCells (cs : List (Cmd × Value)) : List Value := cs.flatMap fun p => cmdCells p.1 p.2
theorem CommandFormats_spec (g : Ghost) {o : Obj} (hp : PowTab o) (he : ErrOk g) (raw : Cmd) (rv : Value) (hraw : CmdAt g rv raw) (hrw : ∀ n ∈ raw.nums, -9223372036854775808 ≤ n ∧ n ≤ 9223372036854775807) (kind : Int) (_hk : -9223372036854775808 ≤ kind ∧ kind ≤ 9223372036854775807)
    (v : Value) (l : List Int) (hsl : SlAt g 1 v l.length (ints l)) (_hw : ∀ n ∈ l, -9223372036854775808 ≤ n ∧ n ≤ 9223372036854775807) (s : Bytes) (hs : s.length ≤ 9223372036854775807) :
    PureO Tryd.prog 10 [rv, .int .i64 kind, v, str s] g (tabRes o) (.bool true) := by
  have hraw' := hraw
  obtain ⟨rsl, rfl, hr1, hrs⟩ := hraw'
  refine spec_of_run Tryd.func10 rfl Tryd.ntmps10 rfl fun E hE => ?_
  refine r_sr ?_
  refine r_box rfl rfl rfl (fun b4 => ?_)
  refine r_ev rfl rfl ?_; refine r_nn ?_; refine r_seq ?_; refine r_sr ?_
  refine r_callO 1 rfl rfl rfl (cfirst_spec g hp he) ?_
  refine r_ev rfl rfl ?_; refine r_nn ?_; refine r_cond_false rfl ?_; refine r_skip ?_; refine r_then_normal ?_; refine r_seq ?_; refine r_sr ?_; refine r_fieldAddr rfl rfl ?_; refine r_loadB1 0 rfl rfl rfl rfl ?_; refine r_len_str rfl rfl ?_; refine r_ev rfl rfl ?_; refine r_ev rfl rfl ?_
  refine r_gdec rfl rfl (fun h1 => ?_) (fun h1 => ?_)
  · refine r_pass rfl rfl rfl ?_; refine r_pass rfl rfl rfl ?_; refine r_pass rfl rfl rfl ?_; refine r_ev rfl rfl ?_; refine r_ev rfl rfl ?_; refine r_pass rfl rfl rfl ?_; refine r_pass rfl rfl rfl ?_; refine r_pass rfl rfl rfl ?_; refine r_pass rfl rfl rfl ?_; refine r_ev rfl rfl ?_; refine r_ev rfl rfl ?_; refine r_pass rfl rfl rfl ?_; refine r_pass rfl rfl rfl ?_; refine r_pass rfl rfl rfl ?_; refine r_ev rfl rfl ?_; refine r_nn ?_; refine r_cond_true rfl ?_; refine r_sr ?_; refine r_ev rfl rfl ?_; refine r_nn ?_; refine r_retc ?_; refine r_then_ret ?_
    exact r_ret1 [_] rfl rfl (.cons _ (List.Sublist.refl _)) ⟨rfl, rfl, rfl⟩
  refine r_tev rfl rfl rfl ?_; refine r_take rfl ?_; refine r_len_str rfl rfl ?_; refine r_tev rfl rfl rfl ?_; refine r_ev rfl rfl ?_; refine r_ev rfl rfl ?_
  refine r_gdec rfl rfl (fun h2 => ?_) (fun h2 => ?_)
  · refine r_pass rfl rfl rfl ?_; refine r_pass rfl rfl rfl ?_; refine r_pass rfl rfl rfl ?_; refine r_pass rfl rfl rfl ?_; refine r_ev rfl rfl ?_; refine r_ev rfl rfl ?_; refine r_pass rfl rfl rfl ?_; refine r_pass rfl rfl rfl ?_; refine r_pass rfl rfl rfl ?_; refine r_ev rfl rfl ?_; refine r_nn ?_; refine r_cond_true rfl ?_; refine r_sr ?_; refine r_ev rfl rfl ?_; refine r_nn ?_; refine r_retc ?_; refine r_then_ret ?_
    exact r_ret1 [_] rfl rfl (.cons _ (List.Sublist.refl _)) ⟨rfl, rfl, rfl⟩
  refine r_take rfl ?_; refine r_fieldAddr rfl rfl ?_; refine r_take rfl ?_; refine r_loadB1 0 rfl rfl rfl rfl ?_; refine r_take rfl ?_; refine r_len_at rfl rfl (by assumption) ?_; refine r_tev rfl rfl rfl ?_; refine r_ev rfl rfl ?_; refine r_ev rfl rfl ?_
  refine r_gdec rfl rfl (fun h3 => ?_) (fun h3 => ?_)
  · refine r_pass rfl rfl rfl ?_; refine r_pass rfl rfl rfl ?_; refine r_pass rfl rfl rfl ?_; refine r_ev rfl rfl ?_; refine r_nn ?_; refine r_cond_true rfl ?_; refine r_sr ?_; refine r_ev rfl rfl ?_; refine r_nn ?_; refine r_retc ?_; refine r_then_ret ?_
    exact r_ret1 [_] rfl rfl (.cons _ (List.Sublist.refl _)) ⟨rfl, rfl, rfl⟩
  refine r_tev rfl rfl rfl ?_; refine r_take rfl ?_; refine r_len_at rfl rfl (by assumption) ?_; refine r_tev rfl rfl rfl ?_; refine r_ev rfl rfl ?_; refine r_nn ?_
  refine r_cond rfl (fun h4 => ?_) (fun h4 => ?_)
  · refine r_sr ?_; refine r_ev rfl rfl ?_; refine r_nn ?_; refine r_retc ?_; refine r_then_ret ?_
    exact r_ret1 [_] rfl rfl (.cons _ (List.Sublist.refl _)) ⟨rfl, rfl, rfl⟩
  refine r_skip ?_; refine r_then_normal ?_; refine r_sr ?_; refine r_ev rfl rfl ?_; refine r_nn ?_; refine r_seq ?_; refine r_sr ?_; refine r_ev rfl rfl ?_; refine r_nn ?_; refine r_block ?_
  refine r_nilRow 3 1 ?_
  refine r_loop (ι := Nat × List Int × Value) (fun p => [(1, .int .i64 kind), (2, v), (3, str s), (4, ptr b4 0), (9, p.2.2), (10, .int .i64 p.1)]) (fun _ => g)
    (fun p => [.row 3 1 p.2.2 p.2.1.length (ints p.2.1), .blk b4 42 (cmdCells raw rsl), tabRes o]) (fun p => p.1 ≤ l.length ∧ p.2.1.length = p.1 ∧ oneC p.2.2 = true ∧ ∀ n ∈ p.2.1, -1 ≤ n ∧ n ≤ 1000000) (fun p => l.length - p.1) (0, [], .slice none 0 0) ⟨by omega, rfl, rfl, by simp⟩ ⟨rfl, rfl, rfl, rfl, rfl, rfl, trivial⟩ rfl rfl ?_
  rintro ⟨i, ns, lv⟩ ⟨hi, hln, hone, hns⟩
  simp only at hi hln hone hns
  show Run E _ [(1, .int .i64 kind), (2, v), (3, str s), (4, ptr b4 0), (9, lv), (10, .int .i64 i)] g [.row 3 1 lv ns.length (ints ns), .blk b4 42 (cmdCells raw rsl), tabRes o] _
  refine r_seq ?_; refine r_sr ?_; refine r_ev rfl rfl ?_; refine r_ev rfl rfl ?_; refine r_len_at rfl rfl (by assumption) ?_; refine r_ev rfl rfl ?_; refine r_nn ?_
  refine r_cond rfl (fun hlt => ?_) (fun hlt => ?_)
  · have hlt' : i < l.length := by omega
    obtain ⟨b, off, cap, rfl, hx⟩ := hsl.held hlt'
    have hcell : g b (off + i * 1) = some (.int .i64 l[i]) := by rw [Nat.mul_one]; exact hx i _ (by simp [ints, hlt'])
    have hm := modI_le2 l[i] 1000002 (by omega)
    refine r_skip ?_; refine r_then_normal ?_; refine r_seq ?_; refine r_block ?_; refine r_region ?_; refine r_ev rfl rfl ?_; refine r_ev rfl rfl ?_; refine r_ev rfl rfl ?_; refine r_indexAddr rfl rfl rfl rfl (by omega) ?_
    refine r_load1 rfl rfl (rd_g1 hcell) ?_
    refine r_callP rfl rfl (Mod_spec g l[i] 1000002 (by omega)) ?_
    refine r_sub_ rfl rfl rfl (by omega) ?_
    refine r_buildSlice rfl rfl (by rfl) (by rfl) (by rfl) (by rfl) (by rfl) (fun b2 => ?_)
    refine r_appendRow 1 0 rfl rfl rfl rfl rfl (by rfl) (by rfl) rfl (by unfold maxLen; omega) (by omega) (fun v' _ => ?_)
    refine r_rowOne 1 rfl (fun hv' => ?_)
    refine r_ev rfl rfl ?_; refine r_nil ?_; refine r_in_normal ?_; refine r_then_normal ?_; refine r_region ?_; refine r_ev rfl rfl ?_; refine r_add rfl rfl rfl (by omega) ?_; refine r_ev rfl rfl ?_; refine r_nn ?_
    refine r_drop (own' := [_, _, _]) (List.sublist_cons_self _ _) ?_
    refine r_again (i + 1, ns ++ [modI l[i] 1000002 - 1], v') ⟨by simp only; omega, by simp; omega, hv', ?_⟩ (by simp only; omega) ⟨rfl, rfl, rfl, rfl, rfl, rfl, trivial⟩ rfl ?_
    · intro n hn
      rcases List.mem_append.1 hn with hn | hn
      · exact hns n hn
      · rw [List.mem_singleton] at hn
        subst hn; omega
    · simp [ints, repN]
  refine r_publishRow (fun g1 hg1 hls => ?_)
  have hrs1 := hrs.mono hg1
  obtain ⟨la, lm, lc, rfl⟩ := SlAt.form hls
  obtain ⟨ra, rm, rc, rfl⟩ := SlAt.form hrs
  have hmk := Mod_spec g1 kind 13 (by omega)
  generalize modI kind 13 = kd at hmk
  refine r_exit ?_; refine r_then_exit ?_; refine r_then_exit ?_; refine r_in_exit ?_; refine r_then_normal ?_; refine r_seq ?_; refine r_seq ?_
  -- STOP1
  refine h_beginE [] mixed (fun hG => ?_)
  refine h_takeX 0 rfl (by kernel_rfl) rfl hG (by first | exact Ghost.le_refl _ | assumption) (by repeat' (first | exact List.nil_sublist _ | refine List.Sublist.cons_cons _ ?_ | refine List.Sublist.cons _ ?_)) ?_; refine ⟨_, (val_loadB 0 rfl rfl (by rfl)), ?_⟩; refine h_takeX 1 rfl (by kernel_rfl) rfl hG (by first | exact Ghost.le_refl _ | assumption) (by repeat' (first | exact List.nil_sublist _ | refine List.Sublist.cons_cons _ ?_ | refine List.Sublist.cons _ ?_)) ?_; refine ⟨_, (val_ev rfl), ?_⟩
  refine h_takeX 3 rfl (by kernel_rfl) rfl hG (by first | exact Ghost.le_refl _ | assumption) (by repeat' (first | exact List.nil_sublist _ | refine List.Sublist.cons_cons _ ?_ | refine List.Sublist.cons _ ?_)) ?_; refine ⟨_, (val_ev rfl), ?_⟩; refine h_takeX 4 rfl (by kernel_rfl) rfl hG (by first | exact Ghost.le_refl _ | assumption) (by repeat' (first | exact List.nil_sublist _ | refine List.Sublist.cons_cons _ ?_ | refine List.Sublist.cons _ ?_)) ?_; refine ⟨_, (val_ev rfl), ?_⟩
  refine h_takeX 6 rfl (by kernel_rfl) rfl hG (by first | exact Ghost.le_refl _ | assumption) (by repeat' (first | exact List.nil_sublist _ | refine List.Sublist.cons_cons _ ?_ | refine List.Sublist.cons _ ?_)) ?_; refine ⟨_, (val_ev rfl), ?_⟩
  refine h_takeX 8 rfl (by kernel_rfl) rfl hG (by first | exact Ghost.le_refl _ | assumption) (by repeat' (first | exact List.nil_sublist _ | refine List.Sublist.cons_cons _ ?_ | refine List.Sublist.cons _ ?_)) ?_; refine ⟨_, (val_ev rfl), ?_⟩
  refine h_takeX 10 rfl (by kernel_rfl) rfl hG (by first | exact Ghost.le_refl _ | assumption) (by repeat' (first | exact List.nil_sublist _ | refine List.Sublist.cons_cons _ ?_ | refine List.Sublist.cons _ ?_)) ?_; refine ⟨_, (val_ev rfl), ?_⟩
  refine h_takeX 12 rfl (by kernel_rfl) rfl hG (by first | exact Ghost.le_refl _ | assumption) (by repeat' (first | exact List.nil_sublist _ | refine List.Sublist.cons_cons _ ?_ | refine List.Sublist.cons _ ?_)) ?_; refine ⟨_, (val_ev rfl), ?_⟩
  refine h_takeX 16 rfl (by kernel_rfl) rfl hG (by first | exact Ghost.le_refl _ | assumption) (by repeat' (first | exact List.nil_sublist _ | refine List.Sublist.cons_cons _ ?_ | refine List.Sublist.cons _ ?_)) ?_; refine ⟨_, (val_ev rfl), ?_⟩
  refine h_one 2 (by kernel_rfl) rfl ?_
  refine r_callP rfl rfl hmk ?_
  refine r_nn ?_
  refine h_kept hG (by first | exact Ghost.le_refl _ | assumption) (by repeat' (first | exact List.nil_sublist _ | refine List.Sublist.cons_cons _ ?_ | refine List.Sublist.cons _ ?_)) ?_
  refine h_takeX 5 rfl (by kernel_rfl) rfl hG (by first | exact Ghost.le_refl _ | assumption) (by repeat' (first | exact List.nil_sublist _ | refine List.Sublist.cons_cons _ ?_ | refine List.Sublist.cons _ ?_)) ?_; refine ⟨_, (val_build rfl (by rfl)), ?_⟩
  refine h_one 7 (by kernel_rfl) rfl ?_
  refine r_callP rfl rfl hmk ?_
  refine r_nn ?_
  refine h_kept hG (by first | exact Ghost.le_refl _ | assumption) (by repeat' (first | exact List.nil_sublist _ | refine List.Sublist.cons_cons _ ?_ | refine List.Sublist.cons _ ?_)) ?_
  refine h_takeX 9 rfl (by kernel_rfl) rfl hG (by first | exact Ghost.le_refl _ | assumption) (by repeat' (first | exact List.nil_sublist _ | refine List.Sublist.cons_cons _ ?_ | refine List.Sublist.cons _ ?_)) ?_; refine ⟨_, (val_build rfl (by rfl)), ?_⟩
  refine h_one 11 (by kernel_rfl) rfl ?_
  refine r_callP rfl rfl hmk ?_
  refine r_nn ?_
  refine h_kept hG (by first | exact Ghost.le_refl _ | assumption) (by repeat' (first | exact List.nil_sublist _ | refine List.Sublist.cons_cons _ ?_ | refine List.Sublist.cons _ ?_)) ?_
  refine h_takeX 13 rfl (by kernel_rfl) rfl hG (by first | exact Ghost.le_refl _ | assumption) (by repeat' (first | exact List.nil_sublist _ | refine List.Sublist.cons_cons _ ?_ | refine List.Sublist.cons _ ?_)) ?_; refine ⟨_, (val_build rfl (by rfl)), ?_⟩
  refine h_one 14 (by kernel_rfl) rfl ?_
  refine r_buildSlice rfl rfl (by rfl) (by rfl) (by rfl) (by rfl) (by rfl) (fun bx => ?_)
  refine r_nn ?_
  refine h_kept hG (by first | exact Ghost.le_refl _ | assumption) (by repeat' (first | exact List.nil_sublist _ | refine List.Sublist.cons_cons _ ?_ | refine List.Sublist.cons _ ?_)) ?_
  refine h_takeX 15 rfl (by kernel_rfl) rfl hG (by first | exact Ghost.le_refl _ | assumption) (by repeat' (first | exact List.nil_sublist _ | refine List.Sublist.cons_cons _ ?_ | refine List.Sublist.cons _ ?_)) ?_; refine ⟨_, (val_len_sl rfl), ?_⟩
  refine h_done (by kernel_rfl) ?_
  refine r_publishRow (fun g2 hg2 hsx => ?_)
  obtain ⟨_, _, _, he1, hxs⟩ := hsx.held (j := 0) (by decide)
  simp only [Value.slice.injEq, Option.some.injEq, Addr.mk.injEq, and_true, true_and] at he1
  obtain ⟨⟨rfl, rfl⟩, rfl⟩ := he1
  have hle2 := Ghost.le_trans hg1 hg2
  obtain ⟨cs, hcsd⟩ : ∃ cs : List (Cmd × Value), cs = [(raw, .slice ra rm rc), (⟨kd, ns, s⟩, (.slice la lm lc)), (⟨kd, ns, []⟩, (.slice la lm lc)), (⟨kd, [], s⟩, .slice none 0 0)] := ⟨_, rfl⟩
  have hcs4 : cs.length = 4 := by rw [hcsd]; rfl
  have hcs : ∀ p ∈ cs, CmdAt g2 (.agg (cmdCells p.1 p.2).toArray) p.1 ∧ p.1.text.length ≤ 100 ∧ ∀ n ∈ p.1.nums, -9223372036854775808 ≤ n ∧ n ≤ 9223372036854775807 := by
    rw [hcsd]
    intro p hp
    have hnw : ∀ n ∈ ns, -9223372036854775808 ≤ n ∧ n ≤ 9223372036854775807 := fun n hn => by have := hns n hn; omega
    simp only [List.mem_cons, List.not_mem_nil, or_false] at hp
    rcases hp with rfl | rfl | rfl | rfl
    · exact ⟨⟨_, rfl, hr1, hrs1.mono hg2⟩, by simp only; omega, hrw⟩
    · exact ⟨⟨_, rfl, hone, hls.mono hg2⟩, by simp only; omega, hnw⟩
    · exact ⟨⟨_, rfl, hone, hls.mono hg2⟩, by simp, hnw⟩
    · exact ⟨⟨_, rfl, rfl, rfl, .inl ⟨⟨_, _, rfl⟩, rfl⟩⟩, by simp only; omega, by simp⟩
  have hxs' : ∀ k x, (cmdsCells cs)[k]? = some x → g2 bx (0 + k) = some x := by
    intro k x hk
    refine hxs k x ?_
    rw [hcsd] at hk
    exact hk
  clear hxs hsx hcsd
  refine r_then_normal ?_; refine r_block ?_
  refine r_loop (ι := Nat × Ghost) (fun p => [(67, .slice (some ⟨bx, 0, none⟩) 4 4), (68, .int .i64 4), (69, .int .i64 p.1)]) (fun p => p.2) (fun _ => [.blk b4 42 (cmdCells raw (.slice ra rm rc)), tabRes o]) (fun p => p.1 ≤ 4 ∧ Ghost.le g2 p.2) (fun p => 4 - p.1) (0, g2) ⟨by omega, Ghost.le_refl _⟩ ⟨rfl, rfl, rfl, trivial⟩ rfl rfl ?_
  rintro ⟨i, g3⟩ ⟨hi, hle⟩
  simp only at hi hle
  show Run E _ [(67, .slice (some ⟨bx, 0, none⟩) 4 4), (68, .int .i64 4), (69, .int .i64 i)] g3 [.blk b4 42 (cmdCells raw (.slice ra rm rc)), tabRes o] _
  refine r_sr ?_; refine r_ev rfl rfl ?_; refine r_nn ?_; refine r_seq ?_
  refine r_cond rfl (fun hlt => ?_) (fun hlt => ?_)
  · have hlt' : i < cs.length := by omega
    have hrd : Rd g3 [.blk b4 42 (cmdCells raw (.slice ra rm rc)), tabRes o] bx (0 + i * 3) (cmdCells cs[i].1 cs[i].2) := rd_elem (f := fun p : Cmd × Value => cmdCells p.1 p.2) (fun _ => rfl) (fun k x h => hle _ _ _ (hxs' k x h)) hlt'
    obtain ⟨hca, htx, hnw⟩ := hcs _ (List.getElem_mem hlt')
    obtain ⟨c, sl⟩ : Cmd × Value := cs[i]
    generalize cs[i] = q at hrd hca htx hnw
    obtain ⟨c, sl⟩ := q
    simp only at hrd hca htx hnw
    have hone : oneC sl = true := by
      obtain ⟨sl', he, h1, _⟩ := hca
      simp only [cmdCells, Value.agg.injEq, List.toArray_eq_iff] at he
      simp at he
      rw [he]; exact h1
    refine r_skip ?_; refine r_then_normal ?_; refine r_seq ?_; refine r_block ?_; refine r_sr ?_; refine r_indexAddr rfl rfl rfl rfl (by omega) ?_
    refine r_load rfl rfl (vs := cmdCells c sl) hrd rfl ?_
    refine r_alloc rfl (fun b12 => ?_)
    refine r_storeA 0 rfl rfl rfl rfl (by rfl) (by repeat' (first | exact rfl | assumption | refine all_cons ?_ ?_)) rfl ?_; refine r_nn ?_; refine r_sr ?_; refine r_loadB 0 rfl rfl rfl (by rfl) ?_
    refine r_callO 2 rfl rfl rfl (Format_spec g3 hp c _ (hca.mono hle) (by omega) hnw) ?_
    refine r_ev rfl rfl ?_; refine r_nn ?_; refine r_seq ?_; refine r_seq ?_
    refine r_qregion mixed (by kernel_rfl) ?_
    refine q_v rfl (val_loadB 0 rfl rfl (by rfl)) ?_
    refine q_callO 2 rfl rfl rfl (Valid_spec g3 hp c _ (hca.mono hle) (by omega) hnw) ?_
    refine q_v rfl (val_loadB 0 rfl rfl (by rfl)) ?_
    refine q_callP rfl rfl (rValid_spec g3 c _ (hca.mono hle) (by omega)) ?_
    refine q_v rfl (val_neq_bool rfl rfl (by kernel_rfl)) ?_; refine q_ev rfl rfl ?_
    refine q_gbool rfl rfl (fun h => by simp at h) (fun _ => ?_)
    refine q_tev rfl rfl rfl ?_; refine q_take rfl ?_; refine q_v rfl (val_loadB 0 rfl rfl (by rfl)) ?_; refine q_take rfl ?_
    refine q_callP rfl rfl (rFormat_spec g3 c _ (hca.mono hle) (by omega)) ?_
    refine q_tev rfl rfl rfl ?_; refine q_ev rfl rfl ?_; refine q_end ?_; refine r_then_normal ?_
    refine r_cond rfl (fun h => absurd rfl h) (fun _ => ?_)
    refine r_skip ?_; refine r_then_normal ?_; refine r_seq ?_; refine r_sr ?_; refine r_loadB 0 rfl rfl rfl (by rfl) ?_
    refine r_callO 2 rfl rfl rfl (Valid_spec g3 hp c _ (hca.mono hle) (by omega) hnw) ?_
    cases hf : formatCmd c with
    | none =>
      refine r_ev rfl rfl ?_; refine r_nn ?_; refine r_cond_true rfl ?_; refine r_exit ?_; refine r_then_exit ?_; refine r_in_exit ?_; refine r_then_normal ?_; refine r_region ?_; refine r_add rfl rfl rfl (by omega) ?_; refine r_ev rfl rfl ?_; refine r_nn ?_
      refine r_drop (own' := [_, _]) (.cons _ (List.Sublist.refl _)) ?_
      exact r_again (i + 1, g3) ⟨by simp only; omega, hle⟩ (by simp only; omega) ⟨rfl, rfl, rfl, trivial⟩ rfl rfl
    | some t =>
      have hpf := parse_format hf
      have hff := fmt_facts hf
      have hfs : fmtS c = t := by unfold fmtS; rw [hf]; rfl
      refine r_ev rfl rfl ?_; refine r_nn ?_; refine r_cond_false rfl ?_; refine r_skip ?_; refine r_then_normal ?_; refine r_sr ?_; refine r_ev rfl rfl ?_
      rw [hfs]
      refine r_callSO 2 rfl rfl rfl (Parse_spec g3 hp (he.mono (Ghost.le_trans hle2 hle)) t (by omega)) ?_
      rintro v g4 ⟨cv, e, rfl, hm⟩ hle4
      rw [hpf] at hm
      obtain ⟨rfl, hcb⟩ := hm
      have hcb' := hcb
      obtain ⟨sl', rfl, h1', _⟩ := hcb'
      refine r_ev rfl rfl ?_; refine r_ev rfl rfl ?_; refine r_ev rfl rfl ?_
      refine r_alloc rfl (fun b14 => ?_)
      refine r_storeA 0 rfl rfl rfl rfl (by rfl) (by repeat' (first | exact rfl | assumption | refine all_cons ?_ ?_)) rfl ?_; refine r_ev rfl rfl ?_; refine r_nn ?_; refine r_sr ?_; refine r_ev rfl rfl ?_; refine r_ev rfl rfl ?_; refine r_ev rfl rfl ?_; refine r_take rfl ?_; refine r_loadB 1 rfl rfl rfl (by rfl) ?_; refine r_take rfl ?_; refine r_loadB 0 rfl rfl rfl (by rfl) ?_; refine r_take rfl ?_
      refine r_callP rfl rfl (same_spec g4 c _ _ (hca.mono (Ghost.le_trans hle hle4)) hcb) ?_
      refine r_tev rfl rfl rfl ?_; refine r_ev rfl rfl ?_; refine r_nn ?_; refine r_cond_false rfl ?_; refine r_skip ?_; refine r_in_normal ?_; refine r_then_normal ?_; refine r_region ?_; refine r_add rfl rfl rfl (by omega) ?_; refine r_ev rfl rfl ?_; refine r_nn ?_
      refine r_drop (own' := [_, _]) (.cons _ (.cons _ (List.Sublist.refl _))) ?_
      exact r_again (i + 1, g4) ⟨by simp only; omega, Ghost.le_trans hle hle4⟩ (by simp only; omega) ⟨rfl, rfl, rfl, trivial⟩ rfl rfl
  · refine r_exit ?_; refine r_then_exit ?_; refine r_then_exit ?_; refine r_in_exit ?_; refine r_then_normal ?_; refine r_sr ?_; refine r_ev rfl rfl ?_; refine r_nn ?_; refine r_retc ?_
    refine r_shrink hE (Ghost.le_trans hle2 hle) ?_
    exact r_ret1 [_] rfl rfl (.cons _ (List.Sublist.refl _)) ⟨rfl, rfl, rfl⟩
end Go.Proofs.YtogmbpepdemdkaaDoor

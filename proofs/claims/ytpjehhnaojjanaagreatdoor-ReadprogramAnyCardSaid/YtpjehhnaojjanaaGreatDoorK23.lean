/- The walk of typedholesref4.EqualProgram. -/
import Derived.Test.YtpjehhnaojjanaaGreatDoorK22
import Derived.Test.YtpjehhnaojjanaaGreatDoorK13
import Derived.Test.YtpjehhnaojjanaaGreatDoorK12
import Derived.Test.YtpjehhnaojjanaaGreatDoorRows
import Derived.LaidSub
import Derived.LaidLaws
import Derived.LaidHandle
import Derived.Stop.Joined
import Derived.Lay
namespace Go.Proofs.YtpjehhnaojjanaaGreatDoor
open Go Go.Eng Go.Th Go.Proofs
set_option maxRecDepth 10000
set_option maxHeartbeats 4000000
attribute [local irreducible] wpList Code.wp Run bodyPost Go.Eng.Ends Exit.then Exit.inBlock Again Wq Kq
theorem EqualProgram_spec (g : Ghost) (p q : Pg) (hpq : SameP p q) (u v : Value) (hu : PgV g u p) (hv : PgV g v q) : Pure Tryz.prog 12 [u, v] g (.bool true) := by
  obtain ⟨hdl, hbl, hd, hb⟩ := hpq
  obtain ⟨cs, rfl, sd, xd, sb, xb, rfl, h1, h2, h3, h4⟩ := hu
  obtain ⟨cs', rfl, sd', xd', sb', xb', rfl, g1, g2, g3, g4⟩ := hv
  rw [← hdl] at g1
  rw [← hbl] at g3
  obtain ⟨da, dc, rfl⟩ := slForm2 h1
  obtain ⟨ba, bc, rfl⟩ := slForm2 h3
  obtain ⟨da', dc', rfl⟩ := slForm2 g1
  obtain ⟨ba', bc', rfl⟩ := slForm2 g3
  have hl1 := h1.le
  have hl3 := h3.le
  refine spec_of_run Tryz.func12 rfl Tryz.ntmps12 rfl fun E hE => ?_
  refine r_sr ?_
  refine r_box rfl rfl rfl (fun b2 => ?_)
  refine r_box rfl rfl rfl (fun b3 => ?_)
  refine r_ev rfl rfl ?_; refine r_nn ?_; refine r_seq ?_; refine r_sr ?_; refine r_fieldAddr rfl rfl ?_; refine r_loadB1 1 rfl rfl rfl rfl ?_; refine r_len_sl rfl rfl ?_; refine r_fieldAddr rfl rfl ?_; refine r_loadB1 0 rfl rfl rfl rfl ?_; refine r_len_sl rfl rfl ?_; refine r_ev rfl rfl ?_; refine r_ev rfl rfl ?_
  refine r_gdec rfl rfl (fun h => absurd rfl h) (fun _ => ?_)
  refine r_take rfl ?_; refine r_fieldAddr rfl rfl ?_; refine r_take rfl ?_; refine r_loadB1 1 rfl rfl rfl rfl ?_; refine r_take rfl ?_; refine r_len_sl rfl rfl ?_; refine r_take rfl ?_; refine r_fieldAddr rfl rfl ?_; refine r_take rfl ?_; refine r_loadB1 0 rfl rfl rfl rfl ?_; refine r_take rfl ?_; refine r_len_sl rfl rfl ?_; refine r_tev rfl rfl rfl ?_; refine r_ev rfl rfl ?_; refine r_nn ?_
  refine r_cond rfl (fun h => absurd rfl h) (fun _ => ?_)
  refine r_skip ?_; refine r_then_normal ?_; refine r_seq ?_; refine r_sr ?_; refine r_ev rfl rfl ?_; refine r_nn ?_; refine r_block ?_
  refine r_loop (ι := Nat) (fun i => [(2, ptr b2 0), (3, ptr b3 0), (5, .int .i64 i)]) (fun _ => g) (fun _ => [.blk b3 29 [.slice da' p.datas.length dc', .slice ba' p.binds.length bc'], .blk b2 29 [.slice da p.datas.length dc, .slice ba p.binds.length bc]]) (fun i => i ≤ p.datas.length) (fun i => p.datas.length - i) 0 (Nat.zero_le _) ⟨rfl, rfl, rfl, trivial⟩ rfl rfl ?_
  intro i hi
  refine r_seq ?_; refine r_sr ?_; refine r_ev rfl rfl ?_; refine r_fieldAddr rfl rfl ?_; refine r_loadB1 1 rfl rfl rfl rfl ?_; refine r_len_sl rfl rfl ?_; refine r_ev rfl rfl ?_; refine r_nn ?_
  refine r_cond rfl (fun hlt => ?_) (fun hlt => ?_)
  · have hlt' : i < p.datas.length := by omega
    obtain ⟨hn, hpa, hcl, hco⟩ := hd i hlt' (by omega)
    obtain ⟨b, off, cap, hsl, hx⟩ := h1.held hlt'
    cases hsl
    obtain ⟨b', off', cap', hsl', hx'⟩ := g1.held hlt'
    cases hsl'
    obtain ⟨c, e1, hr⟩ := all_rd (fun _ _ h => h.one.1) h2 hx hlt'
    obtain ⟨a1, c1, a2, c2, xc, rfl, e2, e3, e4⟩ := e1.form
    obtain ⟨c', f1, hr'⟩ := all_rd (fun _ _ h => h.one.1) g2 hx' (show i < q.datas.length by omega)
    obtain ⟨a1', c1', a2', c2', xc', rfl, f2, f3, f4⟩ := f1.form
    have hle3 := e3.le
    rw [← hn, ← hpa, ← hcl] at hr'
    rw [← hpa] at f2
    rw [← hcl] at f3
    refine r_skip ?_; refine r_then_normal ?_
    refine r_seq ?_
    refine r_block ?_
    refine r_cutG (ι := Nat × Nat) (fun o => [(2, ptr b2 0), (3, ptr b3 0), (5, .int .i64 i), (6, ptr o.1 0), (7, ptr o.2 0)]) (fun _ => g)
      (fun o => [.blk o.2 86 [.int .i64 q.datas[i].pos, str p.datas[i].name, .slice a1' p.datas[i].params.length c1', .slice a2' p.datas[i].cons.length c2'], .blk o.1 86 [.int .i64 p.datas[i].pos, str p.datas[i].name, .slice a1 p.datas[i].params.length c1, .slice a2 p.datas[i].cons.length c2], .blk b3 29 [.slice (some ⟨b', off', none⟩) p.datas.length dc', .slice ba' p.binds.length bc'], .blk b2 29 [.slice (some ⟨b, off, none⟩) p.datas.length dc, .slice ba p.binds.length bc]]) (fun _ => True) ?_ ?_
    · rintro ⟨b6, b7⟩ -
      show Run E _ [(2, ptr b2 0), (3, ptr b3 0), (5, .int .i64 i), (6, ptr b6 0), (7, ptr b7 0)] g [.blk b7 86 [.int .i64 q.datas[i].pos, str p.datas[i].name, .slice a1' p.datas[i].params.length c1', .slice a2' p.datas[i].cons.length c2'], .blk b6 86 [.int .i64 p.datas[i].pos, str p.datas[i].name, .slice a1 p.datas[i].params.length c1, .slice a2 p.datas[i].cons.length c2], .blk b3 29 [.slice (some ⟨b', off', none⟩) p.datas.length dc', .slice ba' p.binds.length bc'], .blk b2 29 [.slice (some ⟨b, off, none⟩) p.datas.length dc, .slice ba p.binds.length bc]] _
      refine r_seq ?_; refine r_sr ?_; refine r_fieldAddr rfl rfl ?_; refine r_loadB1 1 rfl rfl rfl rfl ?_; refine r_fieldAddr rfl rfl ?_; refine r_loadB1 0 rfl rfl rfl rfl ?_; refine r_ev rfl rfl ?_; refine r_ev rfl rfl ?_
      refine r_gdec rfl rfl (fun h => absurd rfl h) (fun _ => ?_)
      refine r_take rfl ?_; refine r_fieldAddr rfl rfl ?_; refine r_take rfl ?_; refine r_loadB1 1 rfl rfl rfl rfl ?_; refine r_take rfl ?_; refine r_fieldAddr rfl rfl ?_; refine r_take rfl ?_; refine r_loadB1 0 rfl rfl rfl rfl ?_; refine r_take rfl ?_
      refine r_callP rfl rfl (words4_spec g _ _ p.datas[i].params e2 f2) ?_
      refine r_tev rfl rfl rfl ?_; refine r_ev rfl rfl ?_; refine r_ev rfl rfl ?_; refine r_take rfl ?_; refine r_fieldAddr rfl rfl ?_; refine r_take rfl ?_; refine r_loadB1 1 rfl rfl rfl rfl ?_; refine r_take rfl ?_; refine r_len_sl rfl rfl ?_; refine r_take rfl ?_; refine r_fieldAddr rfl rfl ?_; refine r_take rfl ?_; refine r_loadB1 0 rfl rfl rfl rfl ?_; refine r_take rfl ?_; refine r_len_sl rfl rfl ?_; refine r_tev rfl rfl rfl ?_; refine r_ev rfl rfl ?_; refine r_nn ?_
      refine r_cond rfl (fun h => absurd rfl h) (fun _ => ?_)
      refine r_skip ?_; refine r_then_normal ?_; refine r_sr ?_; refine r_ev rfl rfl ?_; refine r_nn ?_; refine r_block ?_
      refine r_loop (ι := Nat) (fun k => [(2, ptr b2 0), (3, ptr b3 0), (5, .int .i64 i), (6, ptr b6 0), (7, ptr b7 0), (8, .int .i64 k)]) (fun _ => g) (fun _ => [.blk b7 86 [.int .i64 q.datas[i].pos, str p.datas[i].name, .slice a1' p.datas[i].params.length c1', .slice a2' p.datas[i].cons.length c2'], .blk b6 86 [.int .i64 p.datas[i].pos, str p.datas[i].name, .slice a1 p.datas[i].params.length c1, .slice a2 p.datas[i].cons.length c2], .blk b3 29 [.slice (some ⟨b', off', none⟩) p.datas.length dc', .slice ba' p.binds.length bc'], .blk b2 29 [.slice (some ⟨b, off, none⟩) p.datas.length dc, .slice ba p.binds.length bc]]) (fun k => k ≤ p.datas[i].cons.length) (fun k => p.datas[i].cons.length - k) 0 (Nat.zero_le _) ⟨rfl, rfl, rfl, rfl, rfl, rfl, trivial⟩ rfl rfl ?_
      intro k hk
      refine r_seq ?_; refine r_sr ?_; refine r_ev rfl rfl ?_; refine r_fieldAddr rfl rfl ?_; refine r_loadB1 1 rfl rfl rfl rfl ?_; refine r_len_sl rfl rfl ?_; refine r_ev rfl rfl ?_; refine r_nn ?_
      refine r_cond rfl (fun hlt2 => ?_) (fun hlt2 => ?_)
      · have hlt2' : k < p.datas[i].cons.length := by omega
        obtain ⟨hcn, hcf⟩ := hco k hlt2' (by omega)
        obtain ⟨y, yo, yc, hsy, hy⟩ := e3.held hlt2'
        cases hsy
        obtain ⟨y', yo', yc', hsy', hy'⟩ := f3.held hlt2'
        cases hsy'
        obtain ⟨cc, k1, kr⟩ := all_rd (fun _ _ h => h.one.1) e4 hy hlt2'
        obtain ⟨a3, c3, xf, rfl, k2, k3⟩ := k1.form
        obtain ⟨cc', k1', kr'⟩ := all_rd (fun _ _ h => h.one.1) f4 hy' (show k < q.datas[i].cons.length by omega)
        obtain ⟨a3', c3', xf', rfl, k2', k3'⟩ := k1'.form
        rw [← hcn, ← hcf] at kr'
        rw [← hcf] at k2' k3'
        refine r_skip ?_; refine r_then_normal ?_; refine r_seq ?_; refine r_block ?_; refine r_seq ?_
        refine r_qregion mixed (by kernel_rfl) ?_
        refine q_v rfl (val_fieldAddr rfl) ?_; refine q_v rfl (val_loadB1 1 rfl rfl rfl) ?_; refine q_ev rfl rfl ?_; refine q_v rfl (val_indexAddr rfl rfl rfl (by omega)) ?_; refine q_v rfl (val_fieldAddr rfl) ?_
        refine q_v rfl (val_load1 rfl ((kr _).at1 1 rfl)) ?_
        refine q_v rfl (val_fieldAddr rfl) ?_; refine q_v rfl (val_loadB1 0 rfl rfl rfl) ?_; refine q_ev rfl rfl ?_; refine q_v rfl (val_indexAddr rfl rfl rfl (by omega)) ?_; refine q_v rfl (val_fieldAddr rfl) ?_
        refine q_v rfl (val_load1 rfl ((kr' _).at1 1 rfl)) ?_
        refine q_ev rfl rfl ?_; refine q_ev rfl rfl ?_
        refine q_gdec rfl rfl (fun h => absurd rfl h) (fun _ => ?_)
        refine q_take rfl ?_; refine q_v rfl (val_fieldAddr rfl) ?_; refine q_take rfl ?_; refine q_v rfl (val_loadB1 1 rfl rfl rfl) ?_; refine q_tev rfl rfl rfl ?_; refine q_take rfl ?_; refine q_v rfl (val_indexAddr rfl rfl rfl (by omega)) ?_; refine q_take rfl ?_; refine q_v rfl (val_fieldAddr rfl) ?_; refine q_take rfl ?_
        refine q_v rfl (val_load1 rfl ((kr _).at1 2 rfl)) ?_
        refine q_take rfl ?_; refine q_v rfl (val_fieldAddr rfl) ?_; refine q_take rfl ?_; refine q_v rfl (val_loadB1 0 rfl rfl rfl) ?_; refine q_tev rfl rfl rfl ?_; refine q_take rfl ?_; refine q_v rfl (val_indexAddr rfl rfl rfl (by omega)) ?_; refine q_take rfl ?_; refine q_v rfl (val_fieldAddr rfl) ?_; refine q_take rfl ?_
        refine q_v rfl (val_load1 rfl ((kr' _).at1 2 rfl)) ?_
        refine q_take rfl ?_
        refine q_callP rfl rfl (EqualAll3_spec g p.datas[i].cons[k].fields _ _ xf xf' k2 k3 k2' k3') ?_
        refine q_tev rfl rfl rfl ?_; refine q_ev rfl rfl ?_; refine q_end ?_
        refine r_then_normal ?_; refine r_cond_false rfl ?_; refine r_skip ?_; refine r_in_normal ?_; refine r_then_normal ?_; refine r_region ?_; refine r_ev rfl rfl ?_; refine r_add rfl rfl rfl (by omega) ?_; refine r_ev rfl rfl ?_; refine r_nn ?_
        exact r_again (k + 1) (by omega) (by omega) ⟨rfl, rfl, rfl, rfl, rfl, rfl, trivial⟩ rfl rfl
      · refine r_exit ?_; refine r_then_exit ?_; refine r_then_exit ?_; refine r_in_exit ?_; refine r_in_normal ?_; refine r_then_normal ?_; refine r_region ?_; refine r_ev rfl rfl ?_; refine r_add rfl rfl rfl (by omega) ?_; refine r_ev rfl rfl ?_; refine r_nn ?_
        refine r_drop (own' := [_, _]) (.cons _ (.cons _ (List.Sublist.refl _))) ?_
        exact r_again (i + 1) (by omega) (by omega) ⟨rfl, rfl, rfl, trivial⟩ rfl rfl
    · intro K hK
      refine h_beginE [] mixed (fun hG => ?_)
      refine h_takeXA 0 rfl (by kernel_rfl) rfl hG ?_; refine ⟨_, (val_fieldAddr rfl), ?_⟩; refine h_takeXA 1 rfl (by kernel_rfl) rfl hG ?_; refine ⟨_, (val_loadB1 1 rfl rfl rfl), ?_⟩; refine h_takeXA 2 rfl (by kernel_rfl) rfl hG ?_; refine ⟨_, (val_ev rfl), ?_⟩
      refine h_takeXA 3 rfl (by kernel_rfl) rfl hG ⟨_, (val_indexAddr rfl rfl rfl (by omega)), ?_⟩
      refine h_takeXA 4 rfl (by kernel_rfl) rfl hG ⟨_, (val_load rfl (hr _) rfl), ?_⟩
      refine h_takeXA 5 rfl (by kernel_rfl) rfl hG ?_; refine ⟨_, (val_fieldAddr rfl), ?_⟩; refine h_takeXA 6 rfl (by kernel_rfl) rfl hG ?_; refine ⟨_, (val_loadB1 0 rfl rfl rfl), ?_⟩; refine h_takeXA 7 rfl (by kernel_rfl) rfl hG ?_; refine ⟨_, (val_ev rfl), ?_⟩
      refine h_takeXA 8 rfl (by kernel_rfl) rfl hG ⟨_, (val_indexAddr rfl rfl rfl (by omega)), ?_⟩
      refine h_takeXA 9 rfl (by kernel_rfl) rfl hG ⟨_, (val_load rfl (hr' _) rfl), ?_⟩
      refine h_two 10 11 (by kernel_rfl) rfl rfl ?_ ?_
      · refine r_alloc rfl (fun b6 => ?_)
        refine r_nn ?_
        refine h_keptA hG ?_
        refine h_one 11 (by kernel_rfl) rfl ?_
        refine r_alloc rfl (fun b7 => ?_)
        refine r_nn ?_
        refine h_keptA hG ?_
        refine h_one 12 (by kernel_rfl) rfl ?_
        refine r_storeA 1 rfl rfl rfl rfl (by rfl) (by repeat' (first | exact rfl | assumption | refine all_cons ?_ ?_)) rfl ?_; refine r_nn ?_
        refine h_keptA hG ?_
        refine h_one 13 (by kernel_rfl) rfl ?_
        refine r_storeA 0 rfl rfl rfl rfl (by rfl) (by repeat' (first | exact rfl | assumption | refine all_cons ?_ ?_)) rfl ?_; refine r_nn ?_
        refine h_keptA hG ?_
        refine h_done (by kernel_rfl) ?_
        refine r_then_normal ?_
        exact hK (b6, b7) _ trivial ⟨rfl, rfl, rfl, rfl, rfl, trivial⟩
      · refine r_alloc rfl (fun b7 => ?_)
        refine r_nn ?_
        refine h_keptA hG ?_
        refine h_one 10 (by kernel_rfl) rfl ?_
        refine r_alloc rfl (fun b6 => ?_)
        refine r_nn ?_
        refine h_keptA hG ?_
        refine h_one 12 (by kernel_rfl) rfl ?_
        refine r_storeA 0 rfl rfl rfl rfl (by rfl) (by repeat' (first | exact rfl | assumption | refine all_cons ?_ ?_)) rfl ?_; refine r_nn ?_
        refine h_keptA hG ?_
        refine h_one 13 (by kernel_rfl) rfl ?_
        refine r_storeA 1 rfl rfl rfl rfl (by rfl) (by repeat' (first | exact rfl | assumption | refine all_cons ?_ ?_)) rfl ?_; refine r_nn ?_
        refine h_keptA hG ?_
        refine h_done (by kernel_rfl) ?_
        refine r_then_normal ?_
        refine r_perm (List.Perm.swap _ _ _) ?_
        exact hK (b6, b7) _ trivial ⟨rfl, rfl, rfl, rfl, rfl, trivial⟩
  · refine r_exit ?_; refine r_then_exit ?_; refine r_then_exit ?_; refine r_in_exit ?_; refine r_then_normal ?_; refine r_seq ?_; refine r_sr ?_; refine r_ev rfl rfl ?_; refine r_nn ?_; refine r_block ?_
    refine r_loop (ι := Nat) (fun i => [(2, ptr b2 0), (3, ptr b3 0), (9, .int .i64 i)]) (fun _ => g) (fun _ => [.blk b3 29 [.slice da' p.datas.length dc', .slice ba' p.binds.length bc'], .blk b2 29 [.slice da p.datas.length dc, .slice ba p.binds.length bc]]) (fun i => i ≤ p.binds.length) (fun i => p.binds.length - i) 0 (Nat.zero_le _) ⟨rfl, rfl, rfl, trivial⟩ rfl rfl ?_
    intro i hi
    refine r_seq ?_; refine r_sr ?_; refine r_ev rfl rfl ?_; refine r_fieldAddr rfl rfl ?_; refine r_loadB1 1 rfl rfl rfl rfl ?_; refine r_len_sl rfl rfl ?_; refine r_ev rfl rfl ?_; refine r_nn ?_
    refine r_cond rfl (fun hltb => ?_) (fun hltb => ?_)
    · have hlt' : i < p.binds.length := by omega
      obtain ⟨e1', e2', e3', e4', heq, hs1, hs2⟩ := hb i hlt' (by omega)
      obtain ⟨b, off, cap, hsl, hx⟩ := h3.held hlt'
      cases hsl
      obtain ⟨b', off', cap', hsl', hx'⟩ := g3.held hlt'
      cases hsl'
      obtain ⟨c, e1, hr⟩ := all_rd (fun _ _ h => h.one.1) h4 hx hlt'
      obtain ⟨y1, y2, y3, y4, y5, y6, y7, y8, y9, y10, y11, y12, rfl, y13, y14⟩ := e1.form
      obtain ⟨c', f1, hr'⟩ := all_rd (fun _ _ h => h.one.1) g4 hx' (show i < q.binds.length by omega)
      obtain ⟨z1, z2, z3, z4, z5, z6, z7, z8, z9, z10, z11, z12, rfl, z13, z14⟩ := f1.form
      rw [← e1', ← e2', ← e3', ← e4'] at hr'
      rw [← e4'] at z13
      generalize p.binds[i].isRec = rb at hr hr'
      generalize p.binds[i].hasSig = sb at hr hr'
      generalize p.binds[i].name = nm at hr hr'
      refine r_skip ?_; refine r_then_normal ?_
      refine r_seq ?_
      refine r_block ?_
      refine r_cutG (ι := Nat × Nat) (fun o => [(2, ptr b2 0), (3, ptr b3 0), (9, .int .i64 i), (10, ptr o.1 0), (11, ptr o.2 0)]) (fun _ => g)
        (fun o => [.blk o.2 73 [.int .i64 q.binds[i].pos, .bool rb, str nm, .bool sb, .int .i64 p.binds[i].sig.kind, str p.binds[i].sig.name, .int .i64 p.binds[i].sig.id, .int .i64 p.binds[i].sig.home, .slice z1 z2 z3, .int .i64 q.binds[i].body.kind, .int .i64 q.binds[i].body.pos, str q.binds[i].body.name, .int .i64 q.binds[i].body.num, .slice z4 z5 z6, .slice z7 z8 z9, .int .i64 q.binds[i].body.ty.kind, str q.binds[i].body.ty.name, .int .i64 q.binds[i].body.ty.id, .int .i64 q.binds[i].body.ty.home, .slice z10 z11 z12], .blk o.1 73 [.int .i64 p.binds[i].pos, .bool rb, str nm, .bool sb, .int .i64 p.binds[i].sig.kind, str p.binds[i].sig.name, .int .i64 p.binds[i].sig.id, .int .i64 p.binds[i].sig.home, .slice y1 y2 y3, .int .i64 p.binds[i].body.kind, .int .i64 p.binds[i].body.pos, str p.binds[i].body.name, .int .i64 p.binds[i].body.num, .slice y4 y5 y6, .slice y7 y8 y9, .int .i64 p.binds[i].body.ty.kind, str p.binds[i].body.ty.name, .int .i64 p.binds[i].body.ty.id, .int .i64 p.binds[i].body.ty.home, .slice y10 y11 y12], .blk b3 29 [.slice da' p.datas.length dc', .slice (some ⟨b', off', none⟩) p.binds.length bc'], .blk b2 29 [.slice da p.datas.length dc, .slice (some ⟨b, off, none⟩) p.binds.length bc]]) (fun _ => True) ?_ ?_
      · rintro ⟨b10, b11⟩ -
        show Run E _ [(2, ptr b2 0), (3, ptr b3 0), (9, .int .i64 i), (10, ptr b10 0), (11, ptr b11 0)] g [.blk b11 73 [.int .i64 q.binds[i].pos, .bool rb, str nm, .bool sb, .int .i64 p.binds[i].sig.kind, str p.binds[i].sig.name, .int .i64 p.binds[i].sig.id, .int .i64 p.binds[i].sig.home, .slice z1 z2 z3, .int .i64 q.binds[i].body.kind, .int .i64 q.binds[i].body.pos, str q.binds[i].body.name, .int .i64 q.binds[i].body.num, .slice z4 z5 z6, .slice z7 z8 z9, .int .i64 q.binds[i].body.ty.kind, str q.binds[i].body.ty.name, .int .i64 q.binds[i].body.ty.id, .int .i64 q.binds[i].body.ty.home, .slice z10 z11 z12], .blk b10 73 [.int .i64 p.binds[i].pos, .bool rb, str nm, .bool sb, .int .i64 p.binds[i].sig.kind, str p.binds[i].sig.name, .int .i64 p.binds[i].sig.id, .int .i64 p.binds[i].sig.home, .slice y1 y2 y3, .int .i64 p.binds[i].body.kind, .int .i64 p.binds[i].body.pos, str p.binds[i].body.name, .int .i64 p.binds[i].body.num, .slice y4 y5 y6, .slice y7 y8 y9, .int .i64 p.binds[i].body.ty.kind, str p.binds[i].body.ty.name, .int .i64 p.binds[i].body.ty.id, .int .i64 p.binds[i].body.ty.home, .slice y10 y11 y12], .blk b3 29 [.slice da' p.datas.length dc', .slice (some ⟨b', off', none⟩) p.binds.length bc'], .blk b2 29 [.slice da p.datas.length dc, .slice (some ⟨b, off, none⟩) p.binds.length bc]] _
        cases rb with
        | true =>
          cases sb with
          | true =>
            refine r_sr ?_; refine r_fieldAddr rfl rfl ?_; refine r_loadB1 1 rfl rfl rfl rfl ?_; refine r_fieldAddr rfl rfl ?_; refine r_loadB1 0 rfl rfl rfl rfl ?_; refine r_v rfl (val_neq_bool rfl rfl (by kernel_rfl)) ?_; refine r_ev rfl rfl ?_; refine r_take rfl ?_; refine r_fieldAddr rfl rfl ?_; refine r_take rfl ?_; refine r_loadB1 1 rfl rfl rfl rfl ?_; refine r_take rfl ?_; refine r_fieldAddr rfl rfl ?_; refine r_take rfl ?_; refine r_loadB1 0 rfl rfl rfl rfl ?_; refine r_tev rfl rfl rfl ?_; refine r_ev rfl rfl ?_; refine r_ev rfl rfl ?_
            refine r_gdec rfl rfl (fun h => absurd rfl h) (fun _ => ?_)
            refine r_take rfl ?_; refine r_fieldAddr rfl rfl ?_; refine r_take rfl ?_; refine r_loadB1 1 rfl rfl rfl rfl ?_; refine r_take rfl ?_; refine r_fieldAddr rfl rfl ?_; refine r_take rfl ?_; refine r_loadB1 0 rfl rfl rfl rfl ?_; refine r_take rfl ?_; refine r_v rfl (val_neq_bool rfl rfl (by kernel_rfl)) ?_; refine r_ev rfl rfl ?_; refine r_ev rfl rfl ?_; refine r_take rfl ?_; refine r_fieldAddr rfl rfl ?_; refine r_take rfl ?_; refine r_loadB 1 rfl rfl rfl (by rfl) ?_; refine r_take rfl ?_; refine r_fieldAddr rfl rfl ?_; refine r_take rfl ?_; refine r_loadB 0 rfl rfl rfl (by rfl) ?_; refine r_take rfl ?_
            refine r_callP rfl rfl (Equal_spec g p.binds[i].sig _ _ ⟨_, rfl, y13⟩ ⟨_, rfl, z13⟩) ?_
            refine r_tev rfl rfl rfl ?_; refine r_ev rfl rfl ?_; refine r_ev rfl rfl ?_; refine r_take rfl ?_; refine r_fieldAddr rfl rfl ?_; refine r_take rfl ?_; refine r_loadB 1 rfl rfl rfl (by rfl) ?_; refine r_take rfl ?_; refine r_fieldAddr rfl rfl ?_; refine r_take rfl ?_; refine r_loadB 0 rfl rfl rfl (by rfl) ?_; refine r_take rfl ?_
            refine r_callP rfl rfl (Equal4_spec g p.binds[i].body q.binds[i].body _ _ hs1 hs2 heq ⟨_, rfl, y14⟩ ⟨_, rfl, z14⟩) ?_
            refine r_tev rfl rfl rfl ?_; refine r_ev rfl rfl ?_; refine r_nn ?_; refine r_cond_false rfl ?_; refine r_skip ?_; refine r_in_normal ?_; refine r_then_normal ?_; refine r_region ?_; refine r_ev rfl rfl ?_; refine r_add rfl rfl rfl (by omega) ?_; refine r_ev rfl rfl ?_; refine r_nn ?_
            refine r_drop (own' := [_, _]) (.cons _ (.cons _ (List.Sublist.refl _))) ?_
            exact r_again (i + 1) (by omega) (by omega) ⟨rfl, rfl, rfl, trivial⟩ rfl rfl
          | false =>
            refine r_sr ?_; refine r_fieldAddr rfl rfl ?_; refine r_loadB1 1 rfl rfl rfl rfl ?_; refine r_fieldAddr rfl rfl ?_; refine r_loadB1 0 rfl rfl rfl rfl ?_; refine r_v rfl (val_neq_bool rfl rfl (by kernel_rfl)) ?_; refine r_ev rfl rfl ?_; refine r_take rfl ?_; refine r_fieldAddr rfl rfl ?_; refine r_take rfl ?_; refine r_loadB1 1 rfl rfl rfl rfl ?_; refine r_take rfl ?_; refine r_fieldAddr rfl rfl ?_; refine r_take rfl ?_; refine r_loadB1 0 rfl rfl rfl rfl ?_; refine r_tev rfl rfl rfl ?_; refine r_ev rfl rfl ?_; refine r_ev rfl rfl ?_
            refine r_gdec rfl rfl (fun h => absurd rfl h) (fun _ => ?_)
            refine r_take rfl ?_; refine r_fieldAddr rfl rfl ?_; refine r_take rfl ?_; refine r_loadB1 1 rfl rfl rfl rfl ?_; refine r_take rfl ?_; refine r_fieldAddr rfl rfl ?_; refine r_take rfl ?_; refine r_loadB1 0 rfl rfl rfl rfl ?_; refine r_take rfl ?_; refine r_v rfl (val_neq_bool rfl rfl (by kernel_rfl)) ?_; refine r_ev rfl rfl ?_; refine r_ev rfl rfl ?_; refine r_take rfl ?_; refine r_fieldAddr rfl rfl ?_; refine r_take rfl ?_; refine r_loadB 1 rfl rfl rfl (by rfl) ?_; refine r_take rfl ?_; refine r_fieldAddr rfl rfl ?_; refine r_take rfl ?_; refine r_loadB 0 rfl rfl rfl (by rfl) ?_; refine r_take rfl ?_
            refine r_callP rfl rfl (Equal_spec g p.binds[i].sig _ _ ⟨_, rfl, y13⟩ ⟨_, rfl, z13⟩) ?_
            refine r_tev rfl rfl rfl ?_; refine r_ev rfl rfl ?_; refine r_ev rfl rfl ?_; refine r_take rfl ?_; refine r_fieldAddr rfl rfl ?_; refine r_take rfl ?_; refine r_loadB 1 rfl rfl rfl (by rfl) ?_; refine r_take rfl ?_; refine r_fieldAddr rfl rfl ?_; refine r_take rfl ?_; refine r_loadB 0 rfl rfl rfl (by rfl) ?_; refine r_take rfl ?_
            refine r_callP rfl rfl (Equal4_spec g p.binds[i].body q.binds[i].body _ _ hs1 hs2 heq ⟨_, rfl, y14⟩ ⟨_, rfl, z14⟩) ?_
            refine r_tev rfl rfl rfl ?_; refine r_ev rfl rfl ?_; refine r_nn ?_; refine r_cond_false rfl ?_; refine r_skip ?_; refine r_in_normal ?_; refine r_then_normal ?_; refine r_region ?_; refine r_ev rfl rfl ?_; refine r_add rfl rfl rfl (by omega) ?_; refine r_ev rfl rfl ?_; refine r_nn ?_
            refine r_drop (own' := [_, _]) (.cons _ (.cons _ (List.Sublist.refl _))) ?_
            exact r_again (i + 1) (by omega) (by omega) ⟨rfl, rfl, rfl, trivial⟩ rfl rfl
        | false =>
          cases sb with
          | true =>
            refine r_sr ?_; refine r_fieldAddr rfl rfl ?_; refine r_loadB1 1 rfl rfl rfl rfl ?_; refine r_fieldAddr rfl rfl ?_; refine r_loadB1 0 rfl rfl rfl rfl ?_; refine r_v rfl (val_neq_bool rfl rfl (by kernel_rfl)) ?_; refine r_ev rfl rfl ?_; refine r_take rfl ?_; refine r_fieldAddr rfl rfl ?_; refine r_take rfl ?_; refine r_loadB1 1 rfl rfl rfl rfl ?_; refine r_take rfl ?_; refine r_fieldAddr rfl rfl ?_; refine r_take rfl ?_; refine r_loadB1 0 rfl rfl rfl rfl ?_; refine r_tev rfl rfl rfl ?_; refine r_ev rfl rfl ?_; refine r_ev rfl rfl ?_
            refine r_gdec rfl rfl (fun h => absurd rfl h) (fun _ => ?_)
            refine r_take rfl ?_; refine r_fieldAddr rfl rfl ?_; refine r_take rfl ?_; refine r_loadB1 1 rfl rfl rfl rfl ?_; refine r_take rfl ?_; refine r_fieldAddr rfl rfl ?_; refine r_take rfl ?_; refine r_loadB1 0 rfl rfl rfl rfl ?_; refine r_take rfl ?_; refine r_v rfl (val_neq_bool rfl rfl (by kernel_rfl)) ?_; refine r_ev rfl rfl ?_; refine r_ev rfl rfl ?_; refine r_take rfl ?_; refine r_fieldAddr rfl rfl ?_; refine r_take rfl ?_; refine r_loadB 1 rfl rfl rfl (by rfl) ?_; refine r_take rfl ?_; refine r_fieldAddr rfl rfl ?_; refine r_take rfl ?_; refine r_loadB 0 rfl rfl rfl (by rfl) ?_; refine r_take rfl ?_
            refine r_callP rfl rfl (Equal_spec g p.binds[i].sig _ _ ⟨_, rfl, y13⟩ ⟨_, rfl, z13⟩) ?_
            refine r_tev rfl rfl rfl ?_; refine r_ev rfl rfl ?_; refine r_ev rfl rfl ?_; refine r_take rfl ?_; refine r_fieldAddr rfl rfl ?_; refine r_take rfl ?_; refine r_loadB 1 rfl rfl rfl (by rfl) ?_; refine r_take rfl ?_; refine r_fieldAddr rfl rfl ?_; refine r_take rfl ?_; refine r_loadB 0 rfl rfl rfl (by rfl) ?_; refine r_take rfl ?_
            refine r_callP rfl rfl (Equal4_spec g p.binds[i].body q.binds[i].body _ _ hs1 hs2 heq ⟨_, rfl, y14⟩ ⟨_, rfl, z14⟩) ?_
            refine r_tev rfl rfl rfl ?_; refine r_ev rfl rfl ?_; refine r_nn ?_; refine r_cond_false rfl ?_; refine r_skip ?_; refine r_in_normal ?_; refine r_then_normal ?_; refine r_region ?_; refine r_ev rfl rfl ?_; refine r_add rfl rfl rfl (by omega) ?_; refine r_ev rfl rfl ?_; refine r_nn ?_
            refine r_drop (own' := [_, _]) (.cons _ (.cons _ (List.Sublist.refl _))) ?_
            exact r_again (i + 1) (by omega) (by omega) ⟨rfl, rfl, rfl, trivial⟩ rfl rfl
          | false =>
            refine r_sr ?_; refine r_fieldAddr rfl rfl ?_; refine r_loadB1 1 rfl rfl rfl rfl ?_; refine r_fieldAddr rfl rfl ?_; refine r_loadB1 0 rfl rfl rfl rfl ?_; refine r_v rfl (val_neq_bool rfl rfl (by kernel_rfl)) ?_; refine r_ev rfl rfl ?_; refine r_take rfl ?_; refine r_fieldAddr rfl rfl ?_; refine r_take rfl ?_; refine r_loadB1 1 rfl rfl rfl rfl ?_; refine r_take rfl ?_; refine r_fieldAddr rfl rfl ?_; refine r_take rfl ?_; refine r_loadB1 0 rfl rfl rfl rfl ?_; refine r_tev rfl rfl rfl ?_; refine r_ev rfl rfl ?_; refine r_ev rfl rfl ?_
            refine r_gdec rfl rfl (fun h => absurd rfl h) (fun _ => ?_)
            refine r_take rfl ?_; refine r_fieldAddr rfl rfl ?_; refine r_take rfl ?_; refine r_loadB1 1 rfl rfl rfl rfl ?_; refine r_take rfl ?_; refine r_fieldAddr rfl rfl ?_; refine r_take rfl ?_; refine r_loadB1 0 rfl rfl rfl rfl ?_; refine r_take rfl ?_; refine r_v rfl (val_neq_bool rfl rfl (by kernel_rfl)) ?_; refine r_ev rfl rfl ?_; refine r_ev rfl rfl ?_; refine r_take rfl ?_; refine r_fieldAddr rfl rfl ?_; refine r_take rfl ?_; refine r_loadB 1 rfl rfl rfl (by rfl) ?_; refine r_take rfl ?_; refine r_fieldAddr rfl rfl ?_; refine r_take rfl ?_; refine r_loadB 0 rfl rfl rfl (by rfl) ?_; refine r_take rfl ?_
            refine r_callP rfl rfl (Equal_spec g p.binds[i].sig _ _ ⟨_, rfl, y13⟩ ⟨_, rfl, z13⟩) ?_
            refine r_tev rfl rfl rfl ?_; refine r_ev rfl rfl ?_; refine r_ev rfl rfl ?_; refine r_take rfl ?_; refine r_fieldAddr rfl rfl ?_; refine r_take rfl ?_; refine r_loadB 1 rfl rfl rfl (by rfl) ?_; refine r_take rfl ?_; refine r_fieldAddr rfl rfl ?_; refine r_take rfl ?_; refine r_loadB 0 rfl rfl rfl (by rfl) ?_; refine r_take rfl ?_
            refine r_callP rfl rfl (Equal4_spec g p.binds[i].body q.binds[i].body _ _ hs1 hs2 heq ⟨_, rfl, y14⟩ ⟨_, rfl, z14⟩) ?_
            refine r_tev rfl rfl rfl ?_; refine r_ev rfl rfl ?_; refine r_nn ?_; refine r_cond_false rfl ?_; refine r_skip ?_; refine r_in_normal ?_; refine r_then_normal ?_; refine r_region ?_; refine r_ev rfl rfl ?_; refine r_add rfl rfl rfl (by omega) ?_; refine r_ev rfl rfl ?_; refine r_nn ?_
            refine r_drop (own' := [_, _]) (.cons _ (.cons _ (List.Sublist.refl _))) ?_
            exact r_again (i + 1) (by omega) (by omega) ⟨rfl, rfl, rfl, trivial⟩ rfl rfl
      · intro K hK
        refine h_beginE [] mixed (fun hG => ?_)
        refine h_takeXA 0 rfl (by kernel_rfl) rfl hG ?_; refine ⟨_, (val_fieldAddr rfl), ?_⟩; refine h_takeXA 1 rfl (by kernel_rfl) rfl hG ?_; refine ⟨_, (val_loadB1 1 rfl rfl rfl), ?_⟩; refine h_takeXA 2 rfl (by kernel_rfl) rfl hG ?_; refine ⟨_, (val_ev rfl), ?_⟩
        refine h_takeXA 3 rfl (by kernel_rfl) rfl hG ⟨_, (val_indexAddr rfl rfl rfl (by omega)), ?_⟩
        refine h_takeXA 4 rfl (by kernel_rfl) rfl hG ⟨_, (val_load rfl (hr _) rfl), ?_⟩
        refine h_takeXA 5 rfl (by kernel_rfl) rfl hG ?_; refine ⟨_, (val_fieldAddr rfl), ?_⟩; refine h_takeXA 6 rfl (by kernel_rfl) rfl hG ?_; refine ⟨_, (val_loadB1 0 rfl rfl rfl), ?_⟩; refine h_takeXA 7 rfl (by kernel_rfl) rfl hG ?_; refine ⟨_, (val_ev rfl), ?_⟩
        refine h_takeXA 8 rfl (by kernel_rfl) rfl hG ⟨_, (val_indexAddr rfl rfl rfl (by omega)), ?_⟩
        refine h_takeXA 9 rfl (by kernel_rfl) rfl hG ⟨_, (val_load rfl (hr' _) rfl), ?_⟩
        refine h_two 10 11 (by kernel_rfl) rfl rfl ?_ ?_
        · refine r_alloc rfl (fun b10 => ?_)
          refine r_nn ?_
          refine h_keptA hG ?_
          refine h_one 11 (by kernel_rfl) rfl ?_
          refine r_alloc rfl (fun b11 => ?_)
          refine r_nn ?_
          refine h_keptA hG ?_
          refine h_one 12 (by kernel_rfl) rfl ?_
          refine r_storeA 1 rfl rfl rfl rfl (by rfl) (by repeat' (first | exact rfl | assumption | refine all_cons ?_ ?_)) rfl ?_; refine r_nn ?_
          refine h_keptA hG ?_
          refine h_one 13 (by kernel_rfl) rfl ?_
          refine r_storeA 0 rfl rfl rfl rfl (by rfl) (by repeat' (first | exact rfl | assumption | refine all_cons ?_ ?_)) rfl ?_; refine r_nn ?_
          refine h_keptA hG ?_
          refine h_done (by kernel_rfl) ?_
          refine r_then_normal ?_
          exact hK (b10, b11) _ trivial ⟨rfl, rfl, rfl, rfl, rfl, trivial⟩
        · refine r_alloc rfl (fun b11 => ?_)
          refine r_nn ?_
          refine h_keptA hG ?_
          refine h_one 10 (by kernel_rfl) rfl ?_
          refine r_alloc rfl (fun b10 => ?_)
          refine r_nn ?_
          refine h_keptA hG ?_
          refine h_one 12 (by kernel_rfl) rfl ?_
          refine r_storeA 0 rfl rfl rfl rfl (by rfl) (by repeat' (first | exact rfl | assumption | refine all_cons ?_ ?_)) rfl ?_; refine r_nn ?_
          refine h_keptA hG ?_
          refine h_one 13 (by kernel_rfl) rfl ?_
          refine r_storeA 1 rfl rfl rfl rfl (by rfl) (by repeat' (first | exact rfl | assumption | refine all_cons ?_ ?_)) rfl ?_; refine r_nn ?_
          refine h_keptA hG ?_
          refine h_done (by kernel_rfl) ?_
          refine r_then_normal ?_
          refine r_perm (List.Perm.swap _ _ _) ?_
          exact hK (b10, b11) _ trivial ⟨rfl, rfl, rfl, rfl, rfl, trivial⟩
    · refine r_exit ?_; refine r_then_exit ?_; refine r_then_exit ?_; refine r_in_exit ?_; refine r_then_normal ?_; refine r_sr ?_; refine r_ev rfl rfl ?_; refine r_nn ?_; refine r_retc ?_
      exact r_ret1 [] rfl rfl (by simp) ⟨rfl, rfl, rfl⟩
end Go.Proofs.YtpjehhnaojjanaaGreatDoor
-- sum 9b5f67ccae9c4968

/- The walk of ReadprogramAny. -/
namespace Go.Proofs.YtpjehhnaojjanaaGreatDoor
open Go Go.Eng Go.Th Go.Proofs
set_option maxRecDepth 10000
set_option maxHeartbeats 4000000
attribute [local irreducible] wpList Code.wp Run bodyPost Go.Eng.Ends Exit.then Exit.inBlock Again Wq Kq
theorem parseR_size (s : Bytes) : ∀ b ∈ (resP (parseR s)).binds, sizeE b.body ≤ 1000000 := by
  unfold parseR
  cases hsc : scan s with
  | bad e p => intro b hb; simp [resP] at hb
  | ok l =>
    have hb4 : l.length ≤ 4000 := by
      have := (toksOf_facts s).1
      rwa [show toksOf s = l by unfold toksOf; rw [hsc]] at this
    simp only []
    cases hp : progR l ⟨[], []⟩ 0 with
    | error p => intro b hb; simp [resP] at hb
    | ok P =>
      simp only []
      split
      · intro b hb
        exact ((progR_wf hb4 hp).b b hb).2.2.1
      · intro b hb; simp [resP] at hb
theorem ReadprogramAny_spec (g : Ghost) (hg : ErrT g) (s : Bytes) (hs0 : s.length ≤ 9223372036854775807) (v : Value) (l : List Int) (hs : SlAt g 1 v l.length (ints l)) (_hw : ∀ n ∈ l, -9223372036854775808 ≤ n ∧ n ≤ 9223372036854775807) : Pure Tryz.prog 3 [str s, v] g (.bool true) := by
  have hle0 := hs.le
  refine spec_of_run Tryz.func3 rfl Tryz.ntmps3 rfl fun E hE => ?_
  refine r_sr ?_
  refine r_ev rfl rfl ?_; refine r_nn ?_; refine r_seq ?_; refine r_sr ?_
  refine r_callN rfl rfl (first7_spec g hg) ?_
  rintro _ g1 rfl hle1
  have hg1 := hg.mono hle1
  obtain ⟨sa, sc, rfl⟩ := slForm2 hs
  have hs1 := hs.mono hle1
  refine r_ev rfl rfl ?_; refine r_nn ?_; refine r_cond_false rfl ?_; refine r_skip ?_; refine r_then_normal ?_; refine r_seq ?_; refine r_sr ?_; refine r_ev rfl rfl ?_; refine r_len_str rfl rfl ?_; refine r_ev rfl rfl ?_; refine r_ev rfl rfl ?_
  refine r_gdec rfl rfl (fun h50 => ?_) (fun h50 => ?_)
  · refine r_shrink hE hle1 ?_
    refine r_pass rfl rfl rfl ?_; refine r_pass rfl rfl rfl ?_; refine r_pass rfl rfl rfl ?_; refine r_ev rfl rfl ?_; refine r_nn ?_; refine r_cond_true rfl ?_; refine r_sr ?_; refine r_ev rfl rfl ?_; refine r_nn ?_; refine r_retc ?_; refine r_then_ret ?_
    exact r_ret1 [] rfl rfl (by simp) ⟨rfl, rfl, rfl⟩
  refine r_tev rfl rfl rfl ?_; refine r_take rfl ?_; refine r_len_sl rfl rfl ?_; refine r_tev rfl rfl rfl ?_; refine r_ev rfl rfl ?_; refine r_nn ?_
  refine r_cond rfl (fun h20 => ?_) (fun h20 => ?_)
  · refine r_shrink hE hle1 ?_
    refine r_sr ?_; refine r_ev rfl rfl ?_; refine r_nn ?_; refine r_retc ?_; refine r_then_ret ?_
    exact r_ret1 [] rfl rfl (by simp) ⟨rfl, rfl, rfl⟩
  refine r_skip ?_; refine r_then_normal ?_; refine r_seq ?_; refine r_sr ?_; refine r_ev rfl rfl ?_; refine r_ev rfl rfl ?_
  refine r_callP rfl rfl (words7_spec g1 _ l (by omega) hs1) ?_
  have hwl := words7_len l
  refine r_buildSlice rfl rfl (by rfl) (by rfl) (by rfl) (by rfl) (by rfl) (fun b => ?_)
  refine r_len_sl rfl rfl ?_; refine r_ev rfl rfl ?_; refine r_nn ?_; refine r_block ?_
  refine r_loop (ι := Nat × Ghost) (fun o => [(24, .slice (some ⟨b, 0, none⟩) 2 2), (25, .int .i64 2), (26, .int .i64 o.1)]) (fun o => o.2) (fun _ => [.row 9 1 (.slice (some ⟨b, 0, none⟩) 2 2) 2 [str s, str (words7 l)]]) (fun o => o.1 ≤ 2 ∧ Ghost.le g1 o.2) (fun o => 2 - o.1) (0, g1) ⟨by omega, Ghost.le_refl _⟩ ⟨rfl, rfl, rfl, trivial⟩ rfl rfl ?_
  rintro ⟨i, g2⟩ ⟨hi, hle2⟩
  simp only at hi hle2
  show Run E _ [(24, .slice (some ⟨b, 0, none⟩) 2 2), (25, .int .i64 2), (26, .int .i64 i)] g2 [.row 9 1 (.slice (some ⟨b, 0, none⟩) 2 2) 2 [str s, str (words7 l)]] _
  have hg2 := hg1.mono hle2
  refine r_sr ?_; refine r_ev rfl rfl ?_; refine r_nn ?_; refine r_seq ?_
  refine r_cond rfl (fun hlt => ?_) (fun hlt => ?_)
  · have hlt' : i < 2 := by omega
    obtain ⟨t, ht, htl⟩ : ∃ t, [str s, str (words7 l)][i]? = some (str t) ∧ t.length ≤ 1640 := by
      rcases i with _ | _ | i
      · exact ⟨_, rfl, by omega⟩
      · exact ⟨_, rfl, by omega⟩
      · omega
    refine r_skip ?_; refine r_then_normal ?_; refine r_seq ?_; refine r_block ?_; refine r_sr ?_; refine r_indexAddr rfl rfl rfl rfl (by omega) ?_
    refine r_load1 rfl rfl (v := str t) (rd_row1 0 rfl (by rw [show 0 + i * 1 = i by omega]; exact ht)) ?_
    have hsm := parseR_size t
    refine r_ev rfl rfl ?_; refine r_nn ?_; refine r_sr ?_; refine r_ev rfl rfl ?_
    refine r_callN rfl rfl (Parse_spec g2 hg2 t (by omega)) ?_
    unfold postPar
    rintro _ g3 ⟨pv, rfl, hV⟩ hle3
    obtain ⟨pc, rfl, hV'⟩ := id hV
    obtain ⟨sd, xd, sb, xb, rfl, hq1, _, hq3, _⟩ := id hV'
    obtain ⟨da, dc, rfl⟩ := slForm2 hq1
    obtain ⟨ba, bc, rfl⟩ := slForm2 hq3
    refine r_ev rfl rfl ?_; refine r_ev rfl rfl ?_; refine r_ev rfl rfl ?_
    refine r_alloc rfl (fun b7 => ?_)
    skip
    refine r_alloc rfl (fun b8 => ?_)
    refine r_storeA 1 rfl rfl rfl rfl (by rfl) (by repeat' (first | exact rfl | assumption | refine all_cons ?_ ?_)) rfl ?_; refine r_storeA 0 rfl rfl rfl rfl (by rfl) (by repeat' (first | exact rfl | assumption | refine all_cons ?_ ?_)) rfl ?_; refine r_nn ?_; refine r_sr ?_; refine r_ev rfl rfl ?_
    refine r_callN rfl rfl (Parse7_spec g3 t (by omega)) ?_
    unfold postPar
    rintro _ g4 ⟨pv', rfl, hW⟩ hle4
    obtain ⟨pc', rfl, hW'⟩ := id hW
    obtain ⟨sd', xd', sb', xb', rfl, hp1, _, hp3, _⟩ := id hW'
    obtain ⟨da', dc', rfl⟩ := slForm2 hp1
    obtain ⟨ba', bc', rfl⟩ := slForm2 hp3
    generalize resF (parseR t) = F
    obtain ⟨fe, fp⟩ := F
    unfold fltV
    refine r_ev rfl rfl ?_; refine r_ev rfl rfl ?_; refine r_ev rfl rfl ?_
    refine r_alloc rfl (fun b9 => ?_)
    skip
    refine r_alloc rfl (fun b10 => ?_)
    refine r_storeA 1 rfl rfl rfl rfl (by rfl) (by repeat' (first | exact rfl | assumption | refine all_cons ?_ ?_)) rfl ?_; refine r_storeA 0 rfl rfl rfl rfl (by rfl) (by repeat' (first | exact rfl | assumption | refine all_cons ?_ ?_)) rfl ?_; refine r_nn ?_; refine r_sr ?_; refine r_loadB 2 rfl rfl rfl (by rfl) ?_; refine r_loadB 0 rfl rfl rfl (by rfl) ?_
    refine r_v rfl (val_neq_pair rfl rfl) ?_
    refine r_ev rfl rfl ?_
    refine r_gdec rfl rfl (fun h => absurd h (by simp)) (fun _ => ?_)
    refine r_take rfl ?_; refine r_loadB 3 rfl rfl rfl (by rfl) ?_; refine r_take rfl ?_; refine r_loadB 1 rfl rfl rfl (by rfl) ?_; refine r_take rfl ?_
    refine r_callP rfl rfl (EqualProgram_spec g4 _ _ (SameP.refl hsm) _ _ ⟨_, rfl, hV'.mono hle4⟩ hW) ?_
    refine r_tev rfl rfl rfl ?_; refine r_ev rfl rfl ?_; refine r_ev rfl rfl ?_; refine r_take rfl ?_; refine r_loadB 3 rfl rfl rfl (by rfl) ?_; refine r_take rfl ?_; refine r_loadB 1 rfl rfl rfl (by rfl) ?_; refine r_take rfl ?_
    refine r_callP rfl rfl (places_spec g4 _ _ _ ⟨_, rfl, hV'.mono hle4⟩ hW) ?_
    refine r_tev rfl rfl rfl ?_; refine r_ev rfl rfl ?_; refine r_nn ?_; refine r_cond_false rfl ?_; refine r_skip ?_; refine r_in_normal ?_; refine r_then_normal ?_; refine r_region ?_; refine r_add rfl rfl rfl (by omega) ?_; refine r_ev rfl rfl ?_; refine r_nn ?_
    refine r_drop (own' := [_]) (.cons _ (.cons _ (.cons _ (.cons _ (List.Sublist.refl _))))) ?_
    exact r_again (i + 1, g4) ⟨by omega, Ghost.le_trans hle2 (Ghost.le_trans hle3 hle4)⟩ (by simp only; omega) ⟨rfl, rfl, rfl, trivial⟩ rfl rfl
  · refine r_exit ?_; refine r_then_exit ?_; refine r_then_exit ?_; refine r_in_exit ?_; refine r_then_normal ?_; refine r_sr ?_; refine r_ev rfl rfl ?_; refine r_nn ?_; refine r_retc ?_
    refine r_shrink hE (Ghost.le_trans hle1 hle2) ?_
    skip
    exact r_ret1 [] rfl rfl (by simp) ⟨rfl, rfl, rfl⟩
end Go.Proofs.YtpjehhnaojjanaaGreatDoor
-- sum 32299222ed6a0b21

/- The library's variable errors.errorType: from the rows' condition to what the walks need, and a world that meets it. -/
namespace Go.Proofs.YtpjehhnaojjanaaGreatDoor
open Go Go.Eng Go.Proofs Go.RowKit
theorem eT_g : Tryz.prog.globalNamed "errors.errorType" = some 0 := by kernel_rfl
theorem eT_rt : (Tryz.prog.cutTypes.find? (·.1 == "internal/reflectlite.rtype")).map (·.2) = some 253 := by kernel_rfl
theorem eT_row : ((List.range Tryz.prog.types.size).filter fun t => Tryz.prog.rowNamed t [101, 114, 114, 111, 114]) = [153] := by kernel_rfl
theorem errT_of {W : World} {L : List (String × DataW Unit)} (h : laidMetH Tryz.prog L W) (hm : ("errors.errorType", Rows.laid_errors_errorType) ∈ L) : ErrT (worldGhost W) := by
  obtain ⟨name, u, ty, e1, e2, e3, e4, e5⟩ := (laidMetH_iff.1 h).2 _ (List.mem_filter.2 ⟨hm, rfl⟩)
  have en : name = [101, 114, 114, 111, 114] := (Option.some.inj e1).symm
  subst en
  obtain rfl := Option.some.inj (eT_rt.symm.trans e2)
  have hm : ty ∈ (List.range Tryz.prog.types.size).filter fun t => Tryz.prog.rowNamed t [101, 114, 114, 111, 114] := List.mem_filter.2 ⟨List.mem_range.2 e3, e4⟩
  rw [eT_row] at hm
  obtain rfl := List.mem_singleton.1 hm
  show W.cell? _ = _
  simpa using World.var?_cell eT_g e5 0
/-- A world in which the variable is laid. -/
noncomputable def laidWorldH (os : Os) : World :=
  let w0 := World.holding Tryz.prog os ⟨#[], #[], []⟩
  { w0 with heap := w0.heap.modify 0 fun
      | .cells _ t frozen => .cells #[rty 153] t frozen
      | o => o }
/-- .. and the plain variables of a list with it. -/
noncomputable def laidWorldA (os : Os) (L : List (String × DataW Unit)) : World := (laidWorldH os).layVars Tryz.prog L
theorem laidWorldA_os (os : Os) (L : List (String × DataW Unit)) : (laidWorldA os L).os = os := World.layVars_os _ _ _
theorem laidMetA {os : Os} {L : List (String × DataW Unit)} (args : Array Value) (hf : (laidWorldH os).layFits Tryz.prog L [] = true) (hi : (laidWorldH os).layIfaces Tryz.prog L (laidWorldA os L) = true) :
    laidMet Tryz.prog L ((laidWorldA os L).forCall (fun _ _ => 0) ⟨#[], args, []⟩).memory := by
  have e1 : (L.filter fun x => (L.map (·.1)).contains x.1) = L := List.filter_eq_self.2 fun x hx => List.contains_iff_mem.2 (List.mem_map.2 ⟨x, hx, rfl⟩)
  have e2 : (L.filter fun x => !(L.map (·.1)).contains x.1) = [] := List.filter_eq_nil_iff.2 fun x hx => by rw [List.contains_iff_mem.2 (List.mem_map.2 ⟨x, hx, rfl⟩)]; simp
  have h : laidMet Tryz.prog L (laidWorldA os L) := laidMet_layVars (w0 := laidWorldH os) (L.map (·.1)) [] (by rw [e1]; rfl) (by rw [e1]; exact hf) (by rw [e1]; exact hi) (by rw [e2]; exact LaidIn.none)
  exact h.of_heap (by simp [World.memory, World.forCall, Input.heap])
end Go.Proofs.YtpjehhnaojjanaaGreatDoor
-- sum 15bbee09bf3712fc


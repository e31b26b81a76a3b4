/- The walks of chapter 4 and of chapter 6's laws: Equal, sameAll. -/
import Derived.Test.YtpjehhnaojjanaaGreatDoorK8
import Derived.Test.YtpjehhnaojjanaaGreatDoorK7
import Derived.Test.YtpjehhnaojjanaaGreatDoorK9
import Derived.Test.YtpjehhnaojjanaaGreatDoorK2
import Derived.Test.YtpjehhnaojjanaaGreatDoorK4
import Derived.ProofKit
namespace Go.Proofs.YtpjehhnaojjanaaGreatDoor
open Go Go.Eng Go.Th Go.Proofs
set_option maxRecDepth 10000
set_option maxHeartbeats 4000000
attribute [local irreducible] wpList Code.wp Run bodyPost Go.Eng.Ends Exit.then Exit.inBlock Again Wq Kq
theorem Equal4_aux (g : Ghost) : ∀ (N : Nat) (g : Ghost) (a c : Ex) (u v : Value), sizeE a < N → sizeE a ≤ 1000000 → sizeE c ≤ 1000000 → eraseE a = eraseE c → ExV g u a → ExV g v c → Pure Tryz.prog 28 [u, v] g (.bool true)
 | 0, _, _, _, _, _, h, _, _, _, _, _ => by omega
 | N + 1, g, a, c, u, v, hN, ha, hc, he, hu, hv => by
  have ih := Equal4_aux g N
  obtain ⟨f1, f2, f3, f4, f5, f6, f7, f8⟩ := erase_parts he
  have hcl := childE_len a
  have hcl2 : (childE a).length = a.kids.length + a.arms.length := by simp [childE]
  have hu0 := hu
  have hv0 := hv
  obtain ⟨a1, c1, a2, c2, a3, m3, c3, xk, xa, rfl, h1, h2, h3, h4, h5⟩ := hu.open
  obtain ⟨b1, d1, b2, d2, b3, n3, d3, yk, ya, rfl, g1, g2, g3, g4, g5⟩ := hv.open
  rw [← f1, ← f2, ← f3, ← f4, ← f5, ← f6] at hv0 ⊢
  rw [← f4] at g5
  rw [← f5] at g1
  rw [← f6] at g3
  refine spec_of_run Tryz.func28 rfl Tryz.ntmps28 rfl fun E hE => ?_
  refine r_sr ?_
  refine r_box rfl rfl rfl (fun p2 => ?_)
  refine r_box rfl rfl rfl (fun p3 => ?_)
  refine r_ev rfl rfl <| r_nn <| r_seq <| r_sr <| r_fieldAddr rfl rfl <| r_loadB1 1 rfl rfl rfl rfl <| r_fieldAddr rfl rfl <| r_loadB1 0 rfl rfl rfl rfl <| r_ev rfl rfl <| r_ev rfl rfl ?_
  refine r_gdec rfl rfl (fun h => absurd rfl h) (fun _ => ?_)
  refine r_take rfl <| r_fieldAddr rfl rfl <| r_take rfl <| r_loadB1 1 rfl rfl rfl rfl <| r_take rfl <| r_fieldAddr rfl rfl <| r_take rfl <| r_loadB1 0 rfl rfl rfl rfl <| r_tev rfl rfl rfl <| r_ev rfl rfl <| r_ev rfl rfl ?_
  refine r_gdec rfl rfl (fun h => absurd rfl h) (fun _ => ?_)
  refine r_take rfl <| r_fieldAddr rfl rfl <| r_take rfl <| r_loadB1 1 rfl rfl rfl rfl <| r_take rfl <| r_fieldAddr rfl rfl <| r_take rfl <| r_loadB1 0 rfl rfl rfl rfl <| r_tev rfl rfl rfl <| r_ev rfl rfl <| r_ev rfl rfl ?_
  refine r_gdec rfl rfl (fun h => absurd rfl h) (fun _ => ?_)
  refine r_take rfl <| r_fieldAddr rfl rfl <| r_take rfl <| r_loadB 1 rfl rfl rfl (by rfl) ?_; refine r_take rfl <| r_fieldAddr rfl rfl <| r_take rfl <| r_loadB 0 rfl rfl rfl (by rfl) ?_; refine r_take rfl ?_
  refine r_callP rfl rfl (Equal_spec g a.ty _ _ ⟨_, rfl, h5⟩ ⟨_, rfl, g5⟩) ?_
  refine r_tev rfl rfl rfl <| r_ev rfl rfl <| r_ev rfl rfl <| r_take rfl <| r_fieldAddr rfl rfl <| r_take rfl <| r_loadB1 1 rfl rfl rfl rfl <| r_take rfl <| r_len_sl rfl rfl <| r_take rfl <| r_fieldAddr rfl rfl <| r_take rfl <| r_loadB1 0 rfl rfl rfl rfl <| r_take rfl ?_; refine r_len_sl rfl rfl <| r_tev rfl rfl rfl <| r_ev rfl rfl <| r_ev rfl rfl ?_
  refine r_gdec rfl rfl (fun h => absurd rfl h) (fun _ => ?_)
  refine r_take rfl <| r_fieldAddr rfl rfl <| r_take rfl <| r_loadB1 1 rfl rfl rfl rfl <| r_take rfl <| r_len_sl rfl rfl <| r_take rfl <| r_fieldAddr rfl rfl <| r_take rfl <| r_loadB1 0 rfl rfl rfl rfl <| r_take rfl <| r_len_sl rfl rfl <| r_tev rfl rfl rfl <| r_ev rfl rfl ?_; refine r_nn ?_
  refine r_cond rfl (fun h => absurd rfl h) (fun _ => ?_)
  refine r_skip <| r_then_normal <| r_seq <| r_sr <| r_ev rfl rfl <| r_nn <| r_block ?_
  refine r_loop (ι := Nat) (fun i => [(2, ptr p2 0), (3, ptr p3 0), (5, .int .i64 i)]) (fun _ => g) (fun _ => [.blk p3 51 [.int .i64 a.kind, .int .i64 c.pos, str a.name, .int .i64 a.num, .slice b1 a.kids.length d1, .slice b2 a.arms.length d2, .int .i64 a.ty.kind, str a.ty.name, .int .i64 a.ty.id, .int .i64 a.ty.home, .slice b3 n3 d3], .blk p2 51 [.int .i64 a.kind, .int .i64 a.pos, str a.name, .int .i64 a.num, .slice a1 a.kids.length c1, .slice a2 a.arms.length c2, .int .i64 a.ty.kind, str a.ty.name, .int .i64 a.ty.id, .int .i64 a.ty.home, .slice a3 m3 c3]]) (fun i => i ≤ a.arms.length) (fun i => a.arms.length - i) 0 (Nat.zero_le _) ⟨rfl, rfl, rfl, trivial⟩ rfl rfl ?_
  intro i hi
  refine r_seq <| r_sr <| r_ev rfl rfl <| r_fieldAddr rfl rfl <| r_loadB1 1 rfl rfl rfl rfl <| r_len_sl rfl rfl <| r_ev rfl rfl <| r_nn ?_
  refine r_cond rfl (fun hlt => ?_) (fun hlt => ?_)
  ·have hlt' : i < a.arms.length := by omega
   have hlt2 : i < c.arms.length := by omega
   obtain ⟨e1, e2⟩ := f7 i hlt' hlt2
   obtain ⟨bb, off, cap, hsl, hxx⟩ := h3.held hlt'
   cases hsl
   obtain ⟨bb', off', cap', hsl', hyy⟩ := g3.held hlt'
   cases hsl'
   obtain ⟨sv, bc, hb1, _, hr⟩ := ars_rd (own := [.blk p3 51 [.int .i64 a.kind, .int .i64 c.pos, str a.name, .int .i64 a.num, .slice b1 a.kids.length d1, .slice (some ⟨bb', off', none⟩) a.arms.length d2, .int .i64 a.ty.kind, str a.ty.name, .int .i64 a.ty.id, .int .i64 a.ty.home, .slice b3 n3 d3], .blk p2 51 [.int .i64 a.kind, .int .i64 a.pos, str a.name, .int .i64 a.num, .slice a1 a.kids.length c1, .slice (some ⟨bb, off, none⟩) a.arms.length c2, .int .i64 a.ty.kind, str a.ty.name, .int .i64 a.ty.id, .int .i64 a.ty.home, .slice a3 m3 c3]]) h4 hxx hlt'
   obtain ⟨sv', bc', hb1', _, hr'⟩ := ars_rd (own := [.blk p3 51 [.int .i64 a.kind, .int .i64 c.pos, str a.name, .int .i64 a.num, .slice b1 a.kids.length d1, .slice (some ⟨bb', off', none⟩) a.arms.length d2, .int .i64 a.ty.kind, str a.ty.name, .int .i64 a.ty.id, .int .i64 a.ty.home, .slice b3 n3 d3], .blk p2 51 [.int .i64 a.kind, .int .i64 a.pos, str a.name, .int .i64 a.num, .slice a1 a.kids.length c1, .slice (some ⟨bb, off, none⟩) a.arms.length c2, .int .i64 a.ty.kind, str a.ty.name, .int .i64 a.ty.id, .int .i64 a.ty.home, .slice a3 m3 c3]]) g4 hyy hlt2
   rw [← e1] at hr'
   rw [← e2] at hb1'
   refine r_skip <| r_then_normal <| r_seq <| r_block <| r_seq ?_
   refine r_qregion mixed (by kernel_rfl) ?_
   refine q_v rfl (val_fieldAddr rfl) ?_; refine q_v rfl (val_loadB1 1 rfl rfl rfl) ?_; refine q_ev rfl rfl <| q_v rfl (val_indexAddr rfl rfl rfl (by omega)) ?_; refine q_v rfl (val_fieldAddr rfl) ?_
   refine q_v rfl (val_load1 rfl (hr.at1 1 rfl)) ?_
   refine q_v rfl (val_fieldAddr rfl) ?_; refine q_v rfl (val_loadB1 0 rfl rfl rfl) ?_; refine q_ev rfl rfl <| q_v rfl (val_indexAddr rfl rfl rfl (by omega)) ?_; refine q_v rfl (val_fieldAddr rfl) ?_
   refine q_v rfl (val_load1 rfl (hr'.at1 1 rfl)) ?_
   refine q_ev rfl rfl <| q_ev rfl rfl ?_
   refine q_gdec rfl rfl (fun h => absurd rfl h) (fun _ => ?_)
   refine q_take rfl <| q_v rfl (val_fieldAddr rfl) ?_; refine q_take rfl <| q_v rfl (val_loadB1 1 rfl rfl rfl) ?_; refine q_tev rfl rfl rfl <| q_take rfl <| q_v rfl (val_indexAddr rfl rfl rfl (by omega)) ?_; refine q_take rfl <| q_v rfl (val_fieldAddr rfl) ?_; refine q_take rfl ?_
   refine q_v rfl (val_load1 rfl (hr.at1 2 rfl)) ?_
   refine q_take rfl <| q_v rfl (val_fieldAddr rfl) ?_; refine q_take rfl <| q_v rfl (val_loadB1 0 rfl rfl rfl) ?_; refine q_tev rfl rfl rfl <| q_take rfl <| q_v rfl (val_indexAddr rfl rfl rfl (by omega)) ?_; refine q_take rfl <| q_v rfl (val_fieldAddr rfl) ?_; refine q_take rfl ?_
   refine q_v rfl (val_load1 rfl (hr'.at1 2 rfl)) ?_
   refine q_take rfl ?_
   refine q_callP rfl rfl (words4_spec g _ _ _ hb1 hb1') ?_
   refine q_tev rfl rfl rfl <| q_ev rfl rfl <| q_end <| r_then_normal <| r_cond_false rfl <| r_skip <| r_in_normal <| r_then_normal <| r_region <| r_ev rfl rfl <| r_add rfl rfl rfl (by omega) ?_; refine r_ev rfl rfl <| r_nn ?_
   exact r_again (i + 1) (by omega) (by omega) ⟨rfl, rfl, rfl, trivial⟩ rfl rfl
  ·refine r_exit <| r_then_exit <| r_then_exit <| r_in_exit <| r_then_normal <| r_seq ?_
   -- STOPA
   refine h_beginE [] mixed (fun hG => ?_)
   refine h_takeXA 0 rfl (by kernel_rfl) rfl hG ?_; refine ⟨_, (val_loadB 1 rfl rfl (by rfl)), ?_⟩
   refine h_takeXA 2 rfl (by kernel_rfl) rfl hG ?_; refine ⟨_, (val_loadB 0 rfl rfl (by rfl)), ?_⟩
   refine h_one 1 (by kernel_rfl) rfl ?_
   refine r_callN rfl rfl (Children_spec g _ a hu0 ha) ?_
   rintro w g1' ⟨xs, hs1, hx1⟩ hle1
   refine r_nn ?_
   refine h_keptA hG ?_
   refine h_one 3 (by kernel_rfl) rfl ?_
   refine r_callN rfl rfl (Children_spec g1' _ c (hv0.mono hle1) hc) ?_
   rintro w2 g2' ⟨ys, hs2, hx2⟩ hle2
   have hle12 := Ghost.le_trans hle1 hle2
   refine r_nn ?_
   refine h_keptA hG ?_
   refine h_one 4 (by kernel_rfl) rfl ?_
   refine r_callP rfl rfl (EqualAll4_of g2' (childE a) (childE c) (by simpa using congrArg List.length f8) (fun i h h' u v h1 h2 => ih g2' _ _ u v (by
    have := childE_size (List.getElem_mem h)
    omega) (by have := childE_size (List.getElem_mem h); omega) (by have := childE_size (List.getElem_mem h'); omega) (by
    have : ((childE a).map eraseE)[i]? = ((childE c).map eraseE)[i]? := by rw [f8]
    simpa [h, h'] using this) h1 h2) _ _ _ _ (hs1.mono hle2) (ExsAt.mono hle2 _ _ hx1) hs2 hx2) ?_
   refine r_nn ?_
   refine h_keptA hG ?_
   refine h_one 5 (by kernel_rfl) rfl ?_
   refine r_ev rfl rfl <| r_nn ?_
   refine h_keptA hG ?_
   refine h_done (by kernel_rfl) ?_
   refine r_shrink hE hle12 ?_
   refine r_then_normal <| r_retc ?_
   exact r_ret1 [] rfl rfl (by simp) ⟨rfl, rfl, rfl⟩
theorem Equal4_spec (g : Ghost) (a c : Ex) (u v : Value) (ha : sizeE a ≤ 1000000) (hc : sizeE c ≤ 1000000) (he : eraseE a = eraseE c) (hu : ExV g u a) (hv : ExV g v c) : Pure Tryz.prog 28 [u, v] g (.bool true) := Equal4_aux g _ g a c u v (Nat.lt_succ_self _) ha hc he hu hv
end Go.Proofs.YtpjehhnaojjanaaGreatDoor
-- sum 3c6cb7710a29f47d

/- A row as a block: stores into a row. -/
namespace Go.Eng
open Go Go.RowKit
section
variable {E : Env} {n : Nat} {L : Slots} {g : Ghost} {own : List Res}
end
end Go.Eng
-- sum 197897c61d0796c5

/- The walk of typedholesmake's Tape.Raw: it makes expressions that can be written, with short texts. Printed by mkraw.py. -/
namespace Go.Proofs.YtpjehhnaojjanaaGreatDoor
open Go Go.Eng Go.Th Go.Proofs
set_option maxRecDepth 10000
set_option maxHeartbeats 4000000
attribute [local irreducible] wpList Code.wp Run bodyPost Go.Eng.Ends Exit.then Exit.inBlock Again Wq Kq
structure RwE (g : Ghost) (codes : List Int) (lv : Value) (ds : List Da) (dv : Value) : Prop where
 c : SlAt g 1 lv codes.length (codes.map (Value.int .i64))
 hc : codes.length ≤ 1000000
 d : ∃ xd, SlAt g 4 dv ds.length xd ∧ AllAt (DaAt g) ds xd
 dn : ds.length ≤ 8
 dg : ∀ d ∈ ds, gdD d ∧ gcD d
theorem RwE.mono {g g' : Ghost} (hle : Ghost.le g g') {codes : List Int} {lv : Value} {ds : List Da} {dv : Value} (h : RwE g codes lv ds dv) : RwE g' codes lv ds dv := by
 obtain ⟨h1, h2, ⟨xd, h3, h4⟩, h5, h6⟩ := h
 exact ⟨h1.mono hle, h2, ⟨xd, h3.mono hle, das_mono hle h4⟩, h5, h6⟩
end Go.Proofs.YtpjehhnaojjanaaGreatDoor
-- sum 65fa3924f21ee8fb

/- The canonical text of a type is read as this type, in parentheses too. -/
namespace Go.Proofs.YtpjehhnaojjanaaGreatDoor
open Go Go.Eng Go.Th Go.Proofs
theorem kt_scan {s : Bytes} {ws : List Bytes} (h : Scans s ws) (hl : s.length ≤ 4000) : kt (toksOf s) = kts ws := by
 have h1 := h 0 [] [] apart_nil (fun j => ⟨[], rfl, rfl⟩)
 rw [List.append_nil, List.append_nil] at h1
 obtain ⟨l, e1, e2⟩ := scan_okKt hl h1
 rw [toksOf, e1]
 exact e2
theorem ktl_len (l : List Tok) : List.length (kt l) = l.length := by simp [kt]
theorem ktAt_zero {l : List Tok} {ws : List (Int × Bytes)} (h : kt l = ws) : KtAt l 0 ws := by
 unfold KtAt
 rw [List.drop_zero, h]
theorem idx_zero (n : Nat) : idxOf n 0 = 0 := by unfold idxOf; split <;> omega
end Go.Proofs.YtpjehhnaojjanaaGreatDoor
-- sum cc73277c9c5c4e7a

/- The canonical text of an expression is read as this expression up to positions, in parentheses too. -/
namespace Go.Proofs.YtpjehhnaojjanaaGreatDoor
open Go Go.Eng Go.Th Go.Proofs
theorem stopE_nil : StopE [] := fun _ _ _ e => by cases e
theorem showE_reads {e : Ex} (h : GoodE e) (hl : (showE e).length ≤ 4000) {l r : List Tok} (he : l = toksOf (showE e) ++ r) (hr : StopE (kt r)) : ∃ y, eread l .expr (idxOf l.length 0) = .ok (y, (toksOf (showE e)).length) ∧ eraseE y = eraseE e := by
 have h1 := kt_scan (scans_E h) hl
 have h2 : kt l = kts (toksE e) ++ kt r := by
  rw [he, ← h1]
  simp [kt]
 obtain ⟨y, h3, h5⟩ := (reads_E h l 0 (kt r)).1 hr (ktAt_zero h2)
 have h4 := congrArg List.length h1
 rw [ktl_len, kts_len] at h4
 exact ⟨y, by rw [idx_zero, h3, h4, Nat.zero_add], h5⟩
end Go.Proofs.YtpjehhnaojjanaaGreatDoor
-- sum d0bed938f0bc38c7

/- The frame of a law: from a contract to the statement's call; over any program. -/
namespace Go.Eng
open Go Go.RowKit Go.ChangeShapes Go.WideShapes Go.ChangeAt
def worldGhost (w : World) : Ghost := fun b o => w.cell? ⟨b, o, none⟩
theorem worldHolds (w : World) : Holds (worldGhost w) [] w := ⟨fun _ _ _ h => h, by simp, by simp [foots], by simp [foots]⟩
theorem below_of_pure {P : Program} {f : FuncId} {vals : List Value} {v : Value} {W : World} (h : Pure P f vals (worldGhost W) v) : Calls P f vals.toArray W fun e w' => e = .returned v ∧ Below W.heap.size W w' :=
 (h W (worldHolds W)).mono fun e w' ⟨v', g', own', he, ⟨h1, _, _⟩, hI⟩ => ⟨by rw [he, h1], ⟨hI.2.os, hI.2.tape, hI.2.output, hI.2.size, fun b hb => hI.2.kept b hb (by simp [foots])⟩⟩
end Go.Eng
-- sum 270b925d6396a6b8


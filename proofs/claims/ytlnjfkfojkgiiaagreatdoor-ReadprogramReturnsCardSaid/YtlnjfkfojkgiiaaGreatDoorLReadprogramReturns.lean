/- The law ReadprogramReturns holds for every input: it returns true, and its arguments read as before; no condition beyond the row's own (the listed tables of the library hold what the text lays). -/
import Derived.Test.YtlnjfkfojkgiiaaGreatDoorTie
import Derived.Test.YtlnjfkfojkgiiaaGreatDoorCards
import Derived.Test.YtlnjfkfojkgiiaaGreatDoorK31
import Derived.WalkKit
import Derived.ProofKit
import Derived.OpenShut
import Derived.ShutString
import Derived.ChangeOld
import Derived.Below
import Derived.Lay
import Derived.LaidOnce
import Derived.SevenTiedAt
namespace Go.Proofs.YtlnjfkfojkgiiaaGreatDoor
open Go Go.aZ Go.Proofs Go.ChangeShapes Go.WideShapes Go.ChangeAt Go.RowKit
open Go.ChangeMaps (open_string shut_string)
set_option linter.unusedVariables false
theorem aEM : ownKnob Tryz.prog.godebug = none := by kernel_rfl
theorem aEN : laidOutB Tryz.prog = true := by kernel_rfl
set_option maxRecDepth 100000 in
theorem aEO (os : Os) (started : os.Started) (H : Type) (enc : TypeId × Value → H) :
  ReturnsInHanded {} Tryz.checked os 3 .any (fun w args => (Rows.readprogramReturnsSpec.pre enc Tryz.prog Tryz.f3 Rows.readprogramReturnsRow.domain false w args ∧ laidMetH Tryz.prog Rows.readprogramReturnsRow.laid w) ∧ sizedMet enc Tryz.prog Tryz.f3 (OpenSpec.ofChange Rows.readprogramReturnsSpec) false w args)
   (Rows.readprogramReturnsSpec.post enc Tryz.prog Tryz.f3 false true false false) := by
 refine returnsInHanded_of_change_and (C := Tryz.checked) (X := fun w _ => laidMetH Tryz.prog Rows.readprogramReturnsRow.laid w) (fun _ _ _ hh h => h.of_heap hh) aEM started (by kernel_rfl) Tryz.func3
  (ChangeSpec.witness_shaped (enc := enc) (C := Tryz.checked) (os := os) (X := fun w _ => laidMetH Tryz.prog Rows.readprogramReturnsRow.laid w) false (yL os (Rows.readprogramReturnsRow.laid.filter fun x => x.2.handleName?.isNone)) #[.int .i64 0, .slice none 0 0, .int .i64 0] 8 (aCW _ _)
   (World.shaped_of_ZipB (by kernel_rfl) (by kernel_rfl)) (by kernel_rfl) (by kernel_rfl) (by kernel_rfl) (laidMetH_of_parts (aCX _ (by kernel_rfl) (by kernel_rfl)) (by kernel_rfl))) ?_
 intro W base args ds gs before aEP hW _ _ hL _
 have Ep : ∀ (j : Nat) t v, Tryz.f3.params[j]? = some t → args[j]? = some v → Value.okWide Tryz.prog W .any base t v := aEP
 have hW' := hW
 obtain ⟨p, q, D8, hV, rfl, _, _⟩ := hW
 have hA : DataW.TrodAll enc Tryz.prog W 0 (fun _ => true) true Tryz.f3.params.toList args.toList ds p := D8
 rw [Tryz.params3] at hA Ep
 obtain ⟨v0, vs0, d0, ds0, p0, q0, ji, rfl, rfl, h0, r0⟩ := trodAll_cons hA
 obtain ⟨v1, vs1, d1, ds1, p1, q1, rfl, rfl, rfl, h1, r1⟩ := trodAll_cons r0
 obtain ⟨v2, vs2, d2, ds2, p2, q2, rfl, rfl, rfl, h2, r2⟩ := trodAll_cons r1
 obtain ⟨rfl, rfl, rfl⟩ := trodAll_nil r2
 obtain rfl : args = #[v0, v1, v2] := by cases args; simp_all
 obtain ⟨rfl, rfl⟩ := trodVars_none hV
 obtain ⟨a0, rfl, rfl, rfl, w0⟩ := open_int Tryz.underlying3 (Ep 0 3 v0 rfl rfl) h0
 have b0 : -9223372036854775808 ≤ a0 ∧ a0 ≤ 9223372036854775807 := by simpa [Lit.wf, IntKind.min, IntKind.max, IntKind.signed, IntKind.bits] using w0
 obtain ⟨x1, n1, m1, rfl⟩ := okWide_slice Tryz.underlying22 (Ep 1 22 v1 rfl rfl)
 have lt1 : ∀ x ∈ p1, x.block < W.heap.size := by obtain ⟨m, hm⟩ := h1; exact DataW.trod_lt m _ _ _ hm
 obtain ⟨l1, _, aJ, hw1⟩ := UB Tryz.underlying22 Tryz.underlying3 (by kernel_rfl) h1
 have b1 : ∀ n ∈ l1, -9223372036854775808 ≤ n ∧ n ≤ 9223372036854775807 := fun n hn => by simpa [Lit.wf, IntKind.min, IntKind.max, IntKind.signed, IntKind.bits] using hw1 n hn
 obtain ⟨a2, rfl, rfl, rfl, w2⟩ := open_int Tryz.underlying3 (Ep 2 3 v2 rfl rfl) h2
 have b2 : -9223372036854775808 ≤ a2 ∧ a2 ≤ 9223372036854775807 := by simpa [Lit.wf, IntKind.min, IntKind.max, IntKind.signed, IntKind.bits] using w2
 refine (UA (aCO (uP W) (aCV hL (List.mem_of_getElem? (show (Rows.readprogramReturnsRow.laid)[4]? = some _ from rfl))) a0 b0 _ l1 aJ b1 a2 b2)).mono fun e W' ⟨he, Sj⟩ => ?_
 subst he
 exact ⟨_, rfl, _, _, _, [], _, [], hW', trodAll_mk1 (shut_bool Tryz.underlying4 _), (trodAll_cons_mk (shut_int Tryz.underlying3 w0) (trodAll_cons_mk (Below.trod aEN (by kernel_rfl) (of_decide_eq_true (by kernel_rfl)) h1 Sj lt1) (trodAll_cons_mk (shut_int Tryz.underlying3 w2) trodAll_mk0))), rfl, Sj.frame _, fun h => by cases h⟩
set_option maxRecDepth 100000 in
set_option maxHeartbeats 40000000 in
theorem aEQ : joinedFacts Tryz.prog 3 Tryz.f3 Rows.readprogramReturnsSpec Rows.readprogramReturnsRow = true := by
 unfold joinedFacts
 simp only [Bool.and_eq_true]
 repeat' apply And.intro
 all_goals (as_aux_lemma => kernel_rfl)
theorem aER : Rows.ReadprogramReturnsSaid :=
 OpenClaim.holds_of_wide 3 Tryz.f3 rfl rfl rfl rfl rfl rfl rfl ⟨rfl, rfl, rfl, rfl, rfl⟩ rfl rfl rfl rfl rfl (by kernel_rfl) Tryz.func3 aEQ
  (of_decide_eq_true (by kernel_rfl)) (by unfold Func.isWrapper; first | (rw [if_pos (by decide +kernel)]; kernel_rfl) | (rw [if_neg (by decide +kernel)]; exact ⟨rfl, rfl⟩))
  (fun os started H enc _ => aEO os started H enc)
theorem readprogramReturns_holds : Rows.ReadprogramReturnsCardSaid :=
 Claim7.holds_tied_plain_at .later [] [.data, .data, .data, .data, .handle, .sentinel, .sentinel, .pinned] true (true, "09f4ae2bf580b281503e163b28c5b69519996425a53cca9e7da654f52e271f88") true aER (fun _ h => by cases h) (by kernel_rfl) (fun _ h => by cases h) readprogramReturns_row_tie rfl ⟨rfl, rfl⟩ (by kernel_rfl) rfl
  (fun f fn hf kz => by
   obtain rfl : f = 3 := Option.some.inj ((show Tryz.prog.funcNamed "typedholes/typedholeslaw7.ReadprogramReturns" = some 3 by kernel_rfl).symm.trans hf) |>.symm
   obtain rfl : fn = Tryz.f3 := (Option.some.inj (Tryz.func3.symm.trans kz)).symm
   exact ⟨by kernel_rfl, fun j t ht => by
    rw [Tryz.params3] at ht
    have hm : t ∈ [3, 22, 3] := by simpa using Array.mem_of_getElem? ht
    have hall : ([3, 22, 3].all fun u => !Tryz.prog.wantsStandIn u) = true := by kernel_rfl
    exact (show Tryz.prog.wantsStandIn t = false by simpa using List.all_eq_true.1 hall t hm)⟩)
  (by kernel_rfl)
end Go.Proofs.YtlnjfkfojkgiiaaGreatDoor

/- The statement ProductProofZeroKnowledge: the law answers true whatever its arguments; no condition. -/
import Derived.Test.YtjkggiemnfigbaaZProductProofZeroKnowledgeN
import Derived.Below
import Derived.WalkKit
import Derived.ProofKit
import Derived.OpenShut
import Derived.ChangeOld
import Derived.Test.YtjkggiemnfigbaaRows
import Derived.ShutString
import Derived.SizedLaws
section
namespace Go.Proofs.Ytjkggiemnfigbaa.productProofZeroKnowledge
open Go Go.ChangeShapes Go.WideShapes Go.ChangeAt Go.RowKit Go.Proofs.Ytjkggiemnfigbaa.HL
set_option linter.unusedVariables false
set_option linter.unusedSimpArgs false
theorem own : ownKnob Try.prog.godebug = none := by kernel_rfl
theorem laidOut : laidOutB Try.prog = true := by kernel_rfl
set_option maxRecDepth 100000 in
set_option maxHeartbeats 1000000 in
theorem lifted (os : Os) (started : os.Started) (D : Type) (enc : TypeId × Value → D) :
    ReturnsInHanded {} Try.checked os 6 .any (Rows.productProofZeroKnowledgeSpec.pre6 enc Try.prog Try.f6 Rows.productProofZeroKnowledgeRow.domain false) (Rows.productProofZeroKnowledgeSpec.post enc Try.prog Try.f6 false true false false) := by
  refine returnsInHanded_of_change_sized (C := Try.checked) own started (by kernel_rfl) Try.func6
    (ChangeSpec.witness6 (enc := enc) (C := Try.checked) false ⟨#[], #[(.agg #[(.int .u64 0), (.int .i64 0), (.slice none 0 0), (.slice none 0 0), (.slice none 0 0), (.slice none 0 0), (.int .u64 0), (.int .u64 0)])], []⟩ 8 (by kernel_rfl) (by kernel_rfl) (by kernel_rfl) (by kernel_rfl)) ?_
  intro W base args ds gs before hval0 hW _ _ _
  have hval : ∀ (j : Nat) t v, Try.f6.params[j]? = some t → args[j]? = some v → Value.okWide Try.prog W .any base t v := hval0
  have hW' := hW
  obtain ⟨p, q, hA0, hV, rfl, hfz, hnd⟩ := hW
  have hA : DataW.TrodAll enc Try.prog W 0 (fun _ => true) true Try.f6.params.toList args.toList ds p := hA0
  rw [Try.params6] at hA hval
  obtain ⟨v0, vs0, d0, ds0, p0, q0, hargs, rfl, rfl, h0, r0⟩ := trodAll_cons hA
  obtain ⟨rfl, rfl, rfl⟩ := trodAll_nil r0
  obtain rfl : args = #[v0] := by cases args; simp_all
  obtain ⟨rfl, rfl⟩ := trodVars_none hV
  have k0 := h0
  have lt0 : ∀ x ∈ p0, x.block < W.heap.size := by obtain ⟨m, hm⟩ := k0; exact DataW.trod_lt m _ _ _ hm
  obtain ⟨cs0, rfl, _⟩ := okWide_struct Try.underlying44 (hval 0 44 v0 rfl rfl)
  obtain ⟨fuel0, hf0⟩ := h0
  obtain ⟨x0, hk0, w0⟩ := opnChg D enc W fuel0 _ _ hf0
  obtain ⟨A0_1, c0_1, A0_2, c0_2, A0_3, c0_3, A0_4, c0_4, e0, F0, G0, R0, C0, X0⟩ := chg_of hk0
  obtain ⟨cs0⟩ := cs0
  have e0' : cs0 = _ := e0
  subst e0'
  clear e0
  clear hA0 hval0
  refine (HCall.calls (law_ProductProofZeroKnowledge F0 G0 R0 w0.1.2.1.nn w0.1.2.2.1.nn w0.1.2.2.2.nn w0.1.2.1.1 w0.1.2.2.1.1 w0.1.2.2.2.1 C0 X0 w0.2.1.nn w0.2.1.1 w0.2.2.1.nn w0.2.2.2.nn)).mono ?_
  rintro e W' ⟨rfl, bel⟩
  exact ⟨_, rfl, _, _, _, [], _, [], hW', trodAll_mk1 (shut_bool Try.underlying4 _), (trodAll_cons_mk (Below.trod laidOut (by kernel_rfl) (of_decide_eq_true (by kernel_rfl)) k0 bel lt0) trodAll_mk0), rfl, bel.frame _, fun h => by cases h⟩
theorem over : Rows.productProofZeroKnowledgeRow.holds Try.pinned (OpenSpec.ofChange Rows.productProofZeroKnowledgeSpec) :=
  OpenClaim.holds_of_wide 6 Try.f6 rfl rfl rfl rfl rfl rfl rfl ⟨rfl, rfl, rfl, rfl, rfl⟩ rfl rfl rfl rfl rfl (by kernel_rfl) Try.func6 (by kernel_rfl)
    (of_decide_eq_true (by kernel_rfl)) (by unfold Func.isWrapper; first | (rw [if_pos (by decide +kernel)]; kernel_rfl) | (rw [if_neg (by decide +kernel)]; exact ⟨rfl, rfl⟩))
    (fun os started H enc _ => lifted os started H enc)
theorem proved : Rows.ProductProofZeroKnowledgeSaid := over
#print axioms proved
end Go.Proofs.Ytjkggiemnfigbaa.productProofZeroKnowledge
namespace Go.Proofs.Ytjkggiemnfigbaa
/-- The statement, under a short name, for the claim. -/
theorem productProofZeroKnowledge_holds : Rows.ProductProofZeroKnowledgeSaid := productProofZeroKnowledge.proved
end Go.Proofs.Ytjkggiemnfigbaa
end

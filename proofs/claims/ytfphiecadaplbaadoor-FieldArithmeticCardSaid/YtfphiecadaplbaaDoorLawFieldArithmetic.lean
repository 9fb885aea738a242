-- Written by this session's program (wip/mkprint.py, wip/prx.sh) over the seat's translation. Lean checks it.
import Derived.Test.YtfphiecadaplbaaDoorPureFieldArithmetic
import Derived.Test.YtfphiecadaplbaaDoorRows
import Derived.Test.YtfphiecadaplbaaDoorLaid
import Derived.Test.YtfphiecadaplbaaDoorCards
import Derived.Test.YtfphiecadaplbaaDoorTie
import Derived.SevenTiedAt
import Derived.WalkKit
import Derived.ProofKit
import Derived.OpenShut
import Derived.ShutString
import Derived.ChangeOld
import Derived.Below
import Derived.SizedLaws
namespace Go.Proofs.YtfphiecadaplbaaDoor.fieldArithmetic
open Go.ChangeShapes Go.WideShapes Go.ChangeAt Go.RowKit Go.Proofs.YtfphiecadaplbaaDoorW.PrintWords Go.Proofs.YtfphiecadaplbaaDoorOpen Go.Proofs.YtfphiecadaplbaaDoor.PA
open Go.ChangeMaps (open_string shut_string)
set_option linter.unusedVariables false
set_option linter.unusedSimpArgs false
theorem laidOut : laidOutB Tryd.prog = true := by kernel_rfl
set_option maxRecDepth 100000 in
set_option maxHeartbeats 1000000 in
theorem lifted (os : Os) (started : os.Started) (H : Type) (enc : TypeId × Value → H) :
    ReturnsInHanded {} Tryd.checked os 9 .any (fun w args => (Rows.fieldArithmeticSpec.pre enc Tryd.prog Tryd.f9 [] false w args ∧ laidMetH Tryd.prog [("privity/field.exps", Rows.laid_privity_field_exps)] w) ∧ sizedMet enc Tryd.prog Tryd.f9 (OpenSpec.ofChange Rows.fieldArithmeticSpec) false w args) (Rows.fieldArithmeticSpec.post enc Tryd.prog Tryd.f9 false true false false) := by
  refine returnsInHanded_of_change_and (C := Tryd.checked) (X := fun w _ => laidMetH Tryd.prog [("privity/field.exps", Rows.laid_privity_field_exps)] w) (fun _ _ _ hh h => h.of_heap hh) Laid.own started (by kernel_rfl) Tryd.func9
    (ChangeSpec.witness_shaped (enc := enc) (C := Tryd.checked) (os := os) (X := fun w _ => laidMetH Tryd.prog [("privity/field.exps", Rows.laid_privity_field_exps)] w) false (World.doorLaid Tryd.prog 400 os) #[(.agg #[(.int .u64 0), (.int .u64 0), (.int .u64 0), (.int .u64 0)])] 8 rfl (World.shaped_of_RefB (by kernel_rfl) (by kernel_rfl)) (by kernel_rfl) (by kernel_rfl) (by kernel_rfl) (Laid.door_met os _)) ?_
  intro W base args ds gs before hval0 hW _ _ hL _
  have hG : Gl W := Laid.of_laid hL
  clear hL
  have hval : ∀ (j : Nat) t v, Tryd.f9.params[j]? = some t → args[j]? = some v → Value.okWide Tryd.prog W .any base t v := hval0
  have hW' := hW
  obtain ⟨p, q, hA0, hV, rfl, hfz, hnd⟩ := hW
  have hA : DataW.TrodAll enc Tryd.prog W 0 (fun _ => true) true Tryd.f9.params.toList args.toList ds p := hA0
  rw [Tryd.params9] at hA hval
  obtain ⟨v0, vs0, d0, ds0, p0, q0, hargs, rfl, rfl, h0, r0⟩ := trodAll_cons hA
  obtain ⟨rfl, rfl, rfl⟩ := trodAll_nil r0
  obtain rfl : args = #[v0] := by cases args; simp_all
  obtain ⟨rfl, rfl⟩ := trodVars_none hV
  have k0 := h0
  have lt0 : ∀ x ∈ p0, x.block < W.heap.size := by obtain ⟨m, hm⟩ := k0; exact DataW.trod_lt m _ _ _ hm
  obtain ⟨cs0, rfl, _⟩ := okWide_struct Tryd.underlying27 (hval 0 27 v0 rfl rfl)
  obtain ⟨x0, hk0, w0⟩ : ∃ x, k27.K W x (Value.agg cs0).cells.toList ∧ (fun x : S27 => (fun n : Int => (Lit.int .u64 n).wf = true) x.f0 ∧ (fun n : Int => (Lit.int .u64 n).wf = true) x.f1 ∧ (fun n : Int => (Lit.int .u64 n).wf = true) x.f2 ∧ (fun n : Int => (Lit.int .u64 n).wf = true) x.f3) x := by
    obtain ⟨fuel, hf⟩ := h0
    exact opn27 H enc W fuel _ _ hf
  have e0 := k27_open hk0
  obtain ⟨cs0⟩ := cs0
  have e0' : cs0 = _ := e0
  subst e0'
  clear e0
  clear hA0 hval0
  obtain ⟨k, h⟩ := Pure.proved x0 w0
  refine (privitylaw01_FieldArithmetic.calls k x0.f0 x0.f1 x0.f2 x0.f3 true W hG  h).mono ?_
  rintro e W' ⟨rfl, bel⟩
  exact ⟨_, rfl, _, _, _, [], _, [], hW', trodAll_mk1 (shut_bool Tryd.underlying4 _), (trodAll_cons_mk (Below.trod laidOut (by kernel_rfl) (of_decide_eq_true (by kernel_rfl)) k0 bel lt0) trodAll_mk0), rfl, bel.frame _, fun h => by cases h⟩
theorem over : Rows.fieldArithmeticRow.holds Tryd.pinned (OpenSpec.ofChange Rows.fieldArithmeticSpec) :=
  OpenClaim.holds_of_wide 9 Tryd.f9 rfl rfl rfl rfl rfl rfl rfl ⟨rfl, rfl, rfl, rfl, rfl⟩ rfl rfl rfl rfl rfl (by kernel_rfl) Tryd.func9 (by kernel_rfl)
    (of_decide_eq_true (by kernel_rfl)) (by unfold Func.isWrapper; first | (rw [if_pos (by decide +kernel)]; kernel_rfl) | (rw [if_neg (by decide +kernel)]; exact ⟨rfl, rfl⟩))
    (fun os started H enc _ => lifted os started H enc)
theorem proved : Rows.FieldArithmeticSaid := over
theorem card : Rows.FieldArithmeticCardSaid :=
  Claim7.holds_tied_plain_at .later [] [.data] true (true, "0c19a3152500ff0da6886cf034b625609d174ccc5de7949eee7415f269ca2567") false
    proved (fun _ h => by cases h) (by kernel_rfl) (fun _ h => by cases h) fieldArithmetic_row_tie rfl ⟨rfl, rfl⟩ (by kernel_rfl) rfl
    (fun f fn hf hfn => by
      obtain rfl : f = 9 := Option.some.inj ((show Tryd.prog.funcNamed "privity/privitylaw01.FieldArithmetic" = some 9 by kernel_rfl).symm.trans hf) |>.symm
      obtain rfl : fn = Tryd.f9 := (Option.some.inj (Tryd.func9.symm.trans hfn)).symm
      exact ⟨by kernel_rfl, fun j t ht => by
        rw [Tryd.params9] at ht
        have hm : t ∈ [27] := by simpa using Array.mem_of_getElem? ht
        have hall : ([27].all fun u => !Tryd.prog.wantsStandIn u) = true := by kernel_rfl
        exact (show Tryd.prog.wantsStandIn t = false by simpa using List.all_eq_true.1 hall t hm)⟩)
    (by kernel_rfl)
#print axioms card
end Go.Proofs.YtfphiecadaplbaaDoor.fieldArithmetic
namespace Go.Proofs.YtfphiecadaplbaaDoor
/-- The statement, under a short name, for the claim. -/
theorem fieldArithmetic_holds : Rows.FieldArithmeticCardSaid := fieldArithmetic.card
end Go.Proofs.YtfphiecadaplbaaDoor

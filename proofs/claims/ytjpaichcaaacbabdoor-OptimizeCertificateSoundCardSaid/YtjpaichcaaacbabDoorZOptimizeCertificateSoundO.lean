/- The statement OptimizeCertificateSound: the law answers true whatever its arguments; no condition. -/
import Derived.Test.YtjpaichcaaacbabDoorZOptimizeCertificateSoundN
import Derived.Below
import Derived.WalkKit
import Derived.ProofKit
import Derived.OpenShut
import Derived.ChangeOld
import Derived.Test.YtjpaichcaaacbabDoorRows
import Derived.Test.YtjpaichcaaacbabDoorCards
import Derived.Test.YtjpaichcaaacbabDoorTie
import Derived.SevenTiedAt
import Derived.ShutString
import Derived.SizedLaws
section
namespace Go.Proofs.YtjpaichcaaacbabDoor.optimizeCertificateSound
open Go Go.ChangeShapes Go.WideShapes Go.ChangeAt Go.RowKit Go.Proofs.YtjpaichcaaacbabDoor.HL
set_option linter.unusedVariables false
set_option linter.unusedSimpArgs false
theorem laidOut : laidOutB Tryd.prog = true := by kernel_rfl
set_option maxRecDepth 100000 in
set_option maxHeartbeats 1000000 in
theorem lifted (os : Os) (started : os.Started) (D : Type) (enc : TypeId × Value → D) :
    ReturnsInHanded {} Tryd.checked os 5 .any (fun w args => (Rows.optimizeCertificateSoundSpec.pre enc Tryd.prog Tryd.f5 [] false w args ∧ laidMetH Tryd.prog laidL w) ∧ sizedMet enc Tryd.prog Tryd.f5 (OpenSpec.ofChange Rows.optimizeCertificateSoundSpec) false w args) (Rows.optimizeCertificateSoundSpec.post enc Tryd.prog Tryd.f5 false true false false) := by
  refine returnsInHanded_of_change_and (C := Tryd.checked) (X := fun w _ => laidMetH Tryd.prog laidL w) (fun _ _ _ hh h => h.of_heap hh) ownG started (by kernel_rfl) Tryd.func5
    (ChangeSpec.witness_shaped (enc := enc) (C := Tryd.checked) (os := os) (X := fun w _ => laidMetH Tryd.prog laidL w) false (World.doorLaid Tryd.prog 400 os) #[(.agg #[(.int .u64 0), (.slice none 0 0), (.slice none 0 0), (.int .u64 0), (.slice none 0 0), (.slice none 0 0), (.slice none 0 0), (.slice none 0 0)])] 8 rfl (World.shaped_of_RefB (by kernel_rfl) (by kernel_rfl)) (by kernel_rfl) (by kernel_rfl) (by kernel_rfl) (door_met3 os _)) ?_
  intro W base args ds gs before hval0 hW _ _ hL _
  have hG : Gl (hp W) := of_laid3 hL
  have hT : GT (hp W) := of_funcs hL
  clear hL
  have hval : ∀ (j : Nat) t v, Tryd.f5.params[j]? = some t → args[j]? = some v → Value.okWide Tryd.prog W .any base t v := hval0
  have hW' := hW
  obtain ⟨p, q, hA0, hV, rfl, hfz, hnd⟩ := hW
  have hA : DataW.TrodAll enc Tryd.prog W 0 (fun _ => true) true Tryd.f5.params.toList args.toList ds p := hA0
  rw [Tryd.params5] at hA hval
  obtain ⟨v0, vs0, d0, ds0, p0, q0, hargs, rfl, rfl, h0, r0⟩ := trodAll_cons hA
  obtain ⟨rfl, rfl, rfl⟩ := trodAll_nil r0
  obtain rfl : args = #[v0] := by cases args; simp_all
  obtain ⟨rfl, rfl⟩ := trodVars_none hV
  have k0 := h0
  have lt0 : ∀ x ∈ p0, x.block < W.heap.size := by obtain ⟨m, hm⟩ := k0; exact DataW.trod_lt m _ _ _ hm
  obtain ⟨cs0, rfl, _⟩ := okWide_struct Tryd.underlying46 (hval 0 46 v0 rfl rfl)
  obtain ⟨fuel0, hf0⟩ := h0
  obtain ⟨x0, hk0, w0⟩ := opnCase D enc W fuel0 _ _ hf0
  obtain ⟨A0_1, c0_1, A0_2, c0_2, B0_1, d0_1, B0_2, d0_2, T0_, t0_, I0_, i0_, e0, F0, C0, G0, Fb0, Cb0, Gb0, Tb0, M0⟩ := case_of hk0
  obtain ⟨cs0⟩ := cs0
  have e0' : cs0 = _ := e0
  subst e0'
  clear e0
  clear hA0 hval0
  refine (HCall.calls (law_OptimizeCertificateSound hG hT F0 C0 G0 w0.1.2.nn Fb0 Cb0 Gb0 w0.2.1.2.nn Tb0 M0 w0.2.2.2.nn)).mono ?_
  rintro e W' ⟨rfl, bel⟩
  exact ⟨_, rfl, _, _, _, [], _, [], hW', trodAll_mk1 (shut_bool Tryd.underlying4 _), (trodAll_cons_mk (Below.trod laidOut (by kernel_rfl) (of_decide_eq_true (by kernel_rfl)) k0 bel lt0) trodAll_mk0), rfl, bel.frame _, fun h => by cases h⟩
theorem over : Rows.optimizeCertificateSoundRow.holds Tryd.pinned (OpenSpec.ofChange Rows.optimizeCertificateSoundSpec) :=
  OpenClaim.holds_of_wide 5 Tryd.f5 rfl rfl rfl rfl rfl rfl rfl ⟨rfl, rfl, rfl, rfl, rfl⟩ rfl rfl rfl rfl rfl (by kernel_rfl) Tryd.func5 (by kernel_rfl)
    (of_decide_eq_true (by kernel_rfl)) (by unfold Func.isWrapper; first | (rw [if_pos (by decide +kernel)]; kernel_rfl) | (rw [if_neg (by decide +kernel)]; exact ⟨rfl, rfl⟩))
    (fun os started H enc _ => lifted os started H enc)
theorem proved : Rows.OptimizeCertificateSoundSaid := over
theorem card : Rows.OptimizeCertificateSoundCardSaid :=
  Claim7.holds_tied_plain_at .later [] [.data, .data, .funcs] true (true, "04b8a9f2f52751b34b368de9fa0b65d7d4a8620c725f6d4a1d4123bb096f63b6") false
    proved (fun _ h => by cases h) (by kernel_rfl) (fun _ h => by cases h) optimizeCertificateSound_row_tie rfl ⟨rfl, rfl⟩ (by kernel_rfl) rfl
    (fun f fn hf hfn => by
      obtain rfl : f = 5 := Option.some.inj ((show Tryd.prog.funcNamed "privity/privitylaw36.OptimizeCertificateSound" = some 5 by kernel_rfl).symm.trans hf) |>.symm
      obtain rfl : fn = Tryd.f5 := (Option.some.inj (Tryd.func5.symm.trans hfn)).symm
      exact ⟨by kernel_rfl, fun j t ht => by
        rw [Tryd.params5] at ht
        have hm : t ∈ [46] := by simpa using Array.mem_of_getElem? ht
        have hall : ([46].all fun u => !Tryd.prog.wantsStandIn u) = true := by kernel_rfl
        exact (show Tryd.prog.wantsStandIn t = false by simpa using List.all_eq_true.1 hall t hm)⟩)
    (by kernel_rfl)
#print axioms card
end Go.Proofs.YtjpaichcaaacbabDoor.optimizeCertificateSound
namespace Go.Proofs.YtjpaichcaaacbabDoor
/-- The statement, under a short name, for the claim. -/
theorem optimizeCertificateSound_holds : Rows.OptimizeCertificateSoundCardSaid := optimizeCertificateSound.card
end Go.Proofs.YtjpaichcaaacbabDoor
end

/- Supported and Exponent return the values of the reference implementation for every number. -/
import Derived.Test.YtfphiecadaplbaaDoorSFieldSupported
import Derived.Test.YtfphiecadaplbaaDoorFLaw
namespace Go.Proofs.YtfphiecadaplbaaDoor.fieldSupported
open Go.RowKit Go.Proofs.YtfphiecadaplbaaDoorW.PrintWords Go.Proofs.YtfphiecadaplbaaDoorW.PrintMore Go.Proofs.YtfphiecadaplbaaDoor.PA Go.Proofs.YtfphiecadaplbaaDoorNum Go.Proofs.YtfphiecadaplbaaDoor.FEv
theorem Pure.proved : Pure := by
  intro a0 h0
  apply Ev.rounds
  unfold privitylaw01_FieldSupported.f
  refine Ev.bind awake_ev (Ev.pos rfl ?_)
  have he : field_Exponent.f a0 = some (field_Exponent.m 7 0 a0) := rfl
  have hs : field_Supported.f a0 = some (field_Exponent.m 7 0 a0 != 0) := rfl
  rw [hs, he]
  simp only [Option.bind_some]
  have hv : field_Exponent.m 7 0 a0 = 0 ∨ 0 < field_Exponent.m 7 0 a0 := by
    simp only [field_Exponent.m, field_Exponent.p, field_Exponent.q]
    repeat' split
    all_goals omega
  refine Ev.bind (Ev.bind (ref_exponent_ev a0) (Ev.now _)) (Ev.pos ?_ (Ev.bind (ref_exponent_ev a0) (Ev.eq (by simp))))
  rcases hv with h | h
  · rw [h]; rfl
  · have e1 : (field_Exponent.m 7 0 a0 != 0) = true := by simp; omega
    have e2 : decide (field_Exponent.m 7 0 a0 > 0) = true := by simpa using h
    rw [e1, e2]
    rfl
end Go.Proofs.YtfphiecadaplbaaDoor.fieldSupported

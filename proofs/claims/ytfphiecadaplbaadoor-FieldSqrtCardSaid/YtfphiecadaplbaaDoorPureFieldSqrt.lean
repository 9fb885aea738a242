/- Sqrt returns the value or the error of the reference, and a returned root has the given square and is at most (p - 1) / 2, for every prime and element that the law selects. -/
import Derived.Test.YtfphiecadaplbaaDoorSFieldSqrt
import Derived.Test.YtfphiecadaplbaaDoorFLaw
namespace Go.Proofs.YtfphiecadaplbaaDoor.fieldSqrt
open Go.RowKit Go.Proofs.YtfphiecadaplbaaDoorW.PrintWords Go.Proofs.YtfphiecadaplbaaDoorW.PrintMore Go.Proofs.YtfphiecadaplbaaDoor.PA Go.Proofs.YtfphiecadaplbaaDoorNum Go.Proofs.YtfphiecadaplbaaDoor.FEv
/-- The reference's product, by doubling. -/
theorem Pure.proved : Pure := by
  intro ⟨x0, x1, x2, x3⟩ ⟨h0, h1, h2, h3⟩
  apply Ev.rounds
  obtain ⟨p, hz, hp, e⟩ := fit_ex x0 x1 x2 x3 h0 h1 h2 h3
  have hl := hp.le
  unfold privitylaw01_FieldSqrt.f
  dsimp only
  rw [e]
  simp only [Option.bind_some]
  generalize (E x1 : Fin p) = a
  by_cases h : rt a * rt a = a
  · refine Ev.bind (sqrt_ev hp a h) (Ev.bind (ref_sqrt_ev hp a h) (Ev.bind awake_ev (Ev.pos rfl ?_)))
    refine Ev.pos rfl (Ev.pos rfl (Ev.pos rfl ?_))
    obtain ⟨r, hr, hrr, hle⟩ := lesser_is hp (rt a)
    dsimp only
    rw [hr]
    refine Ev.bind (mul_ev hp r r) (Ev.pos (V_inj.2 (hrr.trans h)) (Ev.eq ?_))
    simpa using hle
  · exact Ev.bind (sqrt_no hp a h) (Ev.bind (ref_sqrt_no hp a h) (Ev.bind awake_ev (Ev.pos rfl (Ev.pos rfl (Ev.pos rfl (Ev.neg (by decide) (Ev.now _)))))))
end Go.Proofs.YtfphiecadaplbaaDoor.fieldSqrt

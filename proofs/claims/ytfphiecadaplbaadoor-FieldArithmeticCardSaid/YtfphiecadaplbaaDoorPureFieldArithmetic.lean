/- Reduce, Add, Sub, Neg, Mul and Pow return the values of the reference implementation, for every prime and all elements that the law selects. -/
import Derived.Test.YtfphiecadaplbaaDoorSFieldArithmetic
import Derived.Test.YtfphiecadaplbaaDoorFLaw
namespace Go.Proofs.YtfphiecadaplbaaDoor.fieldArithmetic
open Go.RowKit Go.Proofs.YtfphiecadaplbaaDoorW.PrintWords Go.Proofs.YtfphiecadaplbaaDoorW.PrintMore Go.Proofs.YtfphiecadaplbaaDoor.PA Go.Proofs.YtfphiecadaplbaaDoorNum Go.Proofs.YtfphiecadaplbaaDoor.FEv
theorem Pure.proved : Pure := by
  intro ⟨x0, x1, x2, x3⟩ ⟨h0, h1, h2, h3⟩
  apply Ev.rounds
  obtain ⟨p, hz, hp, e⟩ := fit_ex x0 x1 x2 x3 h0 h1 h2 h3
  have hl := hp.le
  obtain ⟨c0, c1⟩ := wf_u64 (n := x3) h3
  unfold privitylaw01_FieldArithmetic.f
  dsimp only
  rw [e]
  simp only [Option.bind_some]
  generalize (E x1 : Fin p) = a
  generalize (E x2 : Fin p) = b
  refine Ev.bind (reduce_ev hp x3 c0 c1) (Ev.neg (by omega) (Ev.pos (tmod_V c0).symm ?_))
  refine Ev.bind (add_ev hp a b) (Ev.bind (ref_add_ev hp a b) (Ev.pos rfl ?_))
  refine Ev.bind (sub_ev hp a b) (Ev.bind (ref_sub_ev hp a b) (Ev.pos rfl ?_))
  refine Ev.bind (neg_ev hp a) (Ev.bind (ref_neg_ev hp a) ?_)
  have e1 : (V (-a) != V (-a)) = false := by simp
  rw [e1]
  refine Ev.step (fun k => by rw [privitylaw01_FieldArithmetic.j0, if_neg (by decide)]) (Ev.bind awake_ev (Ev.pos rfl ?_))
  refine Ev.bind (mul_ev hp a b) (Ev.bind (ref_mul_ev hp a b) (Ev.pos rfl ?_))
  exact Ev.bind (pow_evI hp a x3 c0 c1) (Ev.bind (ref_pow_evI hp a x3 c0 c1) (Ev.eq (by simp)))
end Go.Proofs.YtfphiecadaplbaaDoor.fieldArithmetic

/- Eval, Add, Sub, Scale and Mul return the values of the reference implementation. -/
import Derived.Test.YtjkggiemnfigbabSPolyArithmetic
import Derived.Test.YtjkggiemnfigbabFPRef
namespace Go.Proofs.Ytjkggiemnfigbab.polyArithmetic
open Go.RowKit Go.Proofs.YtjkggiemnfigbabW.PrintWords Go.Proofs.YtjkggiemnfigbabW.PrintMore Go.Proofs.Ytjkggiemnfigbab.PF Go.Proofs.Ytjkggiemnfigbab.PQ Go.Proofs.Ytjkggiemnfigbab.PC Go.Proofs.Ytjkggiemnfigbab.PTA Go.Proofs.YtjkggiemnfigbabNum Go.Proofs.Ytjkggiemnfigbab.FEv Go.Proofs.Ytjkggiemnfigbab.FPoly
theorem Pure.proved : Pure := by
  intro ⟨x0, l1, l2, l3, x4, x5⟩ ⟨h0, ⟨_, h1⟩, ⟨_, h2⟩, ⟨_, h3⟩, h4, h5⟩
  apply Ev.rounds
  obtain ⟨q, hz, a, b, c, hq, ha, hb, _, e⟩ := fit_ex x0 x4 x5 l1 l2 l3 h0 h1 h2 h3
  have hl := hq.le
  unfold privitylaw04_PolyArithmetic.f
  refine Ev.bind e (Ev.neg (by dsimp only; omega) ?_)
  dsimp only
  rw [tmod_V (p := q) (wf_u64 h4).1, tmod_V (p := q) (wf_u64 h5).1]
  generalize (E x4 : Fin q) = x
  generalize (E x5 : Fin q) = s
  refine Ev.bind awake_ev (Ev.pos rfl ?_)
  refine Ev.bind (eval_ev hq a x (by omega)) (Ev.bind (ref_eval_ev hq a x (by omega)) (Ev.pos rfl ?_))
  have l4 := padd_len a b
  have l5 := psub_len a b
  have l6 := pscale_len s a
  have l7 := pmul_len a b
  refine Ev.bind (add_evP hq a b (by omega) (by omega)) (Ev.bind (ref_add_evP hq a b (by omega) (by omega)) (Ev.bind (eqV_ev (by omega) rfl) (Ev.pos rfl ?_)))
  refine Ev.bind (sub_evP hq a b (by omega) (by omega)) (Ev.bind (ref_sub_evP hq a b (by omega) (by omega)) (Ev.bind (eqV_ev (by omega) rfl) (Ev.pos rfl ?_)))
  refine Ev.bind (scale_ev hq s a (by omega)) (Ev.bind (ref_scale_ev hq s a (by omega)) (Ev.bind (eqV_ev (by omega) rfl) (Ev.pos rfl ?_)))
  exact Ev.bind (mul_evP hq a b (by omega) (by omega)) (Ev.bind (ref_mul_evP hq a b (by omega) (by omega)) (Ev.bind (eqV_ev (by omega) rfl) (Ev.now _)))
end Go.Proofs.Ytjkggiemnfigbab.polyArithmetic

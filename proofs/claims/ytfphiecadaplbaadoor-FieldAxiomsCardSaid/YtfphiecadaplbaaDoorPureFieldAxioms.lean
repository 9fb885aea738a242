/- The elements satisfy the field axioms, for every prime and all elements that the law selects, whatever the argument. -/
import Derived.Test.YtfphiecadaplbaaDoorSFieldAxioms
import Derived.Test.YtfphiecadaplbaaDoorFLaw
namespace Go.Proofs.YtfphiecadaplbaaDoor.fieldAxioms
open Go.RowKit Go.Proofs.YtfphiecadaplbaaDoorW.PrintWords Go.Proofs.YtfphiecadaplbaaDoorW.PrintMore Go.Proofs.YtfphiecadaplbaaDoor.PA Go.Proofs.YtfphiecadaplbaaDoorNum Go.Proofs.YtfphiecadaplbaaDoor.FEv
theorem Pure.proved : Pure := by
  intro ⟨x0, x1, x2, x3⟩ ⟨h0, h1, h2, h3⟩
  apply Ev.rounds
  obtain ⟨p, hz, hp, e⟩ := fit_ex x0 x1 x2 x3 h0 h1 h2 h3
  unfold privitylaw01_FieldAxioms.f
  dsimp only
  rw [e]
  simp only [Option.bind_some]
  generalize (E x1 : Fin p) = a
  generalize (E x2 : Fin p) = b
  generalize (E x3 : Fin p) = c
  refine Ev.bind (add_ev hp a b) (Ev.bind (add_ev hp _ c) (Ev.bind (add_ev hp b c) (Ev.bind (add_ev hp a _) (Ev.pos (V_inj.2 (by grind)) ?_))))
  refine Ev.bind (add_ev hp a b) (Ev.bind (add_ev hp b a) (Ev.pos (V_inj.2 (by grind)) ?_))
  refine Ev.bind (Ev.to (add_ev hp a 0) (V_inj.2 (show a + 0 = a by grind))) (Ev.pos rfl ?_)
  refine Ev.bind (neg_ev hp a) (Ev.bind (Ev.to (add_ev hp a (-a)) (V_inj.2 (show a + -a = 0 by grind))) (Ev.pos V_zero ?_))
  refine Ev.bind (sub_ev hp a b) (Ev.bind (neg_ev hp b) (Ev.bind (Ev.to (add_ev hp a (-b)) (V_inj.2 (show a + -b = a - b by grind))) ?_))
  have e1 : (V (a - b) == V (a - b)) = true := by simp
  rw [e1]
  refine Ev.step (fun k => by rw [privitylaw01_FieldAxioms.j0]) ?_
  refine Ev.bind (mul_ev hp a b) (Ev.bind (mul_ev hp _ c) (Ev.bind (mul_ev hp b c) (Ev.bind (mul_ev hp a _) (Ev.pos (V_inj.2 (by grind)) ?_))))
  refine Ev.bind (mul_ev hp a b) (Ev.bind (mul_ev hp b a) (Ev.pos (V_inj.2 (by grind)) ?_))
  have hone := mul_ev hp a 1
  rw [V_one hp] at hone
  refine Ev.bind (Ev.to hone (V_inj.2 (show a * 1 = a by grind))) (Ev.pos rfl ?_)
  refine Ev.bind (add_ev hp b c) (Ev.bind (mul_ev hp a _) (Ev.bind (mul_ev hp a b) (Ev.bind (mul_ev hp a c) (Ev.bind (Ev.to (add_ev hp _ _) (V_inj.2 (show a * b + a * c = a * (b + c) by grind))) ?_))))
  have e2 : (V (a * (b + c)) == V (a * (b + c))) = true := by simp
  rw [e2]
  refine Ev.step (fun k => by rw [privitylaw01_FieldAxioms.j1]) ?_
  by_cases h : a = 0
  · refine Ev.bind (inverse_zero a h) (Ev.pos (V_eq_zero.2 h) (Ev.bind awake_ev (Ev.pos rfl (Ev.pos rfl (Ev.pos rfl (Ev.pos rfl (Ev.now _)))))))
  · refine Ev.bind (inverse_ev hp h) (Ev.neg (fun e => h (V_eq_zero.1 e)) (Ev.bind awake_ev (Ev.pos rfl (Ev.pos rfl (Ev.pos rfl (Ev.pos rfl (Ev.pos (V_lt _) (Ev.bind (mul_ev hp a (inv a)) (Ev.eq ?_)))))))))
    rw [mul_inv hp.pr h, V_one hp]
    rfl
end Go.Proofs.YtfphiecadaplbaaDoor.fieldAxioms

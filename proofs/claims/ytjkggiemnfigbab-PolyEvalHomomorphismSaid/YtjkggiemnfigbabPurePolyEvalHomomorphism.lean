/- The value of a sum or a product is the sum or product of the values; the rest of a division by x - c is the value at c. -/
import Derived.Test.YtjkggiemnfigbabSPolyEvalHomomorphism
import Derived.Test.YtjkggiemnfigbabFPC
namespace Go.Proofs.Ytjkggiemnfigbab.polyEvalHomomorphism
open Go.RowKit Go.Proofs.YtjkggiemnfigbabW.PrintWords Go.Proofs.YtjkggiemnfigbabW.PrintMore Go.Proofs.Ytjkggiemnfigbab.PF Go.Proofs.Ytjkggiemnfigbab.PQ Go.Proofs.Ytjkggiemnfigbab.PC Go.Proofs.Ytjkggiemnfigbab.PTH Go.Proofs.YtjkggiemnfigbabNum Go.Proofs.Ytjkggiemnfigbab.FEv Go.Proofs.Ytjkggiemnfigbab.FPoly
theorem Pure.proved : Pure := by
  intro ⟨x0, l1, l2, l3, x4, x5⟩ ⟨h0, ⟨_, h1⟩, ⟨_, h2⟩, ⟨_, h3⟩, h4, _⟩
  apply Ev.rounds
  obtain ⟨q, hz, a, b, c, hq, ha, hb, _, e⟩ := fit_ex x0 x4 x5 l1 l2 l3 h0 h1 h2 h3
  have hl := hq.le
  have c0 := (wf_u64 h4).1
  unfold privitylaw04_PolyEvalHomomorphism.f
  refine Ev.bind e (Ev.neg (by dsimp only; omega) ?_)
  dsimp only
  rw [tmod_V (p := q) c0]
  generalize (E x4 : Fin q) = x
  have ht := tr_lin hq (-x)
  obtain ⟨Q, R, hD, hE⟩ := divmod_ev hq a [-x, 1] (by omega) (by simp) (by rw [ptrim_of ht]; simp)
  rw [ptrim_of ht] at hD
  have hR : R.length ≤ 1 := by have := hD.less; simp only [List.length_cons, List.length_nil] at this; omega
  have hv : peval a x = cf R 0 := by
    rw [isDiv_peval hD x, peval_lin, peval_const hR]
    grind
  rw [neg_mod hq, show ([V (-x), 1] : List Int) = [-x, (1 : Fin q)].map V by simp [V_one hq]]
  refine Ev.bind (eval_ev hq a x (by omega)) (Ev.bind (eval_ev hq b x (by omega)) (Ev.bind hE (Ev.bind awake_ev (Ev.pos rfl ?_))))
  have l4 := padd_len a b
  have l5 := pmul_len a b
  refine Ev.bind (add_evP hq a b (by omega) (by omega)) (Ev.bind (eval_ev hq _ x (by omega)) (Ev.bind (ref_add_ev hq _ _) (Ev.pos (by rw [V_inj, peval_padd]) ?_)))
  refine Ev.bind (mul_evP hq a b (by omega) (by omega)) (Ev.bind (eval_ev hq _ x (by omega)) (Ev.bind (ref_mul_ev hq _ _) (Ev.pos (by rw [V_inj, peval_pmul]) ?_)))
  refine Ev.pos rfl (Ev.pos (by rw [len_map]; omega) ?_)
  have hc := coefficient_ev R 0
  rw [if_neg (by omega)] at hc
  rw [hc]
  exact Ev.eq (by rw [hv]; simp)
end Go.Proofs.Ytjkggiemnfigbab.polyEvalHomomorphism

/- Polynomials form a commutative ring; the degree of a product of nonzero polynomials is the sum of their degrees. -/
import Derived.Test.YtjkggiemnfigbabSPolyRing
import Derived.Test.YtjkggiemnfigbabFPRef
namespace Go.Proofs.Ytjkggiemnfigbab.polyRing
open Go.RowKit Go.Proofs.YtjkggiemnfigbabW.PrintWords Go.Proofs.YtjkggiemnfigbabW.PrintMore Go.Proofs.Ytjkggiemnfigbab.PF Go.Proofs.Ytjkggiemnfigbab.PQ Go.Proofs.Ytjkggiemnfigbab.PC Go.Proofs.Ytjkggiemnfigbab.PTR Go.Proofs.YtjkggiemnfigbabNum Go.Proofs.Ytjkggiemnfigbab.FEv Go.Proofs.Ytjkggiemnfigbab.FPoly
theorem pmul_ptrim {q : Nat} [NeZero q] (a b : List (Fin q)) : pmul (ptrim a) (ptrim b) = pmul a b :=
  (tr_pmul _ _).eq (tr_pmul _ _) (fun i => by rw [cf_pmul, cf_pmul]; exact conv_congr (fun j _ => cf_ptrim a j) (fun j _ => cf_ptrim b j))
set_option maxHeartbeats 4000000 in
theorem rest {q : Nat} [NeZero q] (hq : Sup q) (a b c : List (Fin q)) (ha : a.length ≤ 12) (hb : b.length ≤ 12) (hc : c.length ≤ 12) : Ev (fun k => privitylaw04_PolyRing.j0 k q (a.map V) (b.map V) (c.map V) false) true := by
  refine Ev.step (fun k => by rw [privitylaw04_PolyRing.j0, if_neg (by decide)]) ?_
  refine Ev.bind awake_ev (Ev.pos rfl ?_)
  have l1 := padd_len a b
  have l2 := padd_len b c
  have l3 := pmul_len a b
  have l4 := pmul_len b c
  have l5 := pmul_len a c
  have l6 := psub_len a b
  have l7 := pmul_len a (padd b c)
  have l8 := padd_len (psub a b) b
  have l9 := pmul_len (pmul a b) c
  have l10 := padd_len (padd a b) c
  refine Ev.bind (add_evP hq a b (by omega) (by omega)) (Ev.bind (add_evP hq _ c (by omega) (by omega)) (Ev.bind (add_evP hq b c (by omega) (by omega)) (Ev.bind (add_evP hq a _ (by omega) (by omega)) (Ev.bind (eqV_ev (by omega) (padd_assoc a b c)) (Ev.pos rfl ?_)))))
  refine Ev.bind (mul_evP hq a b (by omega) (by omega)) (Ev.bind (mul_evP hq b a (by omega) (by omega)) (Ev.bind (eqV_ev (by omega) (pmul_comm a b)) (Ev.pos rfl ?_)))
  refine Ev.bind (mul_evP hq a b (by omega) (by omega)) (Ev.bind (mul_evP hq _ c (by omega) (by omega)) (Ev.bind (mul_evP hq b c (by omega) (by omega)) (Ev.bind (mul_evP hq a _ (by omega) (by omega)) (Ev.bind (eqV_ev (by omega) (pmul_assoc a b c)) (Ev.pos rfl ?_)))))
  refine Ev.bind (add_evP hq b c (by omega) (by omega)) (Ev.bind (mul_evP hq a _ (by omega) (by omega)) (Ev.bind (mul_evP hq a b (by omega) (by omega)) (Ev.bind (mul_evP hq a c (by omega) (by omega)) (Ev.bind (add_evP hq _ _ (by omega) (by omega)) (Ev.bind (eqV_ev (by omega) (pmul_padd a b c)) (Ev.pos rfl ?_))))))
  refine Ev.bind (sub_evP hq a b (by omega) (by omega)) (Ev.bind (add_evP hq _ b (by omega) (by omega)) (Ev.bind (trim_ev (by omega)) (Ev.bind (eqV_ev (by omega) (padd_psub a b)) (Ev.pos rfl ?_))))
  refine Ev.bind (sub_evP hq a a (by omega) (by omega)) ?_
  rw [psub_self]
  exact Ev.now _
theorem Pure.proved : Pure := by
  intro ⟨x0, l1, l2, l3, x4, x5⟩ ⟨h0, ⟨_, h1⟩, ⟨_, h2⟩, ⟨_, h3⟩, h4, h5⟩
  apply Ev.rounds
  obtain ⟨q, hz, a, b, c, hq, ha, hb, hc, e⟩ := fit_ex x0 x4 x5 l1 l2 l3 h0 h1 h2 h3
  have R := rest hq a b c ha hb hc
  unfold privitylaw04_PolyRing.f
  refine Ev.bind e (Ev.bind (ref_degree_ev (by omega)) ?_)
  by_cases c1 : (((ptrim a).length : Int) - 1) ≥ 0
  · refine Ev.pos c1 (Ev.bind (ref_degree_ev (by omega)) ?_)
    by_cases c2 : (((ptrim b).length : Int) - 1) ≥ 0
    · have l1 := pmul_len a b
      have k1 := ptrim_len a
      have k2 := ptrim_len b
      have hm : (ptrim (pmul a b)).length = (ptrim a).length + (ptrim b).length - 1 := by
        rw [ptrim_of (tr_pmul a b), ← pmul_ptrim]
        exact pmul_length hq.pr (tr_ptrim a) (tr_ptrim b) (fun h => by rw [h] at c1; simp at c1) (fun h => by rw [h] at c2; simp at c2)
      refine Ev.pos c2 (Ev.bind (mul_evP hq a b (by omega) (by omega)) (Ev.bind (degree_ev (by omega)) (Ev.bind (degree_ev (by omega)) (Ev.bind (degree_ev (by omega)) ?_))))
      rw [show ((((ptrim (pmul a b)).length : Int) - 1) != wrap64 (((ptrim a).length : Int) - 1 + (((ptrim b).length : Int) - 1))) = false from bne_eq_false_iff_eq.mpr (by rw [wrap_in (by omega) (by omega)]; omega)]
      exact R
    · exact Ev.neg c2 R
  · exact Ev.neg c1 R
end Go.Proofs.Ytjkggiemnfigbab.polyRing

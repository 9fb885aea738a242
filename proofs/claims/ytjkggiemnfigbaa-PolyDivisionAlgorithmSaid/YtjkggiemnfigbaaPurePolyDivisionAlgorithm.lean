/- Quotient times divisor plus remainder is the dividend, and the remainder has a smaller degree; and conversely. -/
import Derived.Test.YtjkggiemnfigbaaSPolyDivisionAlgorithm
import Derived.Test.YtjkggiemnfigbaaFPRefTG
namespace Go.Proofs.Ytjkggiemnfigbaa.polyDivisionAlgorithm
open Go.RowKit Go.Proofs.YtjkggiemnfigbaaW.PrintWords Go.Proofs.YtjkggiemnfigbaaW.PrintMore Go.Proofs.Ytjkggiemnfigbaa.PF Go.Proofs.Ytjkggiemnfigbaa.PQ Go.Proofs.Ytjkggiemnfigbaa.PC Go.Proofs.Ytjkggiemnfigbaa.PTG Go.Proofs.YtjkggiemnfigbaaNum Go.Proofs.Ytjkggiemnfigbaa.FEv Go.Proofs.Ytjkggiemnfigbaa.FPoly
set_option maxHeartbeats 1600000 in
theorem second {q : Nat} [NeZero q] (hq : Sup q) (a b c : List (Fin q)) (ha : a.length ≤ 12) (hb : b.length ≤ 12) (hc : c.length ≤ 12) (h0 : ptrim b ≠ []) : Ev (fun k => privitylaw04_PolyDivisionAlgorithm.j0 k q (a.map V) (b.map V) (c.map V) false) true := by
  refine Ev.step (fun k => by rw [privitylaw04_PolyDivisionAlgorithm.j0, if_neg (by decide)]) ?_
  refine Ev.bind (degree_ev (by omega)) (Ev.bind (degree_ev (by omega)) ?_)
  by_cases h : (((ptrim c).length : Int) - 1) ≥ (((ptrim b).length : Int) - 1)
  · exact Ev.pos h (Ev.bind awake_ev (Ev.now _))
  · have l1 := pmul_len a b
    have l2 := padd_len (pmul a b) c
    obtain ⟨Q, R, hD, hE⟩ := divmod_ev hq (padd (pmul a b) c) b (by omega) (by omega) h0
    have hD2 : IsDiv (padd (pmul a b) c) (ptrim b) (ptrim a) (ptrim c) := ⟨tr_ptrim a, tr_ptrim c, by omega, fun i => by
      rw [cf_padd, cf_pmul, cf_ptrim c, conv_congr (f' := cf (ptrim a)) (g' := cf (ptrim b)) (fun j _ => (cf_ptrim a j).symm) (fun j _ => (cf_ptrim b j).symm)]⟩
    obtain ⟨e1, e2⟩ := IsDiv.unique hq.pr (tr_ptrim b) hD hD2
    subst e1 e2
    have l3 := ptrim_len a
    have l4 := ptrim_len c
    refine Ev.neg h (Ev.bind (mul_evP hq a b (by omega) (by omega)) (Ev.bind (add_evP hq _ c (by omega) (by omega)) (Ev.bind hE (Ev.bind awake_ev (Ev.pos rfl (Ev.pos rfl ?_))))))
    refine Ev.bind (trim_ev (by omega)) (Ev.bind (eqV_ev (by omega) rfl) (Ev.pos rfl ?_))
    exact Ev.bind (trim_ev (by omega)) (Ev.bind (eqV_ev (by omega) rfl) (Ev.now _))
set_option maxHeartbeats 1600000 in
theorem Pure.proved : Pure := by
  intro ⟨x0, l1, l2, l3, x4, x5⟩ ⟨h0, ⟨_, h1⟩, ⟨_, h2⟩, ⟨_, h3⟩, h4, h5⟩
  apply Ev.rounds
  obtain ⟨q, hz, a, b, c, hq, ha, hb, hc, e⟩ := fit_ex x0 x4 x5 l1 l2 l3 h0 h1 h2 h3
  unfold privitylaw04_PolyDivisionAlgorithm.f
  refine Ev.bind e (Ev.bind (ref_degree_ev (by omega)) ?_)
  by_cases h : (((ptrim b).length : Int) - 1) < 0
  · exact Ev.pos h (Ev.bind awake_ev (Ev.now _))
  · have hb0 : ptrim b ≠ [] := fun e => by rw [e] at h; simp at h
    obtain ⟨Q, R, hD, hE⟩ := divmod_ev hq a b (by omega) (by omega) hb0
    have l1 := ptrim_len b
    have l2 := hD.less
    have hr : ptrim R = R := ptrim_of hD.tr
    have hm : padd (pmul Q b) R = ptrim a := (tr_padd _ _).eq (tr_ptrim _) (fun i => by
      rw [cf_padd, cf_pmul, cf_ptrim, hD.eq i, conv_congr (f' := cf Q) (g' := cf (ptrim b)) (fun _ _ => rfl) (fun j _ => (cf_ptrim b j).symm)])
    have l4 : Q.length ≤ 100 := by
      have h2 := ptrim_len a
      rcases Nat.eq_zero_or_pos Q.length with z | z
      · omega
      · have h3 := pmul_length hq.pr hD.tq (tr_ptrim b) (fun e => by rw [e] at z; simp at z) hb0
        have h5 : cf a (Q.length + (ptrim b).length - 1 - 1) ≠ 0 := by
          rw [hD.eq, cf_ge (l := R) (by omega), ← cf_pmul]
          have h6 := (tr_pmul Q (ptrim b)).resolve_left (fun e => by rw [e] at h3; simp at h3; omega)
          rw [h3] at h6
          intro e
          apply h6
          rw [← e]
          grind
        rcases Nat.lt_or_ge (Q.length + (ptrim b).length - 1 - 1) a.length with h7 | h7
        · omega
        · exact absurd (cf_ge h7) h5
    have l5 := pmul_len Q b
    refine Ev.neg h (Ev.bind hE (Ev.pos rfl (Ev.bind (degree_ev (by omega)) (Ev.bind (degree_ev (by omega)) (Ev.neg (by rw [hr]; omega) ?_)))))
    have l6 := padd_len (pmul Q b) R
    refine Ev.bind (mul_evP hq Q b (by omega) (by omega)) (Ev.bind (add_evP hq _ R (by omega) (by omega)) (Ev.bind (trim_ev (by omega)) (Ev.bind (eqV_ev (by omega) hm) ?_)))
    exact second hq a b c ha hb hc hb0
end Go.Proofs.Ytjkggiemnfigbaa.polyDivisionAlgorithm

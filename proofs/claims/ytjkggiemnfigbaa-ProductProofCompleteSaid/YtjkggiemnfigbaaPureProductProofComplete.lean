/- The check holds at every point for what Prove returns, and the constant term is the product of the secrets. -/
import Derived.Test.YtjkggiemnfigbaaSProductProofComplete
import Derived.Test.YtjkggiemnfigbaaFProd
namespace Go.Proofs.Ytjkggiemnfigbaa.productProofComplete
open Go.RowKit Go.Proofs.YtjkggiemnfigbaaW.PrintWords Go.Proofs.YtjkggiemnfigbaaW.PrintMore Go.Proofs.Ytjkggiemnfigbaa.PF Go.Proofs.Ytjkggiemnfigbaa.PQ Go.Proofs.Ytjkggiemnfigbaa.PR Go.Proofs.YtjkggiemnfigbaaNum Go.Proofs.Ytjkggiemnfigbaa.FEv Go.Proofs.Ytjkggiemnfigbaa.FPoly Go.Proofs.Ytjkggiemnfigbaa.X Go.Proofs.Ytjkggiemnfigbaa.FProd
theorem Pure.proved : Pure := by
  intro x0 a1 hx ha1
  obtain ⟨p0, T, lA, lB, lR⟩ := x0
  obtain ⟨w0, w1, ⟨_, w2⟩, ⟨_, w3⟩, ⟨_, w4⟩⟩ := hx
  refine Ev.rounds ?_
  unfold privitylaw21_ProductProofComplete.f
  obtain ⟨r, h1, h2⟩ := valid_ev p0 T lA lB lR (wf_all w2) (wf_all w3) (wf_all w4)
  refine Ev.bind h1 ?_
  cases r with
  | false => exact Ev.neg (by simp) (Ev.bind awake_ev (Ev.now _))
  | true =>
    obtain ⟨q, hz, t, a, b, c, hq, e0, e1, e2, e3, e4, t1, t4, la, lb, lc⟩ := h2 rfl
    subst e0 e1 e2 e3 e4
    have hl := hq.le
    have h0 := (wf_u64 ha1).1
    have hL := pL_len t a b
    have hr : t * t ≤ c.length := by omega
    have htt : t * t < 20 := by
      have : t = 1 ∨ t = 2 ∨ t = 3 ∨ t = 4 := by omega
      rcases this with rfl | rfl | rfl | rfl <;> omega
    have hP : productproof_Prove.f q t (a.map V) (b.map V) (c.map V) = some (VV (pD t c (pL t a b)), (pC t c (pL t a b)).map V) := proveF_eq hq a b c t1 (by omega) (by omega) (by omega) hr (by omega)
    have lC := pC_len (r := c) hL
    have lD := pD_len (t := t) (r := c) (L := pL t a b)
    have hrow : ∀ i, i < t → (rowN (pD t c (pL t a b)) i).length ≤ t + 1 := fun i hi => by rw [pD_row hr hi]; exact Nat.le_refl _
    have hcf : ∀ j, cf (pmul a b) j = cf (pC t c (pL t a b)) j + comb t (pD t c (pL t a b)) j := fun j => by
      rw [← cf_pL (t := t) (by omega) (by omega), prove_holds hr hL]
    have hval := fun x => values_of (by omega) hrow hcf x
    generalize pC t c (pL t a b) = C at *
    generalize pD t c (pL t a b) = D at *
    refine Ev.pos rfl (Ev.neg (show ¬ ((q : Int) = 0) by omega) ?_)
    rw [hP]
    simp only [Option.bind_some]
    refine Ev.pos (by rw [VV_len, lD]) ?_
    rw [len_map, lC, tmod_V (p := q) h0, wrap_in (by omega) (by omega)]
    have eb : (((t + 1 : Nat) : Int) != (t : Int) + 1) = false := by simp
    rw [eb]
    refine Ev.step (fun k => by rw [privitylaw21_ProductProofComplete.j0, if_neg (by simp), if_pos (by rw [len_map]; omega), if_pos (by rw [len_map]; omega)]) ?_
    have rd0 : ∀ l : List (Fin q), rd (l.map V) 0 = V (cf l 0) := fun l => rd_map l 0
    rw [rd0, rd0]
    refine Ev.bind (mul_ev hq _ _) (Ev.pos (by rw [len_map]; omega) (Ev.bind awake_ev (Ev.pos rfl ?_)))
    rw [rd0]
    have z : cf a 0 * cf b 0 = cf C 0 := by
      have h := hcf 0
      have : comb t D 0 = 0 := by
        unfold comb
        rw [sumF_congr (g := fun _ => 0) (f := fun i => Go.Proofs.YtjkggiemnfigbaaNum.part (rowN D i) (i + 1) 0) (fun i hi => if_neg (by omega)), sumF_zero]
      rw [this, cf_pmul] at h
      have e : conv (cf a) (cf b) 0 = cf a 0 * cf b 0 := by
        unfold conv
        show (0 : Fin q) + cf a 0 * cf b 0 = _
        grind
      rw [e] at h
      grind
    refine Ev.pos (by rw [z]) ?_
    refine Ev.bind (eval_ev hq a _ (by omega)) (Ev.bind (eval_ev hq b _ (by omega)) (Ev.bind (valuesAt_ev hq D _ (fun i hi => by have := hrow i (by omega); omega) (by omega)) (Ev.bind (eval_ev hq C _ (by omega)) ?_)))
    refine Ev.bind (check_ev hq _ _ _ _ D lD (by omega)) ?_
    rw [decide_eq_true (hval _)]
    exact Ev.now _
end Go.Proofs.Ytjkggiemnfigbaa.productProofComplete

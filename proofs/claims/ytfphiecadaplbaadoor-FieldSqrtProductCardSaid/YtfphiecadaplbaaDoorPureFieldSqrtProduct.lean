/- The product of two nonzero elements is a square just if both or neither of them are, and then its root is, up to sign, the product of their roots, for every prime that the law selects. -/
import Derived.Test.YtfphiecadaplbaaDoorSFieldSqrtProduct
import Derived.Test.YtfphiecadaplbaaDoorFLaw
namespace Go.Proofs.YtfphiecadaplbaaDoor.fieldSqrtProduct
open Go.RowKit Go.Proofs.YtfphiecadaplbaaDoorW.PrintWords Go.Proofs.YtfphiecadaplbaaDoorW.PrintMore Go.Proofs.YtfphiecadaplbaaDoor.PA Go.Proofs.YtfphiecadaplbaaDoorNum Go.Proofs.YtfphiecadaplbaaDoor.FEv
theorem Pure.proved : Pure := by
  intro ⟨x0, x1, x2, x3⟩ ⟨h0, h1, h2, h3⟩
  apply Ev.rounds
  obtain ⟨p, hz, hp, e⟩ := fit_ex x0 x1 x2 x3 h0 h1 h2 h3
  have hl := hp.le
  unfold privitylaw01_FieldSqrtProduct.f
  dsimp only
  rw [e]
  simp only [Option.bind_some]
  generalize (E x1 : Fin p) = a
  generalize (E x2 : Fin p) = b
  have out0 : Ev (fun k => privitylaw01_FieldSqrtProduct.j0 k p (V a) (V b) true) true :=
    Ev.step (fun k => by rw [privitylaw01_FieldSqrtProduct.j0, if_pos rfl]) (Ev.bind awake_ev (Ev.now _))
  by_cases ha : a = 0
  · exact Ev.pos (V_eq_zero.2 ha) out0
  refine Ev.neg (fun e => ha (V_eq_zero.1 e)) ?_
  by_cases hb : b = 0
  · have : (V b == 0) = true := by rw [V_eq_zero.2 hb]; rfl
    rw [this]
    exact out0
  have hb1 : (V b == 0) = false := by simpa using fun e => hb (V_eq_zero.1 e)
  rw [hb1]
  have hab : a * b ≠ 0 := fun h => (no_zero_div hp.pr h).elim ha hb
  refine Ev.step (fun k => by rw [privitylaw01_FieldSqrtProduct.j0, if_neg (by decide)]) ?_
  have out1 : ∀ x7 x9 x11 : Int, Ev (fun k => privitylaw01_FieldSqrtProduct.j1 k p x7 x9 x11 true) true := fun _ _ _ =>
    Ev.step (fun k => by rw [privitylaw01_FieldSqrtProduct.j1, if_pos rfl]) (Ev.bind awake_ev (Ev.now _))
  have no : ∀ {x : Fin p}, x ≠ 0 → chi x = -1 → rt x * rt x ≠ x := fun hx h h2 => by
    have h3 := (issq_iff hp hx).1 h2
    rw [h] at h3
    exact one_ne_neg hp h3.symm
  rcases chi_cases hp ha with h | h <;> rcases chi_cases hp hb with h' | h'
  · have hc : chi (a * b) = 1 := by rw [chi_mul, h, h']; grind
    refine Ev.bind (sqrt_ev hp a ((issq_iff hp ha).2 h)) (Ev.bind (sqrt_ev hp b ((issq_iff hp hb).2 h')) (Ev.bind (mul_ev hp a b) (Ev.bind (sqrt_ev hp (a * b) ((issq_iff hp hab).2 hc)) (Ev.neg (by simp) (Ev.pos rfl ?_)))))
    refine Ev.step (fun k => by rw [privitylaw01_FieldSqrtProduct.j1, if_neg (by simp)]) ?_
    obtain ⟨r, hr, hr2⟩ := lesser_pm (rt a)
    obtain ⟨s, hs, hs2⟩ := lesser_pm (rt b)
    obtain ⟨t, ht, ht2⟩ := lesser_pm (rt (a * b))
    rw [rt_mul] at ht2
    dsimp only
    rw [hr, hs, ht]
    refine Ev.bind (mul_ev hp r s) (Ev.bind awake_ev (Ev.pos rfl ?_))
    have hpm : t = r * s ∨ t = -(r * s) := by
      rcases hr2 with rfl | rfl <;> rcases hs2 with rfl | rfl <;> rcases ht2 with h | h <;> rw [h] <;> first | (left; grind; done) | (right; grind; done)
    by_cases hts : t = r * s
    · exact Ev.pos (V_inj.2 hts) (Ev.now _)
    · refine Ev.neg (fun e => hts (V_inj.1 e)) (Ev.bind (neg_ev hp (r * s)) (Ev.eq ?_))
      rcases hpm with h3 | h3
      · exact absurd h3 hts
      · rw [h3]; simp
  · have hc : chi (a * b) = -1 := by rw [chi_mul, h, h']; grind
    exact Ev.bind (sqrt_ev hp a ((issq_iff hp ha).2 h)) (Ev.bind (sqrt_no hp b (no hb h')) (Ev.bind (mul_ev hp a b) (Ev.bind (sqrt_no hp (a * b) (no hab hc)) (Ev.neg (by simp) (Ev.pos rfl (out1 _ _ _))))))
  · have hc : chi (a * b) = -1 := by rw [chi_mul, h, h']; grind
    exact Ev.bind (sqrt_no hp a (no ha h)) (Ev.bind (sqrt_ev hp b ((issq_iff hp hb).2 h')) (Ev.bind (mul_ev hp a b) (Ev.bind (sqrt_no hp (a * b) (no hab hc)) (Ev.neg (by simp) (Ev.neg (by decide) (out1 _ _ _))))))
  · have hc : chi (a * b) = 1 := by rw [chi_mul, h, h']; grind
    exact Ev.bind (sqrt_no hp a (no ha h)) (Ev.bind (sqrt_no hp b (no hb h')) (Ev.bind (mul_ev hp a b) (Ev.bind (sqrt_ev hp (a * b) ((issq_iff hp hab).2 hc)) (Ev.neg (by simp) (Ev.neg (by decide) (out1 _ _ _))))))
end Go.Proofs.YtfphiecadaplbaaDoor.fieldSqrtProduct

/- For every nonzero element exactly one of it and its negative is a square, and the root of its square is the lesser of the two, for every prime that the law selects. -/
import Derived.Test.YtfphiecadaplbaaDoorSFieldSquares
import Derived.Test.YtfphiecadaplbaaDoorFLaw
namespace Go.Proofs.YtfphiecadaplbaaDoor.fieldSquares
open Go.RowKit Go.Proofs.YtfphiecadaplbaaDoorW.PrintWords Go.Proofs.YtfphiecadaplbaaDoorW.PrintMore Go.Proofs.YtfphiecadaplbaaDoor.PA Go.Proofs.YtfphiecadaplbaaDoorNum Go.Proofs.YtfphiecadaplbaaDoor.FEv
theorem Pure.proved : Pure := by
  intro ⟨x0, x1, x2, x3⟩ ⟨h0, h1, h2, h3⟩
  apply Ev.rounds
  obtain ⟨p, hz, hp, e⟩ := fit_ex x0 x1 x2 x3 h0 h1 h2 h3
  have hl := hp.le
  unfold privitylaw01_FieldSquares.f
  dsimp only
  rw [e]
  simp only [Option.bind_some]
  generalize (E x1 : Fin p) = a
  by_cases ha : a = 0
  · refine Ev.pos (V_eq_zero.2 ha) ?_
    have hs := sqrt_ev hp (0 : Fin p) (by rw [rt_zero hp]; grind)
    rw [rt_zero hp] at hs
    have hz0 : lesser (0 : Fin p) = 0 := by
      unfold lesser
      have : -(0 : Fin p) = 0 := by grind
      rw [this, V_zero]
      rfl
    rw [hz0] at hs
    exact Ev.bind hs (Ev.bind awake_ev (Ev.pos rfl (Ev.pos rfl (Ev.now _))))
  · have ha' : -a ≠ 0 := by intro h; exact ha (by grind)
    refine Ev.neg (fun e => ha (V_eq_zero.1 e)) ?_
    -- the root of the square
    have hsq : rt (a * a) * rt (a * a) = a * a := by
      rw [rt_of_sq hp]
      rcases chi_cases hp ha with h | h <;> rw [h] <;> grind
    have hles : lesser (rt (a * a)) = mn (V a) (IntKind.u64.wrap (p - V a)) := by
      have hlt := V_lt a
      have h0 := V_nonneg a
      rw [w64_in (n := (p : Int) - V a) (by omega) (by omega), ← V_neg ha, rt_of_sq hp]
      unfold lesser
      rcases chi_cases hp ha with h | h
      · rw [h]
        have : a * 1 = a := by grind
        rw [this]
      · rw [h]
        have e1 : a * -1 = -a := by grind
        have e2 : - -a = a := by grind
        rw [e1, e2]
        unfold mn
        split <;> split <;> omega
    have fin : ∀ b c : Bool, (b != c) = true → ∀ e f : Int, (e == 0) = b → (f == 0) = c → ∀ r s : Int, Ev (fun k => field_Sqrt.f k p (V a)) (r, e) → Ev (fun k => field_Sqrt.f k p (V (-a))) (s, f) → Ev (fun k => (field_Sqrt.f k p (V a)).bind fun bt191 => (field_Neg.f p (V a)).bind fun t193 => (field_Sqrt.f k p t193).bind fun bt194 => (field_Mul.f k p (V a) (V a)).bind fun t196 => (field_Sqrt.f k p t196).bind fun bt197 => (privitylaw01_awake.f k).bind fun t199 => if t199 = true then (if ((bt191.2 == 0) != (bt194.2 == 0)) = true then (if bt197.2 = 0 then (some (bt197.1 == (mn (V a) (IntKind.u64.wrap (p - V a))))) else (some false)) else (some false)) else (some false)) true := by
      intro b c hbc e f he hf r s h1 h2
      refine Ev.bind h1 (Ev.bind (neg_ev hp a) (Ev.bind h2 (Ev.bind (mul_ev hp a a) (Ev.bind (sqrt_ev hp (a * a) hsq) (Ev.bind awake_ev (Ev.pos rfl (Ev.pos ?_ (Ev.pos rfl (Ev.eq ?_)))))))))
      · dsimp only; rw [he, hf]; exact hbc
      · rw [hles]; simp
    rcases chi_cases hp ha with h | h
    · refine fin true false rfl 0 8 rfl rfl _ _ (sqrt_ev hp a ((issq_iff hp ha).2 h)) (sqrt_no hp (-a) (fun h2 => ?_))
      have h3 := (issq_iff hp ha').1 h2
      rw [chi_neg hp, h] at h3
      exact one_ne_neg hp h3.symm
    · refine fin false true rfl 8 0 rfl rfl _ _ (sqrt_no hp a (fun h2 => ?_)) (sqrt_ev hp (-a) ((issq_iff hp ha').2 ?_))
      · have h3 := (issq_iff hp ha).1 h2
        rw [h] at h3
        exact one_ne_neg hp h3.symm
      · rw [chi_neg hp, h]
        grind
end Go.Proofs.YtfphiecadaplbaaDoor.fieldSquares

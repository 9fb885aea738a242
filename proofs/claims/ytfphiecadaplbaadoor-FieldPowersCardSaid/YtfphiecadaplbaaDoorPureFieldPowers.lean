/- Powers in the field satisfy the laws of exponents, and Fermat's theorem holds: for every prime and element that the law selects, whatever the argument. -/
import Derived.Test.YtfphiecadaplbaaDoorSFieldPowers
import Derived.Test.YtfphiecadaplbaaDoorFLaw
namespace Go.Proofs.YtfphiecadaplbaaDoor.fieldPowers
open Go.RowKit Go.Proofs.YtfphiecadaplbaaDoorW.PrintWords Go.Proofs.YtfphiecadaplbaaDoorW.PrintMore Go.Proofs.YtfphiecadaplbaaDoor.PA Go.Proofs.YtfphiecadaplbaaDoorNum Go.Proofs.YtfphiecadaplbaaDoor.FEv
theorem Pure.proved : Pure := by
  intro ⟨x0, x1, x2, x3⟩ ⟨h0, h1, h2, h3⟩
  apply Ev.rounds
  obtain ⟨p, hz, hp, e⟩ := fit_ex x0 x1 x2 x3 h0 h1 h2 h3
  have hl := hp.le
  obtain ⟨b0, b1⟩ := wf_u64 (n := x2) h2
  obtain ⟨c0, c1⟩ := wf_u64 (n := x3) h3
  unfold privitylaw01_FieldPowers.f
  dsimp only
  rw [e]
  simp only [Option.bind_some]
  generalize (E x1 : Fin p) = a
  rw [w64_in (n := x2 / 2 + x3 / 2) (by omega) (by omega), Int.tmod_eq_emod_of_nonneg (a := x2 / 2) (by omega), Int.tmod_eq_emod_of_nonneg (a := x3 / 2) (by omega)]
  have hm := Int.mul_le_mul (show x2 / 2 % 1000 ≤ 1000 by omega) (show x3 / 2 % 1000 ≤ 1000 by omega) (by omega) (by omega)
  have hm0 := Int.mul_nonneg (show 0 ≤ x2 / 2 % 1000 by omega) (show 0 ≤ x3 / 2 % 1000 by omega)
  rw [w64_in (n := x2 / 2 % 1000 * (x3 / 2 % 1000)) hm0 (by omega)]
  refine Ev.bind (pow_evI hp a _ (by omega) (by omega)) ?_
  refine Ev.bind (pow_evI hp a _ (by omega) (by omega)) ?_
  refine Ev.bind (pow_evI hp a _ (by omega) (by omega)) ?_
  refine Ev.bind (mul_ev hp _ _) ?_
  refine Ev.pos ?_ ?_
  · rw [V_inj, ← pw_add]
    congr 1
    omega
  refine Ev.bind (pow_evI hp a _ (by omega) (by omega)) ?_
  refine Ev.bind (pow_evI hp _ _ (by omega) (by omega)) ?_
  refine Ev.bind (pow_evI hp a _ hm0 (by omega)) ?_
  have e1 : (a ^ (x2 / 2 % 1000).toNat) ^ (x3 / 2 % 1000).toNat = a ^ (x2 / 2 % 1000 * (x3 / 2 % 1000)).toNat := by
    rw [← pw_mul, Int.toNat_mul (by omega) (by omega)]
  rw [e1]
  have e2 : (V (a ^ (x2 / 2 % 1000 * (x3 / 2 % 1000)).toNat) != V (a ^ (x2 / 2 % 1000 * (x3 / 2 % 1000)).toNat)) = false := by simp
  rw [e2]
  -- the second half
  have fin : ∀ one : Int, (one = if a = 0 then 0 else 1) → Ev (fun k => privitylaw01_FieldPowers.j1 k p (V a) one) true := by
    intro one ho
    refine Ev.step (fun k => by rw [privitylaw01_FieldPowers.j1]) ?_
    refine Ev.bind awake_ev (Ev.pos rfl ?_)
    refine Ev.bind (pow_evN hp a p (by omega)) (Ev.pos (by rw [flt hp.pr]) ?_)
    rw [w64_in (n := (p : Int) - 1) (by omega) (by omega), show (p : Int) - 1 = ((p - 1 : Nat) : Int) by omega]
    refine Ev.bind (pow_evN hp a (p - 1) (by omega)) (Ev.pos ?_ ?_)
    · rw [ho]
      by_cases h : a = 0
      · rw [if_pos h, h, pow_zero_pos _ (by omega), V_zero]
      · rw [if_neg h, flt1 hp.pr h, V_one hp]
    refine Ev.bind (pow_evN hp a 0 (by omega)) (Ev.pos (by rw [pw_zero, V_one hp]) ?_)
    refine Ev.bind (pow_evN hp a 1 (by omega)) (Ev.eq ?_)
    rw [pw_one]
    simp
  refine Ev.step (fun k => by rw [privitylaw01_FieldPowers.j0, if_neg (by decide)]) ?_
  by_cases h : a = 0
  · exact Ev.pos (V_eq_zero.2 h) (fin 0 (by rw [if_pos h]))
  · exact Ev.neg (fun e => h (V_eq_zero.1 e)) (fin 1 (by rw [if_neg h]))
end Go.Proofs.YtfphiecadaplbaaDoor.fieldPowers

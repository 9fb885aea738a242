/- Trim, Degree and Coefficient return the values of the reference implementation, for any numbers. -/
import Derived.Test.YtjkggiemnfigbaaSPolyTrim
import Derived.Test.YtjkggiemnfigbaaFPRefTT
namespace Go.Proofs.Ytjkggiemnfigbaa.polyTrim
open Go.RowKit Go.Proofs.YtjkggiemnfigbaaW.PrintWords Go.Proofs.YtjkggiemnfigbaaW.PrintMore Go.Proofs.Ytjkggiemnfigbaa.PF Go.Proofs.Ytjkggiemnfigbaa.PQ Go.Proofs.Ytjkggiemnfigbaa.PC Go.Proofs.Ytjkggiemnfigbaa.PTT Go.Proofs.YtjkggiemnfigbaaNum Go.Proofs.Ytjkggiemnfigbaa.FEv Go.Proofs.Ytjkggiemnfigbaa.FPoly
instance : NeZero 18446744073709551616 := ⟨by decide⟩
theorem Pure.proved : Pure := by
  intro x0 x1 ⟨_, h0⟩ _
  apply Ev.rounds
  unfold privitylaw04_PolyTrim.f
  by_cases c : (x0.length : Int) > 100
  · exact Ev.pos c (Ev.bind awake_ev (Ev.now _))
  · refine Ev.neg c (Ev.bind awake_ev (Ev.pos rfl ?_))
    obtain ⟨ys, rfl⟩ : ∃ ys : List (Fin 18446744073709551616), x0 = ys.map V := ⟨x0.map E, (X.map_VE (fun x hx => wf_u64 (h0 x hx))).symm⟩
    rw [len_map] at c
    have hp := ptrim_len ys
    refine Ev.bind (trim_ev (by omega)) (Ev.bind (ref_trim_ev (by omega)) (Ev.bind (eqV_ev (by omega) rfl) (Ev.pos rfl ?_)))
    refine Ev.bind (degree_ev (by omega)) (Ev.bind (ref_degree_ev (by omega)) (Ev.pos rfl ?_))
    rw [coefficient_ev, ref_coefficient_ev]
    exact Ev.eq (by simp)
end Go.Proofs.Ytjkggiemnfigbaa.polyTrim

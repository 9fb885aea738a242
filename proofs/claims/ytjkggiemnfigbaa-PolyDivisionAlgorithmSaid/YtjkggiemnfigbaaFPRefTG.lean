/- What the reference's functions on polynomials come to. -/
import Derived.Test.YtjkggiemnfigbaaFPC
import Derived.Test.YtjkggiemnfigbaaPTGx
namespace Go.Proofs.Ytjkggiemnfigbaa.FPoly
open Go.RowKit Go.Proofs.YtjkggiemnfigbaaW.PrintWords Go.Proofs.YtjkggiemnfigbaaW.PrintMore Go.Proofs.Ytjkggiemnfigbaa.PF Go.Proofs.Ytjkggiemnfigbaa.PQ Go.Proofs.Ytjkggiemnfigbaa.PC Go.Proofs.Ytjkggiemnfigbaa.PTG Go.Proofs.YtjkggiemnfigbaaNum Go.Proofs.Ytjkggiemnfigbaa.FEv
variable {q : Nat}
theorem ref_trim_l0 [NeZero q] {ys : List (Fin q)} (hl : ys.length < 1099511627776) : ∀ i : Nat, i ≤ ys.length → (∀ j, i ≤ j → cf ys j = 0) → Ev (fun k => privityref04_Trim.l0 k (ys.map V) (i : Int)) ((ptrim ys).map V)
  | 0, _, hz => by
    refine Ev.step (fun k => by rw [privityref04_Trim.l0, if_neg (by omega)]) ?_
    simp only [Option.bind_some]
    refine Ev.pos (by omega) (Ev.pos (by omega) (Ev.pos (by simp) (Ev.eq ?_)))
    rw [ptrim_zero (fun j => hz j (Nat.zero_le _))]
    rfl
  | i + 1, hi, hz => by
    have e : wrap64 (((i + 1 : Nat) : Int) - 1) = (i : Int) := by rw [wrap_in (by omega) (by omega)]; omega
    refine Ev.step (fun k => by rw [privityref04_Trim.l0, if_pos (by omega), e, if_pos (by omega), if_pos (by rw [len_map]; omega), rd_map]) ?_
    by_cases c : cf ys i = 0
    · exact Ev.pos (by rw [c, V_zero]) (ref_trim_l0 hl i (by omega) (fun j hj => by rcases Nat.lt_or_ge i j with h | h; exact hz j (by omega); rw [show j = i by omega]; exact c))
    · refine Ev.neg (fun h => c (V_eq_zero.mp h)) ?_
      simp only [Option.bind_some]
      refine Ev.pos (by omega) (Ev.pos (by rw [len_map]; omega) (Ev.pos (by rw [List.length_nil, List.length_take, len_map]; omega) (Ev.eq ?_)))
      rw [Int.toNat_natCast, List.nil_append, ← List.map_take, ← ptrim_top c (fun j hj => hz j (by omega)), take_ptrim]
theorem ref_trim_ev [NeZero q] {ys : List (Fin q)} (hl : ys.length < 1099511627776) : Ev (fun k => privityref04_Trim.f k (ys.map V)) ((ptrim ys).map V) := by
  unfold privityref04_Trim.f
  have h := ref_trim_l0 hl ys.length (Nat.le_refl _) (fun j hj => cf_ge hj)
  rw [len_map]
  exact h
theorem ref_degree_ev [NeZero q] {ys : List (Fin q)} (hl : ys.length < 1099511627776) : Ev (fun k => privityref04_Degree.f k (ys.map V)) (((ptrim ys).length : Int) - 1) := by
  unfold privityref04_Degree.f
  have hp := ptrim_len ys
  refine Ev.bind (ref_trim_ev hl) (Ev.eq ?_)
  rw [len_map, wrap_in (by omega) (by omega)]
theorem minus_one [NeZero q] (hq : Sup q) : IntKind.u64.wrap ((q : Int) - 1) = V (-1 : Fin q) := by
  have hl := hq.le
  rw [w64_in (by omega) (by omega), V_neg (one_ne hq), V_one hq]
end Go.Proofs.Ytjkggiemnfigbaa.FPoly

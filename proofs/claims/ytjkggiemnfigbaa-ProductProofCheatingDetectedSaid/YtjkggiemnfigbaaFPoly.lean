/- What the printed functions of the package poly come to: Trim, Degree, Scale, Eval, Coefficient. -/
import Derived.Test.YtjkggiemnfigbaaFRef
import Derived.Test.YtjkggiemnfigbaaPoly
import Derived.Test.YtjkggiemnfigbaaPQx
namespace Go.Proofs.Ytjkggiemnfigbaa.FPoly
open Go.RowKit Go.Proofs.YtjkggiemnfigbaaW.PrintWords Go.Proofs.YtjkggiemnfigbaaW.PrintMore Go.Proofs.Ytjkggiemnfigbaa.PF Go.Proofs.Ytjkggiemnfigbaa.PQ Go.Proofs.YtjkggiemnfigbaaNum Go.Proofs.Ytjkggiemnfigbaa.FEv
variable {q : Nat}
theorem wrap_in {n : Int} (h0 : -9223372036854775808 ≤ n) (h1 : n ≤ 9223372036854775807) : wrap64 n = n := by unfold wrap64; omega
theorem rd_map [NeZero q] (ys : List (Fin q)) (i : Nat) : rd (ys.map V) (i : Int) = V (cf ys i) := by
  unfold rd cf
  rw [Int.toNat_natCast, List.getD_eq_getElem?_getD, List.getD_eq_getElem?_getD, List.getElem?_map]
  cases ys[i]? <;> rfl
theorem ptrim_zero [NeZero q] {ys : List (Fin q)} (h : ∀ j, cf ys j = 0) : ptrim ys = [] :=
  (tr_ptrim ys).eq (.inl rfl) (fun i => by rw [cf_ptrim, h, cf_nil])
theorem ptrim_top [NeZero q] {ys : List (Fin q)} {i : Nat} (h0 : cf ys i ≠ 0) (h : ∀ j, i < j → cf ys j = 0) : (ptrim ys).length = i + 1 := by
  have h1 : i < (ptrim ys).length := by
    rcases Nat.lt_or_ge i (ptrim ys).length with c | c
    · exact c
    · exact absurd ((cf_ptrim ys i).symm.trans (cf_ge c)) h0
  have h2 : ¬ i + 1 < (ptrim ys).length := fun c => by
    rcases tr_ptrim ys with e | e
    · rw [e] at c; simp at c
    · exact e ((cf_ptrim ys _).trans (h _ (by omega)))
  omega
theorem degree_l0 [NeZero q] {ys : List (Fin q)} (hl : ys.length < 1099511627776) : ∀ i : Nat, i ≤ ys.length → (∀ j, i ≤ j → cf ys j = 0) → Ev (fun k => poly_Degree.l0 k (ys.map V) ((i : Int) - 1)) (((ptrim ys).length : Int) - 1)
  | 0, _, hz => by
    refine Ev.step (fun k => by rw [poly_Degree.l0, if_neg (by omega)]) (Ev.eq ?_)
    rw [ptrim_zero (fun j => hz j (Nat.zero_le _))]
    rfl
  | i + 1, hi, hz => by
    have e : ((i + 1 : Nat) : Int) - 1 = (i : Int) := by omega
    rw [e]
    by_cases c : cf ys i = 0
    · refine Ev.step (fun k => by
        rw [poly_Degree.l0, if_pos (by omega), if_pos (by omega), if_pos (by rw [List.length_map]; omega), rd_map, c, V_zero, if_pos rfl, wrap_in (by omega) (by omega)]) ?_
      exact degree_l0 hl i (by omega) (fun j hj => by rcases Nat.lt_or_ge i j with h | h; exact hz j (by omega); rw [show j = i by omega]; exact c)
    · refine Ev.step (fun k => by
        rw [poly_Degree.l0, if_pos (by omega), if_pos (by omega), if_pos (by rw [List.length_map]; omega), rd_map, if_neg (fun h => c (V_eq_zero.mp h))]) (Ev.eq ?_)
      rw [ptrim_top c (fun j hj => hz j (by omega))]
      omega
theorem degree_ev [NeZero q] {ys : List (Fin q)} (hl : ys.length < 1099511627776) : Ev (fun k => poly_Degree.f k (ys.map V)) (((ptrim ys).length : Int) - 1) := by
  unfold poly_Degree.f
  have h := degree_l0 hl ys.length (Nat.le_refl _) (fun j hj => cf_ge hj)
  rw [List.length_map, wrap_in (by omega) (by omega)]
  exact h
theorem take_ptrim [NeZero q] (ys : List (Fin q)) : ys.take (ptrim ys).length = ptrim ys := by
  refine cf_ext (by rw [List.length_take]; have := ptrim_len ys; omega) (fun i => ?_)
  rcases Nat.lt_or_ge i (ptrim ys).length with h | h
  · rw [cf_ptrim]
    unfold cf
    rw [List.getD_eq_getElem?_getD, List.getD_eq_getElem?_getD, List.getElem?_take, if_pos h]
  · rw [cf_ge h, cf_ge (by rw [List.length_take]; omega)]
theorem trim_ev [NeZero q] {ys : List (Fin q)} (hl : ys.length < 1099511627776) : Ev (fun k => poly_Trim.f k (ys.map V)) ((ptrim ys).map V) := by
  unfold poly_Trim.f
  have hp := ptrim_len ys
  refine Ev.bind (degree_ev hl) ?_
  have e : wrap64 (((ptrim ys).length : Int) - 1 + 1) = ((ptrim ys).length : Int) := by rw [wrap_in (by omega) (by omega)]; omega
  rw [e]
  refine Ev.pos (by omega) (Ev.pos (by rw [List.length_map]; omega) ?_)
  rw [Int.toNat_natCast, ← List.map_take, take_ptrim]
  refine Ev.pos (by rw [List.length_map]; simp only [List.length_nil]; omega) (Ev.eq ?_)
  rfl
theorem coefficient_ev [NeZero q] (ys : List (Fin q)) (i : Int) : poly_Coefficient.f (ys.map V) i = some (if i < 0 then 0 else V (cf ys i.toNat)) := by
  unfold poly_Coefficient.f
  by_cases h : i < 0
  · rw [if_pos h, if_pos h]
  · rw [if_neg h, if_neg h]
    obtain ⟨n, rfl⟩ := Int.eq_ofNat_of_zero_le (show 0 ≤ i by omega)
    rw [Int.toNat_natCast, List.length_map]
    by_cases h2 : (n : Int) ≥ (ys.length : Int)
    · rw [if_pos h2, cf_ge (by omega)]; rfl
    · rw [if_neg h2, if_pos (by omega), if_pos (by omega), rd_map]
theorem scale_l0 [NeZero q] (hq : Sup q) (c : Fin q) (a : List (Fin q)) (ha : a.length < 1099511627776) : ∀ (d n : Nat) (ys : List (Fin q)), n + d = a.length → ys.length = a.length → (∀ j, j < n → cf ys j = c * cf a j) →
    Ev (fun k => poly_Scale.l0 k q (V c) (ys.map V) (a.map V) ((a.map V).length : Int) (n : Int)) ((pscale c a).map V)
  | 0, n, ys, hn, hy, hj => by
    refine Ev.step (fun k => by rw [poly_Scale.l0, if_neg (by rw [List.length_map]; omega)]) ?_
    refine Ev.bind (trim_ev (by omega)) (Ev.eq ?_)
    congr 1
    refine (tr_ptrim ys).eq (tr_pscale c a) (fun i => ?_)
    rw [cf_ptrim, cf_pscale]
    rcases Nat.lt_or_ge i n with h | h
    · exact hj i h
    · rw [cf_ge (by omega), cf_ge (by omega)]
      grind
  | d + 1, n, ys, hn, hy, hj => by
    refine Ev.step (fun k => by
      rw [poly_Scale.l0, if_pos (by rw [List.length_map]; omega), if_pos (by omega), if_pos (by rw [List.length_map]; omega), rd_map]) ?_
    refine Ev.bind (mul_ev hq c (cf a n)) (Ev.pos (by rw [List.length_map]; omega) ?_)
    have h := scale_l0 hq c a ha d (n + 1) (ys.set n (c * cf a n)) (by omega) (by rw [List.length_set]; exact hy) (fun j hj2 => by
      unfold cf
      rw [List.getD_eq_getElem?_getD, List.getElem?_set]
      by_cases e : n = j
      · subst e
        rw [if_pos rfl, if_pos (by omega)]
        rfl
      · rw [if_neg e, ← List.getD_eq_getElem?_getD]
        exact hj j (by omega))
    rw [wrap_in (by omega) (by omega), Int.toNat_natCast, ← List.map_set]
    exact h
theorem scale_ev [NeZero q] (hq : Sup q) (c : Fin q) (a : List (Fin q)) (ha : a.length < 1099511627776) : Ev (fun k => poly_Scale.f k q (V c) (a.map V)) ((pscale c a).map V) := by
  unfold poly_Scale.f
  refine Ev.pos (by omega) (Ev.pos (by rw [List.length_map]; omega) ?_)
  have h := scale_l0 hq c a ha a.length 0 (List.replicate a.length 0) (by omega) List.length_replicate (fun j hj => by omega)
  rw [List.map_replicate] at h
  rw [Int.toNat_natCast]
  rw [show (List.map V a).length = a.length from List.length_map ..] at h ⊢
  exact h
theorem eval_l0 [NeZero q] (hq : Sup q) (a : List (Fin q)) (x : Fin q) (ha : a.length < 1099511627776) : ∀ (n : Nat) (v : Fin q), n ≤ a.length →
    Ev (fun k => poly_Eval.l0 k q (a.map V) (V x) (V v) ((n : Int) - 1)) (V (evF n (cf a) x + x ^ n * v))
  | 0, v, hn => by
    refine Ev.step (fun k => by rw [poly_Eval.l0, if_neg (by omega)]) (Ev.eq ?_)
    rw [V_inj, show evF 0 (cf a) x = 0 from rfl, pw_zero]
    grind
  | n + 1, v, hn => by
    rw [show ((n + 1 : Nat) : Int) - 1 = (n : Int) by omega]
    refine Ev.step (fun k => by rw [poly_Eval.l0, if_pos (by omega)]) ?_
    refine Ev.bind (mul_ev hq v x) (Ev.pos (by omega) (Ev.pos (by rw [List.length_map]; omega) ?_))
    rw [rd_map]
    refine Ev.bind (add_ev hq _ _) ?_
    have h := eval_l0 hq a x ha n (v * x + cf a n) (by omega)
    rw [wrap_in (by omega) (by omega)]
    refine Ev.to h ?_
    rw [V_inj]
    have e : evF (n + 1) (cf a) x = evF n (cf a) x + cf a n * x ^ n := rfl
    have e2 : x ^ (n + 1) = x ^ n * x := by grind
    rw [e, e2]
    grind
theorem eval_ev [NeZero q] (hq : Sup q) (a : List (Fin q)) (x : Fin q) (ha : a.length < 1099511627776) : Ev (fun k => poly_Eval.f k q (a.map V) (V x)) (V (peval a x)) := by
  unfold poly_Eval.f
  have h := eval_l0 hq a x ha a.length 0 (Nat.le_refl _)
  rw [List.length_map, wrap_in (by omega) (by omega)]
  rw [V_zero] at h
  refine Ev.to h ?_
  rw [V_inj]
  unfold peval
  grind
end Go.Proofs.Ytjkggiemnfigbaa.FPoly

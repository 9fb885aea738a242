/- What the functions of the proof laws come to: Supported, Below, validCase, Verify, valuesAt, awake. -/
import Derived.Test.YtjkggiemnfigbaaXProveO
import Derived.Test.YtjkggiemnfigbaaPRx2
namespace Go.Proofs.Ytjkggiemnfigbaa.FProd
open Go.RowKit Go.Proofs.YtjkggiemnfigbaaW.PrintWords Go.Proofs.YtjkggiemnfigbaaW.PrintMore Go.Proofs.Ytjkggiemnfigbaa.PF Go.Proofs.Ytjkggiemnfigbaa.PQ Go.Proofs.Ytjkggiemnfigbaa.PR Go.Proofs.YtjkggiemnfigbaaNum Go.Proofs.Ytjkggiemnfigbaa.FEv Go.Proofs.Ytjkggiemnfigbaa.FPoly Go.Proofs.Ytjkggiemnfigbaa.X
theorem rd_nat (l : List Int) (i : Nat) (h : i < l.length) : rd l (i : Int) = l[i] := by
  unfold rd
  rw [Int.toNat_natCast, List.getD_eq_getElem?_getD, List.getElem?_eq_getElem h]
  rfl
theorem exp_l0 (a : Int) : ∀ n j : Nat, n + j = 7 → ∃ e, Ev (fun k => privityref01_Exponent.l0 k a [5, 7, 13, 17, 19, 31, 61] j) e ∧ (e > 0 → ∃ p : Nat, Sup p ∧ a = (p : Int))
  | 0, j, hj => ⟨0, by
      have : j = 7 := by omega
      subst this
      exact Ev.step (f := fun _ => some 0) (fun k => by rw [privityref01_Exponent.l0, if_neg (by decide)]) (Ev.now _), fun h => by omega⟩
  | n + 1, j, hj => by
      obtain ⟨e, h1, h2⟩ := exp_l0 a n (j + 1) (by omega)
      obtain ⟨v, pp, hr, hs, h0, hp⟩ : ∃ (v : Int) (pp : Nat), rd [5, 7, 13, 17, 19, 31, 61] (j : Int) = v ∧ IntKind.u64.wrap ((shl .u64 1 (IntKind.u64.wrap v)) - 1) = (pp : Int) ∧ 0 ≤ IntKind.u64.wrap v ∧ Sup pp := by
        have : j = 0 ∨ j = 1 ∨ j = 2 ∨ j = 3 ∨ j = 4 ∨ j = 5 ∨ j = 6 := by omega
        rcases this with rfl | rfl | rfl | rfl | rfl | rfl | rfl
        · exact ⟨5, 31, rfl, by decide, by decide, by unfold Sup; omega⟩
        · exact ⟨7, 127, rfl, by decide, by decide, by unfold Sup; omega⟩
        · exact ⟨13, 8191, rfl, by decide, by decide, by unfold Sup; omega⟩
        · exact ⟨17, 131071, rfl, by decide, by decide, by unfold Sup; omega⟩
        · exact ⟨19, 524287, rfl, by decide, by decide, by unfold Sup; omega⟩
        · exact ⟨31, 2147483647, rfl, by decide, by decide, by unfold Sup; omega⟩
        · exact ⟨61, 2305843009213693951, rfl, by decide, by decide, by unfold Sup; omega⟩
      have hj2 : wrap64 ((j : Int) + 1) = ((j + 1 : Nat) : Int) := by unfold wrap64; omega
      have hstep : ∀ k, privityref01_Exponent.l0 (k + 1) a [5, 7, 13, 17, 19, 31, 61] j = if a = (pp : Int) then some v else privityref01_Exponent.l0 k a [5, 7, 13, 17, 19, 31, 61] ((j + 1 : Nat) : Int) := fun k => by
        rw [privityref01_Exponent.l0, if_pos (by simp; omega), if_pos (by omega), hr, if_pos h0, hs, hj2]
      by_cases c : a = (pp : Int)
      · exact ⟨v, Ev.step (f := fun _ => some v) (fun k => by rw [hstep, if_pos c]) (Ev.now _), fun _ => ⟨pp, hp, c⟩⟩
      · exact ⟨e, Ev.step (fun k => by rw [hstep, if_neg c]) h1, h2⟩
theorem sup_ev (a : Int) : ∃ r, Ev (fun k => privityref01_Supported.f k a) r ∧ (r = true → ∃ p : Nat, Sup p ∧ a = (p : Int)) := by
  obtain ⟨e, h1, h2⟩ := exp_l0 a 7 0 rfl
  refine ⟨decide (e > 0), ?_, fun h => h2 (by simpa using h)⟩
  unfold privityref01_Supported.f privityref01_Exponent.f privityref01_exps.f
  simp only [Option.bind_some]
  exact Ev.bind h1 (Ev.now _)
theorem below_l0 (p : Int) (l : List Int) (m : Int) (hm0 : 0 ≤ m) (hm : m < 1000) : ∀ d i : Nat, i + d = l.length → (i : Int) ≤ m + 1 → (∀ j (h : j < l.length), j < i → l[j] < p) →
    ∃ r, Ev (fun k => privityref06_Below.l0 k p l m (i : Int)) r ∧ (r = true → (l.length : Int) ≤ m ∧ ∀ x ∈ l, x < p)
  | 0, i, hi, hm1, hj => ⟨decide ((l.length : Int) ≤ m), Ev.step (f := fun k => privityref06_Below.j1 k p l m i false) (fun k => by rw [privityref06_Below.l0, if_neg (by omega)]) (Ev.step (f := fun _ => some (decide ((l.length : Int) ≤ m))) (fun k => by rw [privityref06_Below.j1, if_neg (by simp)]) (Ev.now _)), fun h => ⟨by simpa using h, fun x hx => by
      obtain ⟨j, h, rfl⟩ := List.getElem_of_mem hx
      exact hj j h (by omega)⟩⟩
  | d + 1, i, hi, hm1, hj => by
    have h0 : i < l.length := by omega
    by_cases c : (i : Int) ≤ m
    · by_cases c2 : l[i] ≥ p
      · exact ⟨false, Ev.step (f := fun k => privityref06_Below.j1 k p l m i true) (fun k => by rw [privityref06_Below.l0, if_pos (by omega), decide_eq_true c]) (Ev.step (f := fun _ => some false) (fun k => by rw [privityref06_Below.j1, if_pos rfl, if_pos (by omega), if_pos (by omega), rd_nat _ _ h0, if_pos c2]) (Ev.now _)), fun h => by cases h⟩
      · obtain ⟨r, h1, h2⟩ := below_l0 p l m hm0 hm d (i + 1) (by omega) (by omega) (fun j h hl => by
          by_cases e : j = i
          · subst e; omega
          · exact hj j h (by omega))
        exact ⟨r, Ev.step (f := fun k => privityref06_Below.j1 k p l m i true) (fun k => by rw [privityref06_Below.l0, if_pos (by omega), decide_eq_true c]) (Ev.step (f := fun k => privityref06_Below.l0 k p l m ((i + 1 : Nat) : Int)) (fun k => by
          rw [privityref06_Below.j1, if_pos rfl, if_pos (by omega), if_pos (by omega), rd_nat _ _ h0, if_neg c2, wrap_in (by omega) (by omega)]; rfl) h1), h2⟩
    · exact ⟨false, Ev.step (f := fun k => privityref06_Below.j1 k p l m i false) (fun k => by rw [privityref06_Below.l0, if_pos (by omega), decide_eq_false c]) (Ev.step (f := fun _ => some false) (fun k => by rw [privityref06_Below.j1, if_neg (by simp), decide_eq_false (by omega)]) (Ev.now _)), fun h => by cases h⟩
theorem below_ev (p : Int) (l : List Int) (m : Int) (hm0 : 0 ≤ m) (hm : m < 1000) : ∃ r, Ev (fun k => privityref06_Below.f k p l m) r ∧ (r = true → (l.length : Int) ≤ m ∧ ∀ x ∈ l, x < p) :=
  below_l0 p l m hm0 hm l.length 0 (by omega) (by omega) (fun j h hl => by omega)
theorem wf_all {l : List Int} (h : ∀ x ∈ l, (Lit.int .u64 x).wf = true) : ∀ x ∈ l, 0 ≤ x := fun x hx => (wf_u64 (h x hx)).1
theorem lift {q : Nat} [NeZero q] {l : List Int} (h : ∀ x ∈ l, 0 ≤ x) (h2 : ∀ x ∈ l, x < (q : Int)) : ∃ a : List (Fin q), l = a.map V ∧ a.length = l.length :=
  ⟨l.map E, (map_VE (fun x hx => ⟨h x hx, h2 x hx⟩)).symm, by rw [List.length_map]⟩
theorem valid_ev (a0 a1 : Int) (l2 l3 l4 : List Int) (h2 : ∀ x ∈ l2, 0 ≤ x) (h3 : ∀ x ∈ l3, 0 ≤ x) (h4 : ∀ x ∈ l4, 0 ≤ x) :
    ∃ r, Ev (fun k => privitylaw21_validCase.f k a0 a1 l2 l3 l4) r ∧ (r = true → ∃ (q : Nat) (_ : NeZero q) (t : Nat) (a b c : List (Fin q)), Sup q ∧ a0 = (q : Int) ∧ a1 = (t : Int) ∧ l2 = a.map V ∧ l3 = b.map V ∧ l4 = c.map V ∧ 1 ≤ t ∧ t ≤ 4 ∧ a.length = t + 1 ∧ b.length = t + 1 ∧ c.length = t * t) := by
  unfold privitylaw21_validCase.f
  obtain ⟨r0, e0, s0⟩ := sup_ev a0
  have no : ∀ {P : Prop}, false = true → P := fun h => by cases h
  cases r0 with
  | false => exact ⟨false, Ev.bind e0 (Ev.neg (by simp) (Ev.now _)), no⟩
  | true =>
    obtain ⟨q, hq, rfl⟩ := s0 rfl
    by_cases c1 : a1 ≥ 1
    case neg => exact ⟨false, Ev.bind e0 (Ev.pos rfl (Ev.neg c1 (Ev.now _))), no⟩
    by_cases c2 : a1 ≤ 4
    case neg => exact ⟨false, Ev.bind e0 (Ev.pos rfl (Ev.pos c1 (Ev.neg c2 (Ev.now _)))), no⟩
    by_cases c3 : (l2.length : Int) = wrap64 (a1 + 1)
    case neg => exact ⟨false, Ev.bind e0 (Ev.pos rfl (Ev.pos c1 (Ev.pos c2 (Ev.neg c3 (Ev.now _))))), no⟩
    by_cases c4 : (l3.length : Int) = wrap64 (a1 + 1)
    case neg => exact ⟨false, Ev.bind e0 (Ev.pos rfl (Ev.pos c1 (Ev.pos c2 (Ev.pos c3 (Ev.neg c4 (Ev.now _)))))), no⟩
    by_cases c5 : (l4.length : Int) = wrap64 (a1 * a1)
    case neg => exact ⟨false, Ev.bind e0 (Ev.pos rfl (Ev.pos c1 (Ev.pos c2 (Ev.pos c3 (Ev.pos c4 (Ev.neg c5 (Ev.now _))))))), no⟩
    obtain ⟨r1, e1, s1⟩ := below_ev (q : Int) l2 5 (by omega) (by omega)
    obtain ⟨r2, e2, s2⟩ := below_ev (q : Int) l3 5 (by omega) (by omega)
    obtain ⟨r3, e3, s3⟩ := below_ev (q : Int) l4 16 (by omega) (by omega)
    cases r1 with
    | false => exact ⟨false, Ev.bind e0 (Ev.pos rfl (Ev.pos c1 (Ev.pos c2 (Ev.pos c3 (Ev.pos c4 (Ev.pos c5 (Ev.bind e1 (Ev.neg (by simp) (Ev.now _))))))))), no⟩
    | true =>
      cases r2 with
      | false => exact ⟨false, Ev.bind e0 (Ev.pos rfl (Ev.pos c1 (Ev.pos c2 (Ev.pos c3 (Ev.pos c4 (Ev.pos c5 (Ev.bind e1 (Ev.pos rfl (Ev.bind e2 (Ev.neg (by simp) (Ev.now _))))))))))), no⟩
      | true =>
        refine ⟨r3, Ev.bind e0 (Ev.pos rfl (Ev.pos c1 (Ev.pos c2 (Ev.pos c3 (Ev.pos c4 (Ev.pos c5 (Ev.bind e1 (Ev.pos rfl (Ev.bind e2 (Ev.pos rfl (Ev.bind e3 (Ev.now _)))))))))))), fun h => ?_⟩
        have hz : NeZero q := hq.ne
        obtain ⟨a, ea, la⟩ := lift (q := q) h2 (s1 rfl).2
        obtain ⟨b, eb, lb⟩ := lift (q := q) h3 (s2 rfl).2
        obtain ⟨c, ec, lc⟩ := lift (q := q) h4 (s3 h).2
        have hT : a1 = 1 ∨ a1 = 2 ∨ a1 = 3 ∨ a1 = 4 := by omega
        have w1 : wrap64 (a1 + 1) = a1 + 1 := wrap_in (by omega) (by omega)
        rw [w1] at c3 c4
        refine ⟨q, hz, a1.toNat, a, b, c, hq, rfl, by omega, ea, eb, ec, by omega, by omega, by omega, by omega, ?_⟩
        rcases hT with rfl | rfl | rfl | rfl <;> (have c6 := c5; unfold wrap64 at c6; simp at c6 ⊢; omega)
section
variable {q : Nat} [NeZero q]
set_option linter.unusedSectionVars false
theorem vsum_succ (x : Fin q) (i : Nat) (f : Nat → Fin q) (w : Fin q) : w - vsum x (i + 1) f = w - vsum x i f - x ^ (i + 1) * f i := by
  unfold vsum
  show w - (sumF i _ + _) = _
  grind
theorem verify_l0 (hq : Sup q) (x c w : Fin q) (d : List (Fin q)) (hd : d.length < 1099511627776) : ∀ (n i : Nat), i + n = d.length →
    Ev (fun k => productproof_Verify.l0 k q (V x) (V c) (V (w - vsum x i (cf d))) (V (x ^ (i + 1))) (d.map V) (d.length : Int) (i : Int)) (V (w - vsum x d.length (cf d)) == V c)
  | 0, i, hi => by
    have e : i = d.length := by omega
    subst e
    exact Ev.step (f := fun _ => some (V (w - vsum x d.length (cf d)) == V c)) (fun k => by rw [productproof_Verify.l0, if_neg (by omega)]) (Ev.now _)
  | n + 1, i, hi => by
    refine Ev.step (fun k => by rw [productproof_Verify.l0, if_pos (by omega), if_pos (by omega), if_pos (by rw [len_map]; omega), rd_map, wrap_in (by omega) (by omega)]) ?_
    refine Ev.bind (mul_ev hq _ _) (Ev.bind (sub_ev hq _ _) (Ev.bind (mul_ev hq _ _) ?_))
    have h := verify_l0 hq x c w d hd n (i + 1) (by omega)
    rw [vsum_succ, pw_succ x (i + 1)] at h
    exact h
theorem verify_ev (hq : Sup q) (x a b c : Fin q) (d : List (Fin q)) (hd : d.length < 1099511627776) :
    Ev (fun k => productproof_Verify.f k q (V x) (V a) (V b) (d.map V) (V c)) (decide (a * b - vsum x d.length (cf d) = c)) := by
  unfold productproof_Verify.f
  have hl := V64 hq x
  refine Ev.bind (mul_ev hq _ _) (Ev.bind (reduce_ev hq _ hl.1 (by omega)) ?_)
  have h := verify_l0 hq x c (a * b) d hd d.length 0 (by omega)
  have e0 : a * b - vsum x 0 (cf d) = a * b := by unfold vsum; show a * b - 0 = _; grind
  rw [e0, pw_one] at h
  rw [E_V, len_map]
  refine Ev.to h ?_
  by_cases e : a * b - vsum x d.length (cf d) = c
  · rw [e, decide_eq_true rfl]; simp
  · rw [decide_eq_false e]
    have : V (a * b - vsum x d.length (cf d)) ≠ V c := fun h => e (V_inj.1 h)
    simpa using this
/-- The values of the rows at x. -/
def vals (ds : List (List (Fin q))) (x : Fin q) : List (Fin q) := ds.map (fun d => peval d x)
theorem cf_vals (ds : List (List (Fin q))) (x : Fin q) (i : Nat) : cf (vals ds x) i = peval (rowN ds i) x := by
  unfold cf vals rowN
  rw [List.getD_eq_getElem?_getD, List.getD_eq_getElem?_getD, List.getElem?_map]
  cases ds[i]? with
  | none => rfl
  | some d => rfl
theorem vals_len (ds : List (List (Fin q))) (x : Fin q) : (vals ds x).length = ds.length := by unfold vals; rw [List.length_map]
theorem rd_VV (ds : List (List (Fin q))) (i : Nat) : rd_L3 (VV ds) (i : Int) = (rowN ds i).map V := by
  unfold rd_L3 VV rowN
  rw [Int.toNat_natCast, List.getD_eq_getElem?_getD, List.getD_eq_getElem?_getD, List.getElem?_map]
  cases ds[i]? with
  | none => rfl
  | some d => rfl
theorem VV_len (ds : List (List (Fin q))) : (VV ds).length = ds.length := by unfold VV; rw [List.length_map]
theorem valuesAt_l0 (hq : Sup q) (ds : List (List (Fin q))) (x : Fin q) (hd : ∀ i, i < ds.length → (rowN ds i).length < 1099511627776) (hn : ds.length < 1099511627776) : ∀ (n i : Nat), i + n = ds.length →
    Ev (fun k => privitylaw21_valuesAt.l0 k q (VV ds) (V x) (((vals ds x).take i).map V) (i : Int)) ((vals ds x).map V)
  | 0, i, hi => by
    have e : (vals ds x).take i = vals ds x := List.take_of_length_le (by rw [vals_len]; omega)
    rw [e]
    exact Ev.step (f := fun _ => some ((vals ds x).map V)) (fun k => by rw [privitylaw21_valuesAt.l0, if_neg (by rw [VV_len]; omega)]) (Ev.now _)
  | n + 1, i, hi => by
    have hlen : (((vals ds x).take i).map V).length < 17592186044416 := by rw [len_map, List.length_take, vals_len]; omega
    refine Ev.step (fun k => by rw [privitylaw21_valuesAt.l0, if_pos (by rw [VV_len]; omega), if_pos (by omega), rd_VV]) ?_
    refine Ev.bind (eval_ev hq (rowN ds i) x (hd i (by omega))) (Ev.pos hlen ?_)
    rw [wrap_in (by omega) (by omega)]
    have h := valuesAt_l0 hq ds x hd hn n (i + 1) (by omega)
    have h0 : i < (vals ds x).length := by rw [vals_len]; omega
    have e : (vals ds x)[i] = peval (rowN ds i) x := by
      rw [← cf_vals]
      unfold cf
      rw [List.getD_eq_getElem?_getD, List.getElem?_eq_getElem h0]; rfl
    rw [List.take_succ_eq_append_getElem h0, List.map_append, e] at h
    exact h
theorem valuesAt_ev (hq : Sup q) (ds : List (List (Fin q))) (x : Fin q) (hd : ∀ i, i < ds.length → (rowN ds i).length < 1099511627776) (hn : ds.length < 1099511627776) :
    Ev (fun k => privitylaw21_valuesAt.f k q (VV ds) (V x)) ((vals ds x).map V) := valuesAt_l0 hq ds x hd hn ds.length 0 (by omega)
/-- Verify at the values of four polynomials. -/
theorem check_ev (hq : Sup q) {t : Nat} (x va vb vc : Fin q) (ds : List (List (Fin q))) (hn : ds.length = t) (ht : t < 65536) :
    Ev (fun k => productproof_Verify.f k q (V x) (V va) (V vb) ((vals ds x).map V) (V vc)) (decide (va * vb - vsum x t (fun i => peval (rowN ds i) x) = vc)) := by
  have h := verify_ev hq x va vb vc (vals ds x) (by rw [vals_len]; omega)
  have e : cf (vals ds x) = fun i => peval (rowN ds i) x := funext (cf_vals ds x)
  rw [vals_len, hn, e] at h
  exact h
end
theorem awake_ev : Ev (fun k => privitylaw21_awake.f k) true := Ev.of (fun k => privitylaw21_awake.mono k) (k := 80) (by decide +kernel)
end Go.Proofs.Ytjkggiemnfigbaa.FProd

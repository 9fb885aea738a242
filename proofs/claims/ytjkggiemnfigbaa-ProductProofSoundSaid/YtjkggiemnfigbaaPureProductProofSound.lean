/- A proof of which the check holds at 2T+1 points shares the product. -/
import Derived.Test.YtjkggiemnfigbaaSProductProofSound
import Derived.Test.YtjkggiemnfigbaaFProd
namespace Go.Proofs.Ytjkggiemnfigbaa.productProofSound
open Go.RowKit Go.Proofs.YtjkggiemnfigbaaW.PrintWords Go.Proofs.YtjkggiemnfigbaaW.PrintMore Go.Proofs.Ytjkggiemnfigbaa.PF Go.Proofs.Ytjkggiemnfigbaa.PQ Go.Proofs.Ytjkggiemnfigbaa.PR Go.Proofs.YtjkggiemnfigbaaNum Go.Proofs.Ytjkggiemnfigbaa.FEv Go.Proofs.Ytjkggiemnfigbaa.FPoly Go.Proofs.Ytjkggiemnfigbaa.X Go.Proofs.Ytjkggiemnfigbaa.FProd
theorem out (x1 p0 T : Int) (lA lB lC : List Int) (lD : List (List Int)) : Ev (fun k => privitylaw21_ProductProofSound.j0 k x1 true p0 T lA lB lC lD) true :=
  Ev.step (fun k => by rw [privitylaw21_ProductProofSound.j0, if_pos rfl]) (Ev.bind awake_ev (Ev.now _))
section
variable {q : Nat} [NeZero q]
/-- The points. -/
theorem point {a1 : Int} (h0 : 0 ≤ a1) (h1 : a1 < 256) (i : Nat) (hi : i < 100) : IntKind.u64.wrap ((IntKind.u64.wrap (1 + (IntKind.u64.wrap (Int.tmod a1 8)))) + (IntKind.u64.wrap (i : Int))) = ((1 + a1.toNat % 8 + i : Nat) : Int) := by
  rw [Int.tmod_eq_emod_of_nonneg h0]
  have : ((a1.toNat % 8 : Nat) : Int) = a1 % 8 := by omega
  rw [w64_in (n := a1 % 8) (by omega) (by omega), w64_in (n := 1 + a1 % 8) (by omega) (by omega), w64_in (n := (i : Int)) (by omega) (by omega), w64_in (by omega) (by omega)]
  omega
theorem V_el {n : Nat} (h : n < q) : V (el n : Fin q) = (n : Int) := by
  have := V_E_lt (p := q) (x := (n : Int)) (by omega) (by omega)
  unfold E at this
  rw [Int.toNat_natCast] at this
  exact this
theorem l1_ev (hq : Sup q) {a1 : Int} (h0 : 0 ≤ a1) (h1 : a1 < 256) {t : Nat} (t4 : t ≤ 4) (a b c : List (Fin q)) (D : List (List (Fin q))) (la : a.length ≤ t + 1) (lb : b.length ≤ t + 1) (lc : c.length ≤ t + 1) (lD : D.length = t) (hrow : ∀ i, i < t → (rowN D i).length ≤ t + 1) :
    ∀ (n i : Nat), i + n = 2 * t + 1 → (∀ j, j < i → 1 + a1.toNat % 8 + j < q ∧ peval a (el (1 + a1.toNat % 8 + j) : Fin q) * peval b (el (1 + a1.toNat % 8 + j)) - vsum (el (1 + a1.toNat % 8 + j)) t (fun i => peval (rowN D i) (el (1 + a1.toNat % 8 + j))) = peval c (el (1 + a1.toNat % 8 + j))) →
      Ev (fun k => privitylaw21_ProductProofSound.l1 k a1 (i : Int) q t (a.map V) (b.map V) (c.map V) (VV D)) true
  | 0, i, hi, hj => by
    have hl := hq.le
    refine Ev.step (fun k => by rw [privitylaw21_ProductProofSound.l1, if_neg (by rw [wrap_in (by omega) (by omega)]; omega)]) ?_
    refine Ev.bind awake_ev (Ev.pos rfl ?_)
    have e0 : (0 : Int) = V (0 : Fin q) := rfl
    rw [e0]
    refine Ev.bind (eval_ev hq c _ (by omega)) (Ev.bind (eval_ev hq a _ (by omega)) (Ev.bind (eval_ev hq b _ (by omega)) (Ev.bind (mul_ev hq _ _) ?_)))
    have key := secret_of_values hq.pr la lb lc hrow (xs := (List.range (2 * t + 1)).map (fun j => (el (1 + a1.toNat % 8 + j) : Fin q))) ?_ (by rw [List.length_map, List.length_range]; exact Nat.le_refl _) ?_
    · rw [key]
      exact Ev.eq (by simp)
    · refine List.pairwise_map.mpr (List.Pairwise.imp_of_mem ?_ (List.nodup_range (n := 2 * t + 1)))
      intro x y hx hy hne e
      have hx := List.mem_range.mp hx
      have hy := List.mem_range.mp hy
      have h1 := V_el (hj x (by omega)).1
      have h2 := V_el (hj y (by omega)).1
      rw [e, h2] at h1
      omega
    · intro x hx
      obtain ⟨j, hj1, rfl⟩ := List.mem_map.mp hx
      exact (hj j (by have := List.mem_range.mp hj1; omega)).2
  | n + 1, i, hi, hj => by
    have hl := hq.le
    by_cases cp : 1 + a1.toNat % 8 + i < q
    case neg =>
      exact Ev.step (fun k => by rw [privitylaw21_ProductProofSound.l1, if_pos (by rw [wrap_in (by omega) (by omega)]; omega), point h0 h1 i (by omega), if_pos (by omega)]) (Ev.bind awake_ev (Ev.now _))
    have ex := V_el cp
    refine Ev.step (fun k => by rw [privitylaw21_ProductProofSound.l1, if_pos (by rw [wrap_in (by omega) (by omega)]; omega), point h0 h1 i (by omega), if_neg (by omega), ← ex, wrap_in (n := (i : Int) + 1) (by omega) (by omega)]) ?_
    refine Ev.bind (eval_ev hq a _ (by omega)) (Ev.bind (eval_ev hq b _ (by omega)) (Ev.bind (valuesAt_ev hq D _ (fun i hi => by have := hrow i (by omega); omega) (by omega)) (Ev.bind (eval_ev hq c _ (by omega)) ?_)))
    refine Ev.bind (check_ev hq _ _ _ _ D lD (by omega)) ?_
    by_cases hc : peval a (el (1 + a1.toNat % 8 + i) : Fin q) * peval b (el (1 + a1.toNat % 8 + i)) - vsum (el (1 + a1.toNat % 8 + i)) t (fun j => peval (rowN D j) (el (1 + a1.toNat % 8 + i))) = peval c (el (1 + a1.toNat % 8 + i))
    case neg => exact Ev.neg (by simpa using hc) (Ev.bind awake_ev (Ev.now _))
    refine Ev.pos (by simpa using hc) ?_
    exact l1_ev hq h0 h1 t4 a b c D la lb lc lD hrow n (i + 1) (by omega) (fun j hj2 => by
      by_cases e : j = i
      · subst e; exact ⟨cp, hc⟩
      · exact hj j (by omega))
theorem l0_ev (hq : Sup q) {a1 : Int} (h0 : 0 ≤ a1) (h1 : a1 < 256) {t : Nat} (t4 : t ≤ 4) (a b c : List (Fin q)) (la : a.length ≤ t + 1) (lb : b.length ≤ t + 1) (lc : c.length ≤ t + 1) (lD : List (List Int)) (hn : lD.length = t) (hw : ∀ d ∈ lD, ∀ x ∈ d, 0 ≤ x) :
    ∀ (n i : Nat), i + n = t → (∀ j (h : j < lD.length), j < i → (lD[j].length : Int) ≤ t + 1 ∧ ∀ x ∈ lD[j], x < (q : Int)) → Ev (fun k => privitylaw21_ProductProofSound.l0 k a1 (i : Int) q t (a.map V) (b.map V) (c.map V) lD) true
  | 0, i, hi, hj => by
    have eD : VV (lD.map (fun d => (d.map (E : Int → Fin q)))) = lD := by
      unfold VV
      rw [List.map_map]
      conv => rhs; rw [← List.map_id lD]
      refine List.map_congr_left (fun d hd => ?_)
      obtain ⟨j, h, rfl⟩ := List.getElem_of_mem hd
      exact map_VE (fun x hx => ⟨hw _ hd x hx, (hj j h (by omega)).2 x hx⟩)
    refine Ev.step (fun k => by rw [privitylaw21_ProductProofSound.l0, if_neg (by omega)]) ?_
    rw [← eD]
    refine l1_ev hq h0 h1 t4 a b c _ la lb lc (by rw [List.length_map]; exact hn) (fun i hi => ?_) (2 * t + 1) 0 (by omega) (fun j hj => by omega)
    unfold rowN
    have hi2 : i < lD.length := by omega
    rw [List.getD_eq_getElem?_getD, List.getElem?_map, List.getElem?_eq_getElem hi2]
    show (lD[i].map E).length ≤ _
    rw [List.length_map]
    have := (hj i hi2 (by omega)).1
    omega
  | n + 1, i, hi, hj => by
    have hi2 : i < lD.length := by omega
    have er : rd_L3 lD (i : Int) = lD[i] := by
      unfold rd_L3
      rw [Int.toNat_natCast, List.getD_eq_getElem?_getD, List.getElem?_eq_getElem hi2]; rfl
    refine Ev.step (fun k => by rw [privitylaw21_ProductProofSound.l0, if_pos (by omega), if_pos (by omega), if_pos (by omega), er, wrap_in (n := (t : Int) + 1) (by omega) (by omega), wrap_in (n := (i : Int) + 1) (by omega) (by omega)]) ?_
    obtain ⟨r, e1, s1⟩ := below_ev (q : Int) lD[i] ((t : Int) + 1) (by omega) (by omega)
    refine Ev.bind e1 ?_
    cases r with
    | false => exact Ev.neg (by simp) (Ev.bind awake_ev (Ev.now _))
    | true =>
      refine Ev.pos rfl ?_
      exact l0_ev hq h0 h1 t4 a b c la lb lc lD hn hw n (i + 1) (by omega) (fun j h hj2 => by
        by_cases e : j = i
        · subst e; exact s1 rfl
        · exact hj j h (by omega))
end
theorem Pure.proved : Pure := by
  intro x0 a1 hx ha1
  obtain ⟨p0, T, lA, lB, lC, lD⟩ := x0
  obtain ⟨w0, w1, ⟨_, w2⟩, ⟨_, w3⟩, ⟨_, w4⟩, ⟨_, w5⟩⟩ := hx
  refine Ev.rounds ?_
  unfold privitylaw21_ProductProofSound.f
  have h0 : 0 ≤ a1 ∧ a1 < 256 := by
    have := ha1
    simp [Lit.wf, IntKind.min, IntKind.max, IntKind.bits, IntKind.signed] at this
    omega
  obtain ⟨r0, e0, s0⟩ := sup_ev p0
  refine Ev.bind e0 ?_
  cases r0 with
  | false => exact Ev.neg (by simp) (out ..)
  | true =>
    obtain ⟨q, hq, e⟩ := s0 rfl
    subst e
    refine Ev.pos rfl ?_
    by_cases c1 : T < 1
    · exact Ev.pos c1 (out ..)
    refine Ev.neg c1 ?_
    by_cases c2 : T > 4
    · exact Ev.pos c2 (out ..)
    refine Ev.neg c2 ?_
    obtain ⟨t, rfl⟩ : ∃ t : Nat, T = (t : Int) := ⟨T.toNat, by omega⟩
    have hz := hq.ne
    rw [wrap_in (n := (t : Int) + 1) (by omega) (by omega)]
    obtain ⟨r1, e1, s1⟩ := below_ev (q : Int) lA ((t : Int) + 1) (by omega) (by omega)
    obtain ⟨r2, e2, s2⟩ := below_ev (q : Int) lB ((t : Int) + 1) (by omega) (by omega)
    obtain ⟨r3, e3, s3⟩ := below_ev (q : Int) lC ((t : Int) + 1) (by omega) (by omega)
    refine Ev.bind e1 ?_
    cases r1 with
    | false => exact Ev.neg (by simp) (out ..)
    | true =>
      refine Ev.pos rfl (Ev.bind e2 ?_)
      cases r2 with
      | false => exact Ev.neg (by simp) (out ..)
      | true =>
        refine Ev.pos rfl (Ev.bind e3 ?_)
        cases r3 with
        | false => exact Ev.neg (by simp) (out ..)
        | true =>
          refine Ev.pos rfl ?_
          by_cases c4 : (lD.length : Int) = (t : Int)
          case neg =>
            have : ((lD.length : Int) != (t : Int)) = true := by simpa using c4
            rw [this]
            exact out ..
          have : ((lD.length : Int) != (t : Int)) = false := by simpa using c4
          rw [this]
          refine Ev.step (fun k => by rw [privitylaw21_ProductProofSound.j0, if_neg (by simp)]) ?_
          obtain ⟨a, ea, la⟩ := lift (q := q) (wf_all w2) (s1 rfl).2
          obtain ⟨b, eb, lb⟩ := lift (q := q) (wf_all w3) (s2 rfl).2
          obtain ⟨c, ec, lc⟩ := lift (q := q) (wf_all w4) (s3 rfl).2
          replace la : a.length = lA.length := la
          replace lb : b.length = lB.length := lb
          replace lc : c.length = lC.length := lc
          have l1 := (s1 rfl).1
          have l2 := (s2 rfl).1
          have l3 := (s3 rfl).1
          rw [ea, eb, ec]
          exact l0_ev hq h0.1 h0.2 (by omega) a b c (by omega) (by omega) (by omega) lD (by omega) (fun d hd => wf_all (w5 d hd).2) t 0 (by omega) (fun j h hj => by omega)
end Go.Proofs.Ytjkggiemnfigbaa.productProofSound

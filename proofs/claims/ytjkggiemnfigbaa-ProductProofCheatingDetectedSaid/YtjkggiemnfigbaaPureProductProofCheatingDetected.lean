/- A proof of another value than the product fails the check at one of the points that are looked at: 2T+1 of them at least are left. -/
import Derived.Test.YtjkggiemnfigbaaSProductProofCheatingDetected
import Derived.Test.YtjkggiemnfigbaaFProd
namespace Go.Proofs.Ytjkggiemnfigbaa.productProofCheatingDetected
open Go.RowKit Go.Proofs.YtjkggiemnfigbaaW.PrintWords Go.Proofs.YtjkggiemnfigbaaW.PrintMore Go.Proofs.Ytjkggiemnfigbaa.PF Go.Proofs.Ytjkggiemnfigbaa.PQ Go.Proofs.Ytjkggiemnfigbaa.PR Go.Proofs.Ytjkggiemnfigbaa.PSC Go.Proofs.YtjkggiemnfigbaaNum Go.Proofs.Ytjkggiemnfigbaa.FEv Go.Proofs.Ytjkggiemnfigbaa.FPoly Go.Proofs.Ytjkggiemnfigbaa.X Go.Proofs.Ytjkggiemnfigbaa.FProd
theorem out (x1 : Int) (x2 : List Int) (p0 T : Int) (lA lB lC : List Int) (lD : List (List Int)) : Ev (fun k => privitylaw21_ProductProofCheatingDetected.j0 k x1 x2 true p0 T lA lB lC lD) true :=
  Ev.step (fun k => by rw [privitylaw21_ProductProofCheatingDetected.j0, if_pos rfl]) (Ev.bind awake_ev (Ev.now _))
theorem out2 (x2 : List Int) (x8 p0 T : Int) (lA lB lC : List Int) (lD : List (List Int)) : Ev (fun k => privitylaw21_ProductProofCheatingDetected.j2 k x2 x8 true p0 T lA lB lC lD) true :=
  Ev.step (fun k => by rw [privitylaw21_ProductProofCheatingDetected.j2, if_pos rfl]) (Ev.bind awake_ev (Ev.now _))
theorem one_drop (a : Int) : ∀ (L : List Nat), L.Nodup → L.length ≤ (L.filter (fun m : Nat => decide ((m : Int) ≠ a))).length + 1
  | [], _ => by simp
  | x :: L, h => by
    obtain ⟨h1, h2⟩ := List.nodup_cons.mp h
    by_cases e : (x : Int) = a
    · have : L.filter (fun m : Nat => decide ((m : Int) ≠ a)) = L := List.filter_eq_self.mpr (fun y hy => decide_eq_true (fun e2 => h1 (by
        have : x = y := by omega
        subst this
        exact hy)))
      rw [List.filter_cons_of_neg (by simpa using e), this]
      simp
    · rw [List.filter_cons_of_pos (by simpa using e)]
      have := one_drop a L h2
      simp only [List.length_cons]
      omega
theorem drop_count : ∀ (l : List Int) (L : List Nat), L.Nodup → L.length ≤ (L.filter (fun m : Nat => decide ((m : Int) ∉ l))).length + l.length
  | [], L, _ => by
    have : L.filter (fun m : Nat => decide ((m : Int) ∉ ([] : List Int))) = L := List.filter_eq_self.mpr (fun y hy => by simp)
    rw [this]
    exact Nat.le_refl _
  | a :: l, L, h => by
    have h1 := drop_count l (L.filter (fun m : Nat => decide ((m : Int) ≠ a))) (h.filter _)
    have h2 := one_drop a L h
    rw [List.filter_filter] at h1
    have e : L.filter (fun m : Nat => decide ((m : Int) ∉ a :: l)) = L.filter (fun m : Nat => decide ((m : Int) ∉ l) && decide ((m : Int) ≠ a)) := by
      refine List.filter_congr (fun x _ => ?_)
      rw [Bool.eq_iff_iff]
      simp only [List.mem_cons, not_or, Bool.and_eq_true, decide_eq_true_eq]
      exact ⟨fun h => ⟨h.2, h.1⟩, fun h => ⟨h.2, h.1⟩⟩
    rw [e]
    simp only [List.length_cons]
    omega
theorem V_el {q : Nat} [NeZero q] {n : Nat} (h : n < q) : V (el n : Fin q) = (n : Int) := by
  have := V_E_lt (p := q) (x := (n : Int)) (by omega) (by omega)
  unfold E at this
  rw [Int.toNat_natCast] at this
  exact this
theorem scan (l2 : List Int) (hl : ∀ x ∈ l2, 0 ≤ x ∧ x < 256) (hn : l2.length < 1000) (x8 x9 p0 T : Int) (lA lB lC : List Int) (lD : List (List Int)) (r : Bool) : ∀ (d i : Nat) (b : Bool), i + d = l2.length →
    Ev (fun k => privitylaw21_ProductProofCheatingDetected.l2 k l2 x8 x9 (b || decide (x9 ∈ l2.drop i)) (l2.length : Int) p0 T lA lB lC lD) r → Ev (fun k => privitylaw21_ProductProofCheatingDetected.l2 k l2 x8 x9 b (i : Int) p0 T lA lB lC lD) r
  | 0, i, b, hi, h => by
    have e : i = l2.length := by omega
    subst e
    rw [List.drop_length] at h
    simpa using h
  | d + 1, i, b, hi, h => by
    have h0 : i < l2.length := by omega
    rw [List.drop_eq_getElem_cons h0] at h
    have hv := hl _ (List.getElem_mem h0)
    cases b with
    | true =>
      refine Ev.step (fun k => by rw [privitylaw21_ProductProofCheatingDetected.l2, if_pos (by omega), if_pos rfl, wrap_in (n := (i : Int) + 1) (by omega) (by omega)]; rfl) (scan l2 hl hn x8 x9 p0 T lA lB lC lD r d (i + 1) true (by omega) ?_)
      simpa using h
    | false =>
      refine Ev.step (fun k => by rw [privitylaw21_ProductProofCheatingDetected.l2, if_pos (by omega), if_neg (by simp), if_pos (by omega), rd_nat _ _ h0, wrap_in (n := l2[i]) (by omega) (by omega), wrap_in (n := (i : Int) + 1) (by omega) (by omega)]; rfl) (scan l2 hl hn x8 x9 p0 T lA lB lC lD r d (i + 1) (l2[i] == x9) (by omega) ?_)
      have e : ((l2[i] == x9) || decide (x9 ∈ l2.drop (i + 1))) = (false || decide (x9 ∈ l2[i] :: l2.drop (i + 1))) := by
        rw [Bool.eq_iff_iff]
        simp only [Bool.false_or, List.mem_cons, Bool.or_eq_true, beq_iff_eq, decide_eq_true_eq]
        constructor
        · rintro (h | h)
          · exact .inl h.symm
          · exact .inr h
        · rintro (h | h)
          · exact .inl h.symm
          · exact .inr h
      rw [e]
      exact h
section
variable {q : Nat} [NeZero q]
theorem l1_ev (hq : Sup q) (l2 : List Int) (hl2 : ∀ x ∈ l2, 0 ≤ x ∧ x < 256) {t last : Nat} (t1 : 1 ≤ t) (t4 : t ≤ 4) (hlast : last < q) (h16 : last < 20) (hn : l2.length ≤ t) (h3 : 3 * t + 1 ≤ last) (a b c : List (Fin q)) (D : List (List (Fin q))) (la : a.length ≤ t + 1) (lb : b.length ≤ t + 1) (lc : c.length ≤ t + 1) (lD : D.length = t) (hrow : ∀ i, i < t → (rowN D i).length ≤ t + 1) (hno : peval c 0 ≠ peval a 0 * peval b 0) :
    ∀ (d n : Nat), n + d = last + 1 → 1 ≤ n → (∀ m, 1 ≤ m → m < n → (m : Int) ∉ l2 → peval a (el m : Fin q) * peval b (el m) - vsum (el m) t (fun i => peval (rowN D i) (el m)) = peval c (el m)) →
      Ev (fun k => privitylaw21_ProductProofCheatingDetected.l1 k l2 (last : Int) (n : Int) q t (a.map V) (b.map V) (c.map V) (VV D)) true
  | 0, n, hi, hn1, hj => by
    refine absurd (secret_of_values hq.pr la lb lc hrow (xs := ((List.range' 1 last).filter (fun m : Nat => decide ((m : Int) ∉ l2))).map (fun j => (el j : Fin q))) ?_ ?_ ?_) hno
    · refine List.pairwise_map.mpr (List.Pairwise.imp_of_mem ?_ ((List.nodup_range' (s := 1) (n := last)).filter _))
      intro x y hx hy hne e
      have hx := List.mem_range'_1.mp (List.mem_filter.mp hx).1
      have hy := List.mem_range'_1.mp (List.mem_filter.mp hy).1
      have h1 := V_el (q := q) (n := x) (by omega)
      have h2 := V_el (q := q) (n := y) (by omega)
      rw [e, h2] at h1
      omega
    · have := drop_count l2 (List.range' 1 last) List.nodup_range'
      rw [List.length_range'] at this
      rw [List.length_map]
      omega
    · intro x hx
      obtain ⟨j, hj1, rfl⟩ := List.mem_map.mp hx
      have h1 := List.mem_filter.mp hj1
      have h2 := List.mem_range'_1.mp h1.1
      exact hj j (by omega) (by omega) (of_decide_eq_true h1.2)
  | d + 1, n, hi, hn1, hj => by
    have hl := hq.le
    have ex := V_el (q := q) (n := n) (by omega)
    refine Ev.step (fun k => by rw [privitylaw21_ProductProofCheatingDetected.l1, if_pos (by omega)]) ?_
    refine scan l2 hl2 (by omega) _ _ _ _ _ _ _ _ _ l2.length 0 false (by omega) ?_
    rw [List.drop_zero, Bool.false_or]
    refine Ev.step (fun k => by rw [privitylaw21_ProductProofCheatingDetected.l2, if_neg (by omega), w64_in (n := (n : Int)) (by omega) (by omega), ← ex]) ?_
    have next := fun h => l1_ev hq l2 hl2 t1 t4 hlast h16 hn h3 a b c D la lb lc lD hrow hno d (n + 1) (by omega) (by omega) h
    by_cases hm : (n : Int) ∈ l2
    · refine Ev.pos (by rw [ex]; exact decide_eq_true hm) ?_
      rw [ex, wrap_in (n := (n : Int) + 1) (by omega) (by omega)]
      refine next (fun m h1 h2 h3 => ?_)
      by_cases e : m = n
      · subst e; exact absurd hm h3
      · exact hj m h1 (by omega) h3
    refine Ev.neg (by rw [ex]; simpa using hm) ?_
    refine Ev.bind (eval_ev hq a _ (by omega)) (Ev.bind (eval_ev hq b _ (by omega)) (Ev.bind (valuesAt_ev hq D _ (fun i hi => by have := hrow i (by omega); omega) (by omega)) (Ev.bind (eval_ev hq c _ (by omega)) ?_)))
    refine Ev.bind (check_ev hq _ _ _ _ D lD (by omega)) ?_
    by_cases hc : peval a (el n : Fin q) * peval b (el n) - vsum (el n) t (fun j => peval (rowN D j) (el n)) = peval c (el n)
    case neg => exact Ev.neg (by simpa using hc) (Ev.bind awake_ev (Ev.now _))
    refine Ev.pos (by simpa using hc) ?_
    rw [ex, wrap_in (n := (n : Int) + 1) (by omega) (by omega)]
    refine next (fun m h1 h2 h3 => ?_)
    by_cases e : m = n
    · subst e; exact hc
    · exact hj m h1 (by omega) h3
theorem l0_ev (hq : Sup q) {a1 : Int} (h0 : 0 ≤ a1) (h1 : a1 < 256) (l2 : List Int) (hl2 : ∀ x ∈ l2, 0 ≤ x ∧ x < 256) {t : Nat} (t1 : 1 ≤ t) (t4 : t ≤ 4) (a b c : List (Fin q)) (la : a.length ≤ t + 1) (lb : b.length ≤ t + 1) (lc : c.length ≤ t + 1) (lD : List (List Int)) (hn : lD.length = t) (hw : ∀ d ∈ lD, ∀ x ∈ d, 0 ≤ x) :
    ∀ (n i : Nat), i + n = t → (∀ j (h : j < lD.length), j < i → (lD[j].length : Int) ≤ t + 1 ∧ ∀ x ∈ lD[j], x < (q : Int)) → Ev (fun k => privitylaw21_ProductProofCheatingDetected.l0 k a1 l2 (i : Int) q t (a.map V) (b.map V) (c.map V) lD) true
  | 0, i, hi, hj => by
    have hl := hq.le
    have eD : VV (lD.map (fun d => (d.map (E : Int → Fin q)))) = lD := by
      unfold VV
      rw [List.map_map]
      conv => rhs; rw [← List.map_id lD]
      refine List.map_congr_left (fun d hd => ?_)
      obtain ⟨j, h, rfl⟩ := List.getElem_of_mem hd
      exact map_VE (fun x hx => ⟨hw _ hd x hx, (hj j h (by omega)).2 x hx⟩)
    obtain ⟨last, hlast⟩ : ∃ last : Nat, last = 3 * t + 1 + a1.toNat % 4 := ⟨_, rfl⟩
    have hneg : ¬ ((i : Int) < (t : Int)) := by omega
    have hw2 : IntKind.u64.wrap (last : Int) = (last : Int) := w64_in (by omega) (by omega)
    have z1 : -9223372036854775808 ≤ 3 * (t : Int) ∧ 3 * (t : Int) ≤ 9223372036854775807 ∧ -9223372036854775808 ≤ 3 * (t : Int) + 1 ∧ 3 * (t : Int) + 1 ≤ 9223372036854775807 ∧ -9223372036854775808 ≤ ((a1.toNat % 4 : Nat) : Int) ∧ ((a1.toNat % 4 : Nat) : Int) ≤ 9223372036854775807 ∧ -9223372036854775808 ≤ 3 * (t : Int) + 1 + ((a1.toNat % 4 : Nat) : Int) ∧ 3 * (t : Int) + 1 + ((a1.toNat % 4 : Nat) : Int) ≤ 9223372036854775807 ∧ 3 * (t : Int) + 1 + ((a1.toNat % 4 : Nat) : Int) = (last : Int) := by omega
    have e4 : a1 % 4 = ((a1.toNat % 4 : Nat) : Int) := by omega
    have ew : wrap64 ((wrap64 ((wrap64 (3 * (t : Int))) + 1)) + (wrap64 (Int.tmod a1 4))) = (last : Int) := by
      rw [Int.tmod_eq_emod_of_nonneg h0, e4, wrap_in z1.1 z1.2.1, wrap_in z1.2.2.1 z1.2.2.2.1, wrap_in z1.2.2.2.2.1 z1.2.2.2.2.2.1, wrap_in z1.2.2.2.2.2.2.1 z1.2.2.2.2.2.2.2.1]
      exact z1.2.2.2.2.2.2.2.2
    refine Ev.step (fun k => by rw [privitylaw21_ProductProofCheatingDetected.l0, if_neg hneg, ew, hw2]) ?_
    clear ew hw2 z1 e4
    by_cases c1 : (last : Int) ≥ (q : Int)
    · exact Ev.pos c1 (out2 ..)
    refine Ev.neg c1 ?_
    by_cases c2 : (l2.length : Int) > (t : Int)
    · exact Ev.pos c2 (out2 ..)
    refine Ev.neg c2 ?_
    have e0 : (0 : Int) = V (0 : Fin q) := rfl
    rw [e0]
    refine Ev.bind (eval_ev hq c _ (by omega)) (Ev.bind (eval_ev hq a _ (by omega)) (Ev.bind (eval_ev hq b _ (by omega)) (Ev.bind (mul_ev hq _ _) ?_)))
    by_cases hs : peval c 0 = peval a 0 * peval b 0
    · have : (V (peval c 0) == V (peval a 0 * peval b 0)) = true := by rw [hs]; simp
      rw [this]
      exact out2 ..
    have : (V (peval c 0) == V (peval a 0 * peval b 0)) = false := by
      have : V (peval c 0) ≠ V (peval a 0 * peval b 0) := fun h => hs (V_inj.1 h)
      simpa using this
    rw [this, ← eD]
    refine Ev.step (fun k => by rw [privitylaw21_ProductProofCheatingDetected.j2, if_neg (by simp)]) ?_
    refine l1_ev hq l2 hl2 t1 t4 (by omega) (by omega) (by omega) (by omega) a b c _ la lb lc (by rw [List.length_map]; exact hn) (fun i hi => ?_) hs last 1 (by omega) (by omega) (fun m h1 h2 => by omega)
    unfold rowN
    have hi2 : i < lD.length := by omega
    rw [List.getD_eq_getElem?_getD, List.getElem?_map, List.getElem?_eq_getElem hi2]
    show (lD[i].map E).length ≤ _
    rw [List.length_map]
    have := (hj i hi2 (by omega)).1
    omega
  | n + 1, i, hi, hj => by
    have hi2 : i < lD.length := by omega
    have er : PSC.rd_L2 lD (i : Int) = lD[i] := by
      unfold PSC.rd_L2
      rw [Int.toNat_natCast, List.getD_eq_getElem?_getD, List.getElem?_eq_getElem hi2]; rfl
    refine Ev.step (fun k => by rw [privitylaw21_ProductProofCheatingDetected.l0, if_pos (by omega), if_pos (by omega), if_pos (by omega), er, wrap_in (n := (t : Int) + 1) (by omega) (by omega), wrap_in (n := (i : Int) + 1) (by omega) (by omega)]) ?_
    obtain ⟨r, e1, s1⟩ := below_ev (q : Int) lD[i] ((t : Int) + 1) (by omega) (by omega)
    refine Ev.bind e1 ?_
    cases r with
    | false => exact Ev.neg (by simp) (Ev.bind awake_ev (Ev.now _))
    | true =>
      refine Ev.pos rfl ?_
      exact l0_ev hq h0 h1 l2 hl2 t1 t4 a b c la lb lc lD hn hw n (i + 1) (by omega) (fun j h hj2 => by
        by_cases e : j = i
        · subst e; exact s1 rfl
        · exact hj j h (by omega))
end
theorem wf_u8 {n : Int} (h : (Lit.int .u8 n).wf = true) : 0 ≤ n ∧ n < 256 := by
  simp [Lit.wf, IntKind.min, IntKind.max, IntKind.bits, IntKind.signed] at h
  omega
theorem Pure.proved : Pure := by
  intro x0 a1 l2 hx ha1 hl2
  obtain ⟨p0, T, lA, lB, lC, lD⟩ := x0
  obtain ⟨w0, w1, ⟨_, w2⟩, ⟨_, w3⟩, ⟨_, w4⟩, ⟨_, w5⟩⟩ := hx
  refine Ev.rounds ?_
  unfold privitylaw21_ProductProofCheatingDetected.f
  have h0 := wf_u8 ha1
  have hl8 : ∀ x ∈ l2, 0 ≤ x ∧ x < 256 := fun x hx => wf_u8 (hl2.2 x hx)
  obtain ⟨r0, e0, s0⟩ := sup_ev p0
  refine Ev.bind e0 ?_
  cases r0 with
  | false => exact Ev.neg (by simp) (out ..)
  | true =>
    obtain ⟨q, hq, e⟩ := s0 rfl
    subst e
    refine Ev.pos rfl ?_
    by_cases c1 : T < 1
    · exact Ev.pos c1 (out ..)
    refine Ev.neg c1 ?_
    by_cases c2 : T > 4
    · exact Ev.pos c2 (out ..)
    refine Ev.neg c2 ?_
    obtain ⟨t, rfl⟩ : ∃ t : Nat, T = (t : Int) := ⟨T.toNat, by omega⟩
    have hz := hq.ne
    rw [wrap_in (n := (t : Int) + 1) (by omega) (by omega)]
    obtain ⟨r1, e1, s1⟩ := below_ev (q : Int) lA ((t : Int) + 1) (by omega) (by omega)
    obtain ⟨r2, e2, s2⟩ := below_ev (q : Int) lB ((t : Int) + 1) (by omega) (by omega)
    obtain ⟨r3, e3, s3⟩ := below_ev (q : Int) lC ((t : Int) + 1) (by omega) (by omega)
    refine Ev.bind e1 ?_
    cases r1 with
    | false => exact Ev.neg (by simp) (out ..)
    | true =>
      refine Ev.pos rfl (Ev.bind e2 ?_)
      cases r2 with
      | false => exact Ev.neg (by simp) (out ..)
      | true =>
        refine Ev.pos rfl (Ev.bind e3 ?_)
        cases r3 with
        | false => exact Ev.neg (by simp) (out ..)
        | true =>
          refine Ev.pos rfl ?_
          by_cases c4 : (lD.length : Int) = (t : Int)
          case neg =>
            have : ((lD.length : Int) != (t : Int)) = true := by simpa using c4
            rw [this]
            exact out ..
          have : ((lD.length : Int) != (t : Int)) = false := by simpa using c4
          rw [this]
          refine Ev.step (fun k => by rw [privitylaw21_ProductProofCheatingDetected.j0, if_neg (by simp)]) ?_
          obtain ⟨a, ea, la⟩ := lift (q := q) (wf_all w2) (s1 rfl).2
          obtain ⟨b, eb, lb⟩ := lift (q := q) (wf_all w3) (s2 rfl).2
          obtain ⟨c, ec, lc⟩ := lift (q := q) (wf_all w4) (s3 rfl).2
          replace la : a.length = lA.length := la
          replace lb : b.length = lB.length := lb
          replace lc : c.length = lC.length := lc
          have l1 := (s1 rfl).1
          have l2' := (s2 rfl).1
          have l3 := (s3 rfl).1
          rw [ea, eb, ec]
          exact l0_ev hq h0.1 h0.2 l2 hl8 (by omega) (by omega) a b c (by omega) (by omega) (by omega) lD (by omega) (fun d hd => wf_all (w5 d hd).2) t 0 (by omega) (fun j h hj => by omega)
end Go.Proofs.Ytjkggiemnfigbaa.productProofCheatingDetected

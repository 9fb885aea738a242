/- The proof that a polynomial shares a product: what it is over Fin p, that it holds, that it is the only one. No Go, no program. -/
import Derived.Test.YtjkggiemnfigbaaPoly
namespace Go.Proofs.YtjkggiemnfigbaaNum
section
variable {p : Nat} [NeZero p]

/-- The k-th row: t free coefficients and the coefficient that is to be removed. -/
def prow (t : Nat) (r : List (Fin p)) (k : Nat) (left : List (Fin p)) : List (Fin p) := (r.drop ((k - 1) * t)).take t ++ [cf left (k + t)]
/-- left - x^k f. -/
def pcut (left f : List (Fin p)) (k : Nat) : List (Fin p) := (List.range left.length).map fun j => cf left j - if k ≤ j then cf f (j - k) else 0
/-- What is left after n rounds. -/
def pleft (t : Nat) (r L : List (Fin p)) : Nat → List (Fin p)
  | 0 => L
  | n + 1 => pcut (pleft t r L n) (prow t r (t - n) (pleft t r L n)) (t - n)
def pD (t : Nat) (r L : List (Fin p)) : List (List (Fin p)) := (List.range t).map fun i => prow t r (i + 1) (pleft t r L (t - 1 - i))
def pC (t : Nat) (r L : List (Fin p)) : List (Fin p) := (pleft t r L t).take (t + 1)
/-- The product's coefficients, 2t + 1 of them. -/
def pL (t : Nat) (a b : List (Fin p)) : List (Fin p) := (List.range (2 * t + 1)).map (cf (pmul a b))

theorem cf_append (a b : List (Fin p)) (j : Nat) : cf (a ++ b) j = if j < a.length then cf a j else cf b (j - a.length) := by
  unfold cf
  rw [List.getD_eq_getElem?_getD, List.getD_eq_getElem?_getD, List.getD_eq_getElem?_getD]
  by_cases h : j < a.length
  · rw [if_pos h, List.getElem?_append_left h]
  · rw [if_neg h, List.getElem?_append_right (by omega)]
theorem cf_takeN (a : List (Fin p)) (n j : Nat) : cf (a.take n) j = if j < n then cf a j else 0 := by
  unfold cf
  rw [List.getD_eq_getElem?_getD, List.getD_eq_getElem?_getD, List.getElem?_take]
  by_cases h : j < n
  · rw [if_pos h, if_pos h]
  · rw [if_neg h, if_neg h]; rfl
theorem cf_drop (a : List (Fin p)) (n j : Nat) : cf (a.drop n) j = cf a (n + j) := by
  unfold cf
  rw [List.getD_eq_getElem?_getD, List.getD_eq_getElem?_getD, List.getElem?_drop]
theorem cf_single (a : Fin p) (j : Nat) : cf [a] j = if j = 0 then a else 0 := by
  cases j with
  | zero => rw [cf_cons_zero, if_pos rfl]
  | succ j => rw [cf_cons_succ, cf_nil, if_neg (by omega)]
theorem prow_len {t : Nat} {r : List (Fin p)} {k : Nat} (left : List (Fin p)) (hk : 1 ≤ k) (hr : k * t ≤ r.length) : (prow t r k left).length = t + 1 := by
  unfold prow
  have : k * t = (k - 1) * t + t := by obtain ⟨m, rfl⟩ : ∃ m, k = m + 1 := ⟨k - 1, by omega⟩; rw [Nat.add_sub_cancel, Nat.succ_mul]
  rw [List.length_append, List.length_take, List.length_drop, List.length_singleton, Nat.min_eq_left (by omega)]
theorem cf_prow {t : Nat} {r : List (Fin p)} {k : Nat} (left : List (Fin p)) (hk : 1 ≤ k) (hr : k * t ≤ r.length) (i : Nat) : cf (prow t r k left) i = if i < t then cf r ((k - 1) * t + i) else if i = t then cf left (k + t) else 0 := by
  unfold prow
  have : k * t = (k - 1) * t + t := by obtain ⟨m, rfl⟩ : ∃ m, k = m + 1 := ⟨k - 1, by omega⟩; rw [Nat.add_sub_cancel, Nat.succ_mul]
  have hl : ((r.drop ((k - 1) * t)).take t).length = t := by rw [List.length_take, List.length_drop, Nat.min_eq_left (by omega)]
  rw [cf_append, hl, cf_takeN, cf_drop, cf_single]
  by_cases h : i < t
  · rw [if_pos h, if_pos h, if_pos h]
  · rw [if_neg h, if_neg h]
    by_cases h2 : i = t
    · rw [if_pos (by omega), if_pos h2]
    · rw [if_neg (by omega), if_neg h2]
theorem pcut_len (left f : List (Fin p)) (k : Nat) : (pcut left f k).length = left.length := by unfold pcut; rw [List.length_map, List.length_range]
theorem pleft_len (t : Nat) (r L : List (Fin p)) (n : Nat) : (pleft t r L n).length = L.length := by
  induction n with
  | zero => rfl
  | succ n ih => rw [pleft, pcut_len, ih]
theorem cf_pcut (left f : List (Fin p)) (k j : Nat) : cf (pcut left f k) j = if j < left.length then cf left j - (if k ≤ j then cf f (j - k) else 0) else 0 := by
  unfold pcut
  rw [cf_map_range]
omit [NeZero p] in
theorem sq_le {t k : Nat} {r : List (Fin p)} (hr : t * t ≤ r.length) (hk : k ≤ t) : k * t ≤ r.length := Nat.le_trans (Nat.mul_le_mul_right t hk) hr
/-- The coefficients beyond 2t - n are removed after n rounds. -/
theorem pleft_top {t : Nat} {r L : List (Fin p)} (hr : t * t ≤ r.length) (hL : L.length = 2 * t + 1) (n : Nat) (hn : n ≤ t) : ∀ j, 2 * t - n < j → cf (pleft t r L n) j = 0 := by
  induction n with
  | zero => intro j hj; rw [pleft]; exact cf_ge (by omega)
  | succ n ih =>
    intro j hj
    rw [pleft, cf_pcut, pleft_len, hL]
    have hk : 1 ≤ t - n := by omega
    by_cases h1 : j < 2 * t + 1
    · rw [if_pos h1, if_pos (by omega), cf_prow _ hk (sq_le hr (by omega)), if_neg (by omega)]
      by_cases h2 : j - (t - n) = t
      · rw [if_pos h2, show t - n + t = j by omega]; grind
      · rw [if_neg h2, ih (by omega) j (by omega)]; grind
    · rw [if_neg h1]
/-- One row's part of a coefficient. -/
def part (f : List (Fin p)) (k j : Nat) : Fin p := if k ≤ j then cf f (j - k) else 0
def rowN (D : List (List (Fin p))) (i : Nat) : List (Fin p) := D.getD i []
/-- The sum of all rows' parts. -/
def comb (t : Nat) (D : List (List (Fin p))) (j : Nat) : Fin p := sumF t (fun i => part (rowN D i) (i + 1) j)
theorem pleft_sum {t : Nat} {r L : List (Fin p)} (n : Nat) : ∀ j, j < L.length → cf (pleft t r L n) j = cf L j - sumF n (fun m => part (prow t r (t - m) (pleft t r L m)) (t - m) j) := by
  induction n with
  | zero => intro j _; show cf L j = cf L j - 0; grind
  | succ n ih =>
    intro j hj
    rw [pleft, cf_pcut, pleft_len, if_pos hj, ih j hj]
    show _ = cf L j - (sumF n _ + part (prow t r (t - n) (pleft t r L n)) (t - n) j)
    unfold part
    grind
theorem rowN_pD {t : Nat} {r L : List (Fin p)} {i : Nat} (hi : i < t) : rowN (pD t r L) i = prow t r (i + 1) (pleft t r L (t - 1 - i)) := by
  unfold rowN pD
  rw [List.getD_eq_getElem?_getD, List.getElem?_map, List.getElem?_range hi]
  rfl
theorem comb_pD {t : Nat} {r L : List (Fin p)} (j : Nat) : comb t (pD t r L) j = sumF t (fun m => part (prow t r (t - m) (pleft t r L m)) (t - m) j) := by
  unfold comb
  rw [sumF_rev t (fun m => part (prow t r (t - m) (pleft t r L m)) (t - m) j)]
  refine sumF_congr (fun i hi => ?_)
  rw [rowN_pD hi, show t - (t - 1 - i) = i + 1 by omega]
theorem pC_len {t : Nat} {r L : List (Fin p)} (hL : L.length = 2 * t + 1) : (pC t r L).length = t + 1 := by
  unfold pC
  rw [List.length_take, pleft_len, hL]; omega
theorem cf_pC {t : Nat} {r L : List (Fin p)} (hr : t * t ≤ r.length) (hL : L.length = 2 * t + 1) (j : Nat) : cf (pC t r L) j = cf (pleft t r L t) j := by
  unfold pC
  rw [cf_takeN]
  by_cases h : j < t + 1
  · rw [if_pos h]
  · rw [if_neg h, pleft_top hr hL t (Nat.le_refl _) j (by omega)]
theorem comb_ge {t : Nat} {D : List (List (Fin p))} (hD : ∀ i, i < t → (rowN D i).length ≤ t + 1) {j : Nat} (hj : 2 * t < j) : comb t D j = 0 := by
  unfold comb
  rw [sumF_congr (g := fun _ => 0) (fun i hi => by
    unfold part
    rw [if_pos (by omega), cf_ge (by have := hD i hi; omega)]), sumF_zero]
theorem pD_len {t : Nat} {r L : List (Fin p)} : (pD t r L).length = t := by unfold pD; rw [List.length_map, List.length_range]
theorem pD_row {t : Nat} {r L : List (Fin p)} (hr : t * t ≤ r.length) {i : Nat} (hi : i < t) : (rowN (pD t r L) i).length = t + 1 := by
  rw [rowN_pD hi]
  exact prow_len _ (by omega) (sq_le hr (by omega))
/-- The rows and the rest make up the product. -/
theorem prove_holds {t : Nat} {r L : List (Fin p)} (hr : t * t ≤ r.length) (hL : L.length = 2 * t + 1) (j : Nat) : cf L j = cf (pC t r L) j + comb t (pD t r L) j := by
  rcases Nat.lt_or_ge (2 * t) j with h | h
  · rw [cf_ge (by omega), cf_ge (by rw [pC_len hL]; omega), comb_ge (fun i hi => by rw [pD_row hr hi]; omega) h]; grind
  · rw [cf_pC hr hL, comb_pD, pleft_sum t j (by omega)]; grind
theorem sumF_split {m n : Nat} (hmn : m ≤ n) (f : Nat → Fin p) : sumF n f = sumF m f + sumF (n - m) (fun i => f (m + i)) := by
  induction n with
  | zero => have : m = 0 := by omega
            subst this; show (0 : Fin p) = 0 + 0; grind
  | succ n ih =>
    rcases Nat.lt_or_ge n m with h | h
    · have : m = n + 1 := by omega
      subst this
      rw [Nat.sub_self]; show _ = _ + (0 : Fin p); grind
    · rw [show n + 1 - m = (n - m) + 1 by omega]
      show sumF n f + f n = sumF m f + (sumF (n - m) _ + f (m + (n - m)))
      rw [ih h, show m + (n - m) = n by omega]; grind
/-- No other rows with the same free coefficients, and no other rest, do so. -/
theorem prove_unique {t : Nat} {r L C : List (Fin p)} {D : List (List (Fin p))} (hr : t * t ≤ r.length) (hL : L.length = 2 * t + 1) (hD : D.length = t) (hC : C.length = t + 1) (hrow : ∀ i, i < t → (rowN D i).length = t + 1)
    (hlow : ∀ i, i < t → ∀ m, m < t → cf (rowN D i) m = cf r (i * t + m)) (h : ∀ j, cf L j = cf C j + comb t D j) : D = pD t r L ∧ C = pC t r L := by
  have key : ∀ n, n ≤ t → ∀ m, m < n → rowN D (t - 1 - m) = prow t r (t - m) (pleft t r L m) := by
    intro n
    induction n with
    | zero => intro _ m hm; omega
    | succ n ih =>
      intro hn m hm
      rcases Nat.lt_or_ge m n with h1 | h1
      · exact ih (by omega) m h1
      have e : m = n := by omega
      subst e
      have hlt : t - 1 - m < t := by omega
      apply cf_ext
      · rw [hrow _ hlt, prow_len _ (by omega) (sq_le hr (by omega))]
      intro i
      rw [cf_prow _ (by omega) (sq_le hr (by omega))]
      by_cases h2 : i < t
      · rw [if_pos h2, hlow _ hlt i h2, show t - m - 1 = t - 1 - m by omega]
      · rw [if_neg h2]
        by_cases h3 : i = t
        · subst h3
          rw [if_pos rfl, pleft_sum m _ (by omega), h, cf_ge (l := C) (by omega)]
          unfold comb
          rw [sumF_rev, sumF_split (m := m + 1) (by omega)]
          have z : sumF (i - (m + 1)) (fun k => part (rowN D (i - 1 - (m + 1 + k))) (i - 1 - (m + 1 + k) + 1) (i - m + i)) = 0 := by
            rw [sumF_congr (g := fun _ => 0) (fun k hk => by
              unfold part
              rw [if_pos (by omega), cf_ge (by rw [hrow _ (by omega)]; omega)]), sumF_zero]
          rw [z]
          show _ = 0 + (sumF m (fun k => part (rowN D (i - 1 - k)) (i - 1 - k + 1) (i - m + i)) + part (rowN D (i - 1 - m)) (i - 1 - m + 1) (i - m + i) + 0) - _
          rw [sumF_congr (g := fun k => part (prow i r (i - k) (pleft i r L k)) (i - k) (i - m + i)) (fun k hk => by rw [ih (by omega) k hk, show i - 1 - k + 1 = i - k by omega])]
          have e2 : part (rowN D (i - 1 - m)) (i - 1 - m + 1) (i - m + i) = cf (rowN D (i - 1 - m)) i := by
            unfold part
            rw [if_pos (by omega), show i - m + i - (i - 1 - m + 1) = i by omega]
          rw [e2]
          grind
        · rw [if_neg h3]
          exact cf_ge (by rw [hrow _ hlt]; omega)
  have hDD : D = pD t r L := by
    apply List.ext_getElem (by rw [hD, pD_len])
    intro i h1 h2
    have h3 : i < t := by omega
    have e1 : rowN D i = D[i] := by unfold rowN; rw [List.getD_eq_getElem?_getD, List.getElem?_eq_getElem h1]; rfl
    have e2 : rowN (pD t r L) i = (pD t r L)[i] := by unfold rowN; rw [List.getD_eq_getElem?_getD, List.getElem?_eq_getElem h2]; rfl
    rw [← e1, ← e2, rowN_pD h3]
    have := key t (Nat.le_refl _) (t - 1 - i) (by omega)
    rw [show t - 1 - (t - 1 - i) = i by omega, show t - (t - 1 - i) = i + 1 by omega] at this
    exact this
  refine ⟨hDD, cf_ext (by rw [hC, pC_len hL]) (fun j => ?_)⟩
  have h1 := h j
  have h2 := prove_holds hr hL j
  rw [hDD] at h1
  grind
/-! ### Values -/
/-- The sum that Verify takes off. -/
def vsum (x : Fin p) (n : Nat) (d : Nat → Fin p) : Fin p := sumF n (fun i => x ^ (i + 1) * d i)
theorem peval_list (n : Nat) (f : Nat → Fin p) (x : Fin p) : peval ((List.range n).map f) x = evF n f x := by
  unfold peval
  rw [List.length_map, List.length_range]
  exact evF_congr x (fun i hi => by rw [cf_map_range, if_pos hi])
theorem evF_part {n t k : Nat} {f : List (Fin p)} (x : Fin p) (hf : f.length ≤ t + 1) (hn : k + t < n) : evF n (part f k) x = x ^ k * peval f x := by
  rw [← peval_eq f x hf]
  unfold evF
  rw [sumF_split (m := k) (by omega)]
  have z : sumF k (fun i => part f k i * x ^ i) = 0 := by
    rw [sumF_congr (g := fun _ => 0) (fun i hi => by unfold part; rw [if_neg (by omega)]; grind), sumF_zero]
  rw [z, ← sumF_mul]
  rw [sumF_ext (m := t + 1) (n := n - k) (by omega) (fun i h1 h2 => by unfold part; rw [if_pos (by omega), cf_ge (by omega)]; grind)]
  rw [sumF_congr (g := fun i => x ^ k * (cf f i * x ^ i)) (fun i hi => by
    unfold part
    rw [if_pos (by omega), show k + i - k = i by omega, pw_add]; grind)]
  grind
theorem evF_comb {n t : Nat} {D : List (List (Fin p))} (x : Fin p) (hD : ∀ i, i < t → (rowN D i).length ≤ t + 1) (hn : 2 * t < n) : evF n (comb t D) x = vsum x t (fun i => peval (rowN D i) x) := by
  unfold evF comb
  rw [sumF_congr (g := fun j => sumF t (fun i => part (rowN D i) (i + 1) j * x ^ j)) (fun j _ => by rw [sumF_mulr])]
  rw [sumF_comm]
  unfold vsum
  refine sumF_congr (fun i hi => ?_)
  exact evF_part x (hD i hi) (by omega)
/-- The right side as one list. -/
def pR (t : Nat) (C : List (Fin p)) (D : List (List (Fin p))) : List (Fin p) := (List.range (2 * t + 1)).map (fun j => cf C j + comb t D j)
theorem peval_pR {t : Nat} {C : List (Fin p)} {D : List (List (Fin p))} (x : Fin p) (hC : C.length ≤ t + 1) (hD : ∀ i, i < t → (rowN D i).length ≤ t + 1) : peval (pR t C D) x = peval C x + vsum x t (fun i => peval (rowN D i) x) := by
  unfold pR
  rw [peval_list, evF_add, evF_comb x hD (by omega), peval_eq C x (by omega)]
theorem cf_pR {t : Nat} {C : List (Fin p)} {D : List (List (Fin p))} (hC : C.length ≤ t + 1) (hD : ∀ i, i < t → (rowN D i).length ≤ t + 1) (j : Nat) : cf (pR t C D) j = cf C j + comb t D j := by
  unfold pR
  rw [cf_map_range]
  by_cases h : j < 2 * t + 1
  · rw [if_pos h]
  · rw [if_neg h, cf_ge (by omega), comb_ge hD (by omega)]; grind
theorem pL_len (t : Nat) (a b : List (Fin p)) : (pL t a b).length = 2 * t + 1 := by unfold pL; rw [List.length_map, List.length_range]
theorem cf_pL {t : Nat} {a b : List (Fin p)} (ha : a.length ≤ t + 1) (hb : b.length ≤ t + 1) (j : Nat) : cf (pL t a b) j = cf (pmul a b) j := by
  unfold pL
  rw [cf_map_range]
  by_cases h : j < 2 * t + 1
  · rw [if_pos h]
  · rw [if_neg h, cf_ge (by have := pmul_len a b; omega)]
theorem pmul_len2 {t : Nat} {a b : List (Fin p)} (ha : a.length ≤ t + 1) (hb : b.length ≤ t + 1) : (pmul a b).length ≤ 2 * t + 1 := by
  have := pmul_len a b; omega
/-- The check holds at every point where the coefficients agree. -/
theorem values_of {t : Nat} {a b C : List (Fin p)} {D : List (List (Fin p))} (hC : C.length ≤ t + 1) (hD : ∀ i, i < t → (rowN D i).length ≤ t + 1) (h : ∀ j, cf (pmul a b) j = cf C j + comb t D j) (x : Fin p) :
    peval a x * peval b x - vsum x t (fun i => peval (rowN D i) x) = peval C x := by
  have e : peval (pmul a b) x = peval (pR t C D) x := by
    rw [← peval_ptrim (pmul a b), ← peval_ptrim (pR t C D), ptrim_congr (l := pmul a b) (l' := pR t C D) (fun i => (h i).trans (cf_pR hC hD i).symm)]
  rw [peval_pR x hC hD, peval_pmul] at e
  grind
/-- The check at enough points makes the coefficients agree. -/
theorem of_values (hp : IsPr p) {t : Nat} {a b C : List (Fin p)} {D : List (List (Fin p))} (ha : a.length ≤ t + 1) (hb : b.length ≤ t + 1) (hC : C.length ≤ t + 1) (hD : ∀ i, i < t → (rowN D i).length ≤ t + 1) {xs : List (Fin p)} (hnd : xs.Nodup) (hn : 2 * t + 1 ≤ xs.length)
    (h : ∀ x ∈ xs, peval a x * peval b x - vsum x t (fun i => peval (rowN D i) x) = peval C x) (j : Nat) : cf (pmul a b) j = cf C j + comb t D j := by
  rw [← cf_pR hC hD]
  refine eq_of_values hp (pmul_len2 ha hb) (by unfold pR; rw [List.length_map, List.length_range]; exact Nat.le_refl _) hnd hn (fun x hx => ?_) j
  rw [peval_pR x hC hD, peval_pmul]
  have := h x hx
  grind
theorem pow_zero_succ (n : Nat) : (0 : Fin p) ^ (n + 1) = 0 := by rw [pw_succ]; grind
theorem vsum_zero (n : Nat) (d : Nat → Fin p) : vsum 0 n d = 0 := by
  unfold vsum
  rw [sumF_congr (g := fun _ => 0) (fun i _ => by rw [pow_zero_succ]; grind), sumF_zero]
/-- So the values at 0 agree. -/
theorem secret_of_values (hp : IsPr p) {t : Nat} {a b C : List (Fin p)} {D : List (List (Fin p))} (ha : a.length ≤ t + 1) (hb : b.length ≤ t + 1) (hC : C.length ≤ t + 1) (hD : ∀ i, i < t → (rowN D i).length ≤ t + 1) {xs : List (Fin p)} (hnd : xs.Nodup) (hn : 2 * t + 1 ≤ xs.length)
    (h : ∀ x ∈ xs, peval a x * peval b x - vsum x t (fun i => peval (rowN D i) x) = peval C x) : peval C 0 = peval a 0 * peval b 0 := by
  have := values_of hC hD (of_values hp ha hb hC hD hnd hn h) 0
  rw [vsum_zero] at this
  grind
end
end Go.Proofs.YtjkggiemnfigbaaNum

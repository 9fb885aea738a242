/- What the printed DivMod comes to: the division of polynomials. -/
import Derived.Test.YtjkggiemnfigbaaFPoly
namespace Go.Proofs.Ytjkggiemnfigbaa.FPoly
open Go.RowKit Go.Proofs.YtjkggiemnfigbaaW.PrintWords Go.Proofs.YtjkggiemnfigbaaW.PrintMore Go.Proofs.Ytjkggiemnfigbaa.PF Go.Proofs.Ytjkggiemnfigbaa.PQ Go.Proofs.YtjkggiemnfigbaaNum Go.Proofs.Ytjkggiemnfigbaa.FEv
variable {q : Nat}
theorem conv_delta [NeZero q] (f g : Nat → Fin q) (n j : Nat) (c : Fin q) : conv (fun i => f i + if i = n then c else 0) g j = conv f g j + if n ≤ j then c * g (j - n) else 0 := by
  rw [conv_addl]
  congr 1
  unfold conv
  by_cases h : n ≤ j
  · rw [sumF_one (j := n) (by omega) (fun i _ hi => by show (if i = n then c else 0) * _ = 0; rw [if_neg hi]; grind), if_pos h]
    show (if n = n then c else 0) * g (j - n) = _
    rw [if_pos rfl]
  · rw [if_neg h, sumF_ext (m := 0) (Nat.zero_le _) (fun i _ hi => by show (if i = n then c else 0) * _ = 0; rw [if_neg (by omega)]; grind)]
    rfl
theorem cf_set [NeZero q] (l : List (Fin q)) (n j : Nat) (c : Fin q) (h : n < l.length) : cf (l.set n c) j = if j = n then c else cf l j := by
  unfold cf
  rw [List.getD_eq_getElem?_getD, List.getD_eq_getElem?_getD, List.getElem?_set]
  by_cases e : n = j
  · subst e
    rw [if_pos rfl, if_pos h, if_pos rfl]
    rfl
  · rw [if_neg e, if_neg (fun h => e h.symm)]
theorem len_map {l : List (Fin q)} : (l.map V).length = l.length := List.length_map ..
theorem div_l1 [NeZero q] (hq : Sup q) {b : List (Fin q)} (quot : List Int) (inv : Int) (at_ : Nat) (c : Fin q) {α : Type} (_ : α) (r : List Int × List Int × Int) : ∀ (d i : Nat) (rest : List (Fin q)), i + d = b.length → at_ + b.length = rest.length → rest.length < 1099511627776 →
    (∀ rest' : List (Fin q), rest'.length = rest.length → (∀ j, cf rest' j = cf rest j - if at_ ≤ j ∧ i ≤ j - at_ then c * cf b (j - at_) else 0) → Ev (fun k => (poly_Trim.f k (rest'.map V)).bind fun t => poly_DivMod.l0 k q (b.map V) inv t quot) r) →
    Ev (fun k => poly_DivMod.l1 k q (b.map V) inv (rest.map V) quot (at_ : Int) (V c) (b.map V) ((b.map V).length : Int) (i : Int)) r
  | 0, i, rest, hi, hl, hr, h => by
    refine Ev.step (fun k => by rw [poly_DivMod.l1, if_neg (by rw [len_map]; omega)]) ?_
    refine h rest rfl (fun j => ?_)
    by_cases c1 : at_ ≤ j ∧ i ≤ j - at_
    · rw [if_pos c1, cf_ge (l := b) (by omega)]; grind
    · rw [if_neg c1]; grind
  | d + 1, i, rest, hi, hl, hr, h => by
    have e : wrap64 ((at_ : Int) + (i : Int)) = ((at_ + i : Nat) : Int) := by rw [wrap_in (by omega) (by omega)]; omega
    refine Ev.step (fun k => by
      rw [poly_DivMod.l1, if_pos (by rw [len_map]; omega), if_pos (by omega), if_pos (by rw [len_map]; omega), e, if_pos (by omega), if_pos (by rw [len_map]; omega), rd_map, rd_map]) ?_
    refine Ev.bind (mul_ev hq _ _) (Ev.bind (sub_ev hq _ _) ?_)
    rw [wrap_in (by omega) (by omega), Int.toNat_natCast, ← List.map_set]
    refine div_l1 hq quot inv at_ c () r d (i + 1) (rest.set (at_ + i) (cf rest (at_ + i) - c * cf b i)) (by omega) (by rw [List.length_set]; exact hl) (by rw [List.length_set]; exact hr) (fun rest' h1 h2 => ?_)
    refine h rest' (by rw [h1, List.length_set]) (fun j => ?_)
    rw [h2 j, cf_set _ _ _ _ (by omega)]
    by_cases c1 : j = at_ + i
    · rw [c1, if_pos rfl, if_neg (by omega), if_pos (by omega), show at_ + i - at_ = i by omega]; grind
    · rw [if_neg c1]
      by_cases c2 : at_ ≤ j ∧ i ≤ j - at_
      · rw [if_pos c2, if_pos (by omega)]
      · rw [if_neg c2, if_neg (by omega)]
theorem div_l0 [NeZero q] (hq : Sup q) {b : List (Fin q)} (hb0 : b ≠ []) (v : Fin q) (hv : v * cf b (b.length - 1) = 1) (a : List (Fin q)) : ∀ (n : Nat) (rest quot : List (Fin q)), rest.length ≤ n → Tr rest → rest.length < 1099511627776 → quot.length < 1099511627776 →
    (b.length ≤ rest.length → rest.length - b.length < quot.length) → (∀ j, j + b.length ≤ rest.length → cf quot j = 0) → (∀ i, cf a i = conv (cf quot) (cf b) i + cf rest i) →
    ∃ Q R, IsDiv a b Q R ∧ Ev (fun k => poly_DivMod.l0 k q (b.map V) (V v) (rest.map V) (quot.map V)) (Q.map V, R.map V, 0) := by
  have hbl : 0 < b.length := List.length_pos_iff.mpr hb0
  intro n
  induction n with
  | zero =>
    intro rest quot h0 ht hr hqu _ _ he
    refine ⟨ptrim quot, rest, ⟨tr_ptrim _, ht, by omega, fun i => ?_⟩, ?_⟩
    · rw [he i, conv_congr (fun i _ => cf_ptrim quot i) (fun _ _ => rfl)]
    · refine Ev.step (fun k => by rw [poly_DivMod.l0, if_neg (by rw [len_map, len_map]; omega)]) ?_
      exact Ev.bind (trim_ev hqu) (Ev.now _)
  | succ n ih =>
    intro rest quot h0 ht hr hqu h1 h2 he
    by_cases hc : b.length ≤ rest.length
    · obtain ⟨m, hm⟩ : ∃ m, rest.length = m + 1 := ⟨rest.length - 1, by omega⟩
      obtain ⟨d, hd⟩ : ∃ d, d + b.length = rest.length := ⟨rest.length - b.length, by omega⟩
      have hdq : d < quot.length := by have := h1 hc; omega
      have e1 : wrap64 (((rest.map V).length : Int) - 1) = ((m : Nat) : Int) := by rw [len_map, wrap_in (by omega) (by omega)]; omega
      have e2 : wrap64 (((rest.map V).length : Int) - ((b.map V).length : Int)) = ((d : Nat) : Int) := by rw [len_map, len_map, wrap_in (by omega) (by omega)]; omega
      let c := cf rest m * v
      have key : ∀ rest' : List (Fin q), rest'.length = rest.length → (∀ j, cf rest' j = cf rest j - if d ≤ j ∧ 0 ≤ j - d then c * cf b (j - d) else 0) →
          ∃ Q R, IsDiv a b Q R ∧ Ev (fun k => poly_DivMod.l0 k q (b.map V) (V v) ((ptrim rest').map V) ((quot.set d c).map V)) (Q.map V, R.map V, 0) := by
        intro rest' hl hj
        have top : cf rest' m = 0 := by
          rw [hj m, if_pos (by omega), show m - d = b.length - 1 by omega]
          show _ - cf rest m * v * _ = 0
          grind
        have hlt : (ptrim rest').length < rest.length := by
          rcases Nat.lt_or_ge (ptrim rest').length rest.length with h | h
          · exact h
          · have hle := ptrim_len rest'
            rcases tr_ptrim rest' with e | e
            · have h3 : (ptrim rest').length = 0 := by rw [e]; rfl
              omega
            · exact absurd (by rw [show (ptrim rest').length - 1 = m by omega, cf_ptrim]; exact top) e
        have hcq : ∀ j, cf (quot.set d c) j = cf quot j + if j = d then c else 0 := fun j => by
          rw [cf_set _ _ _ _ hdq]
          by_cases e : j = d
          · subst e
            rw [if_pos rfl, if_pos rfl, h2 j (by omega)]; grind
          · rw [if_neg e, if_neg e]; grind
        refine ih (ptrim rest') (quot.set d c) (by omega) (tr_ptrim _) (by omega) (by rw [List.length_set]; exact hqu) (fun h => by rw [List.length_set]; omega) (fun j h => ?_) (fun i => ?_)
        · rw [hcq, if_neg (by omega), h2 j (by omega)]; grind
        · rw [he i, cf_ptrim, hj i, conv_congr (fun i _ => hcq i) (fun _ _ => rfl), conv_delta]
          by_cases e : d ≤ i
          · rw [if_pos e, if_pos ⟨e, Nat.zero_le _⟩]; grind
          · rw [if_neg e, if_neg (fun h => e h.1)]; grind
      -- what the inner loop leaves is one list; the quotient and the rest are those of it
      let rest' := (List.range rest.length).map (fun j => cf rest j - if d ≤ j ∧ 0 ≤ j - d then c * cf b (j - d) else 0)
      have hl' : rest'.length = rest.length := by simp [rest']
      have hj' : ∀ j, cf rest' j = cf rest j - if d ≤ j ∧ 0 ≤ j - d then c * cf b (j - d) else 0 := fun j => by
        show cf ((List.range rest.length).map _) j = _
        rw [cf_map_range]
        by_cases e : j < rest.length
        · rw [if_pos e]
        · rw [if_neg e, cf_ge (l := rest) (by omega)]
          by_cases e2 : d ≤ j ∧ 0 ≤ j - d
          · rw [if_pos e2, cf_ge (l := b) (by omega)]; grind
          · rw [if_neg e2]; grind
      obtain ⟨Q, R, hD, hE⟩ := key rest' hl' hj'
      refine ⟨Q, R, hD, ?_⟩
      refine Ev.step (fun k => by
        rw [poly_DivMod.l0, if_pos (by rw [len_map, len_map]; omega), e1, if_pos (by omega), if_pos (by rw [len_map]; omega), rd_map]) ?_
      refine Ev.bind (mul_ev hq _ _) ?_
      rw [e2]
      refine Ev.pos (by omega) (Ev.pos (by rw [len_map]; omega) ?_)
      rw [Int.toNat_natCast, ← List.map_set]
      refine div_l1 hq _ _ d c () _ b.length 0 rest (by omega) (by omega) hr (fun r2 g1 g2 => ?_)
      have er : r2 = rest' := cf_ext (by omega) (fun j => by rw [g2 j, hj' j])
      rw [er]
      exact Ev.bind (trim_ev (by omega)) hE
    · refine ⟨ptrim quot, rest, ⟨tr_ptrim _, ht, by omega, fun i => ?_⟩, ?_⟩
      · rw [he i, conv_congr (fun i _ => cf_ptrim quot i) (fun _ _ => rfl)]
      · refine Ev.step (fun k => by rw [poly_DivMod.l0, if_neg (by rw [len_map, len_map]; omega)]) ?_
        exact Ev.bind (trim_ev hqu) (Ev.now _)
theorem divmod_zero [NeZero q] (a b : List (Fin q)) (hb : b.length < 1099511627776) (h : ptrim b = []) : Ev (fun k => poly_DivMod.f k q (a.map V) (b.map V)) ([], [], 8) := by
  unfold poly_DivMod.f
  refine Ev.bind (trim_ev hb) ?_
  rw [h]
  exact Ev.pos (by simp) (Ev.now _)
theorem divmod_ev [NeZero q] (hq : Sup q) (a b : List (Fin q)) (ha : a.length < 549755813888) (hb : b.length < 549755813888) (h : ptrim b ≠ []) :
    ∃ Q R, IsDiv a (ptrim b) Q R ∧ Ev (fun k => poly_DivMod.f k q (a.map V) (b.map V)) (Q.map V, R.map V, 0) := by
  have hbl : 0 < (ptrim b).length := List.length_pos_iff.mpr h
  have hbe := ptrim_len b
  have hae := ptrim_len a
  obtain ⟨m, hm⟩ : ∃ m, (ptrim b).length = m + 1 := ⟨(ptrim b).length - 1, by omega⟩
  have hlead : cf (ptrim b) m ≠ 0 := by
    rcases tr_ptrim b with e | e
    · exact absurd e h
    · rwa [hm] at e
  let n := (ptrim a).length + 1 - (ptrim b).length
  have hz : ∀ j, cf (List.replicate n (0 : Fin q)) j = 0 := fun j => by
    unfold cf
    rw [List.getD_eq_getElem?_getD, List.getElem?_replicate]
    split <;> rfl
  obtain ⟨Q, R, hD, hE⟩ := div_l0 hq h (inv (cf (ptrim b) m)) (by rw [hm, show m + 1 - 1 = m by omega]; have := mul_inv hq.pr hlead; grind) a (ptrim a).length (ptrim a) (List.replicate n 0) (Nat.le_refl _) (tr_ptrim a) (by omega) (by rw [List.length_replicate]; omega) (fun hh => by rw [List.length_replicate]; omega) (fun j _ => hz j) (fun i => by
    rw [cf_ptrim, show conv (cf (List.replicate n (0 : Fin q))) (cf (ptrim b)) i = 0 from by
      unfold conv
      rw [sumF_ext (m := 0) (Nat.zero_le _) (fun j _ _ => by rw [hz]; grind)]; rfl]
    grind)
  refine ⟨Q, R, hD, ?_⟩
  unfold poly_DivMod.f
  refine Ev.bind (trim_ev (by omega)) ?_
  have e1 : wrap64 ((((ptrim b).map V).length : Int) - 1) = (m : Int) := by rw [len_map, wrap_in (by omega) (by omega)]; omega
  rw [e1]
  refine Ev.neg (by rw [len_map]; omega) (Ev.pos (by omega) (Ev.pos (by rw [len_map]; omega) ?_))
  rw [rd_map]
  refine Ev.bind (inverse_ev hq hlead) (Ev.bind (trim_ev (by omega)) ?_)
  have e2 : mx 0 (wrap64 (wrap64 ((((ptrim a).map V).length : Int) - (((ptrim b).map V).length : Int)) + 1)) = (n : Int) := by
    rw [len_map, len_map, wrap_in (n := ((ptrim a).length : Int) - ((ptrim b).length : Int)) (by omega) (by omega), wrap_in (by omega) (by omega)]
    unfold mx
    omega
  rw [e2]
  refine Ev.pos (by omega) (Ev.pos (by omega) ?_)
  rw [Int.toNat_natCast, show List.replicate n (0 : Int) = (List.replicate n (0 : Fin q)).map V by rw [List.map_replicate, V_zero]]
  exact hE
end Go.Proofs.Ytjkggiemnfigbaa.FPoly

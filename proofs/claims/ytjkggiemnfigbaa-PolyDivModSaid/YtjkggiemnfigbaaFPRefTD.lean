/- What the reference's functions on polynomials come to. -/
import Derived.Test.YtjkggiemnfigbaaFPC
import Derived.Test.YtjkggiemnfigbaaPTDx
namespace Go.Proofs.Ytjkggiemnfigbaa.FPoly
open Go.RowKit Go.Proofs.YtjkggiemnfigbaaW.PrintWords Go.Proofs.YtjkggiemnfigbaaW.PrintMore Go.Proofs.Ytjkggiemnfigbaa.PF Go.Proofs.Ytjkggiemnfigbaa.PQ Go.Proofs.Ytjkggiemnfigbaa.PC Go.Proofs.Ytjkggiemnfigbaa.PTD Go.Proofs.YtjkggiemnfigbaaNum Go.Proofs.Ytjkggiemnfigbaa.FEv
variable {q : Nat}
theorem ref_coefficient_ev [NeZero q] (ys : List (Fin q)) (i : Int) : privityref04_Coefficient.f (ys.map V) i = some (if i < 0 then 0 else V (cf ys i.toNat)) := by
  unfold privityref04_Coefficient.f
  by_cases h : i < 0
  · rw [if_pos h, if_pos h]
  · rw [if_neg h, if_neg h]
    obtain ⟨n, rfl⟩ := Int.eq_ofNat_of_zero_le (show 0 ≤ i by omega)
    rw [Int.toNat_natCast, List.length_map]
    by_cases h2 : (n : Int) ≥ (ys.length : Int)
    · rw [if_pos h2, cf_ge (by omega)]; rfl
    · rw [if_neg h2, if_pos (by omega), if_pos (by omega), rd_map]
theorem ref_coef [NeZero q] (ys : List (Fin q)) (i : Nat) : privityref04_Coefficient.f (ys.map V) (i : Int) = some (V (cf ys i)) := by
  rw [ref_coefficient_ev, if_neg (by omega), Int.toNat_natCast]
theorem ref_trim_l0 [NeZero q] {ys : List (Fin q)} (hl : ys.length < 1099511627776) : ∀ i : Nat, i ≤ ys.length → (∀ j, i ≤ j → cf ys j = 0) → Ev (fun k => privityref04_Trim.l0 k (ys.map V) (i : Int)) ((ptrim ys).map V)
  | 0, _, hz => by
    refine Ev.step (fun k => by rw [privityref04_Trim.l0, if_neg (by omega)]) ?_
    simp only [Option.bind_some]
    refine Ev.pos (by omega) (Ev.pos (by omega) (Ev.pos (by simp) (Ev.eq ?_)))
    rw [ptrim_zero (fun j => hz j (Nat.zero_le _))]
    rfl
  | i + 1, hi, hz => by
    have e : wrap64 (((i + 1 : Nat) : Int) - 1) = (i : Int) := by rw [wrap_in (by omega) (by omega)]; omega
    refine Ev.step (fun k => by rw [privityref04_Trim.l0, if_pos (by omega), e, if_pos (by omega), if_pos (by rw [len_map]; omega), rd_map]) ?_
    by_cases c : cf ys i = 0
    · exact Ev.pos (by rw [c, V_zero]) (ref_trim_l0 hl i (by omega) (fun j hj => by rcases Nat.lt_or_ge i j with h | h; exact hz j (by omega); rw [show j = i by omega]; exact c))
    · refine Ev.neg (fun h => c (V_eq_zero.mp h)) ?_
      simp only [Option.bind_some]
      refine Ev.pos (by omega) (Ev.pos (by rw [len_map]; omega) (Ev.pos (by rw [List.length_nil, List.length_take, len_map]; omega) (Ev.eq ?_)))
      rw [Int.toNat_natCast, List.nil_append, ← List.map_take, ← ptrim_top c (fun j hj => hz j (by omega)), take_ptrim]
theorem ref_trim_ev [NeZero q] {ys : List (Fin q)} (hl : ys.length < 1099511627776) : Ev (fun k => privityref04_Trim.f k (ys.map V)) ((ptrim ys).map V) := by
  unfold privityref04_Trim.f
  have h := ref_trim_l0 hl ys.length (Nat.le_refl _) (fun j hj => cf_ge hj)
  rw [len_map]
  exact h
theorem ref_add_l0 [NeZero q] (hq : Sup q) (a b : List (Fin q)) (ha : a.length < 274877906944) (hb : b.length < 274877906944) : ∀ (d i : Nat), i + d = max a.length b.length →
    Ev (fun k => privityref04_Add.l0 k q (a.map V) (b.map V) (((List.range i).map (fun j => cf a j + cf b j)).map V) (i : Int)) ((padd a b).map V)
  | 0, i, hi => by
    have e : Ev (fun k => privityref04_Add.j1 k q (a.map V) (b.map V) (((List.range i).map (fun j => cf a j + cf b j)).map V) (i : Int) false) ((padd a b).map V) := by
      refine Ev.step (fun k => by rw [privityref04_Add.j1, if_neg (by decide)]) ?_
      refine Ev.bind (ref_trim_ev (by simp; omega)) (Ev.eq ?_)
      rw [show i = max a.length b.length by omega]
      rfl
    refine Ev.step (fun k => by rw [privityref04_Add.l0, if_neg (by rw [len_map]; omega)]) ?_
    rw [decide_eq_false (by rw [len_map]; omega)]
    exact e
  | d + 1, i, hi => by
    have e : Ev (fun k => privityref04_Add.j1 k q (a.map V) (b.map V) (((List.range i).map (fun j => cf a j + cf b j)).map V) (i : Int) true) ((padd a b).map V) := by
      refine Ev.step (fun k => by rw [privityref04_Add.j1, if_pos rfl, ref_coef, ref_coef]) ?_
      simp only [Option.bind_some]
      refine Ev.bind (ref_add_ev hq _ _) (Ev.pos (by simp; omega) ?_)
      have h := ref_add_l0 hq a b ha hb d (i + 1) (by omega)
      rw [List.range_succ, List.map_append, List.map_append] at h
      rw [wrap_in (by omega) (by omega)]
      exact h
    by_cases c : i < a.length
    · exact Ev.step (fun k => by rw [privityref04_Add.l0, if_pos (by rw [len_map]; omega)]) e
    · refine Ev.step (fun k => by rw [privityref04_Add.l0, if_neg (by rw [len_map]; omega)]) ?_
      rw [decide_eq_true (by rw [len_map]; omega)]
      exact e
theorem ref_add_evP [NeZero q] (hq : Sup q) (a b : List (Fin q)) (ha : a.length < 274877906944) (hb : b.length < 274877906944) : Ev (fun k => privityref04_Add.f k q (a.map V) (b.map V)) ((padd a b).map V) := by
  unfold privityref04_Add.f
  exact ref_add_l0 hq a b ha hb (max a.length b.length) 0 (by omega)
theorem ref_scale_l0 [NeZero q] (hq : Sup q) (c : Fin q) (a : List (Fin q)) (ha : a.length < 274877906944) : ∀ (d i : Nat), i + d = a.length →
    Ev (fun k => privityref04_Scale.l0 k q (V c) (a.map V) (((List.range i).map (fun j => c * cf a j)).map V) (i : Int)) ((pscale c a).map V)
  | 0, i, hi => by
    refine Ev.step (fun k => by rw [privityref04_Scale.l0, if_neg (by rw [len_map]; omega)]) ?_
    refine Ev.bind (ref_trim_ev (by simp; omega)) (Ev.eq ?_)
    rw [show i = a.length by omega]
    rfl
  | d + 1, i, hi => by
    refine Ev.step (fun k => by rw [privityref04_Scale.l0, if_pos (by rw [len_map]; omega), if_pos (by omega), rd_map]) ?_
    refine Ev.bind (ref_mul_ev hq _ _) (Ev.pos (by simp; omega) ?_)
    have h := ref_scale_l0 hq c a ha d (i + 1) (by omega)
    rw [List.range_succ, List.map_append, List.map_append] at h
    rw [wrap_in (by omega) (by omega)]
    exact h
theorem ref_scale_ev [NeZero q] (hq : Sup q) (c : Fin q) (a : List (Fin q)) (ha : a.length < 274877906944) : Ev (fun k => privityref04_Scale.f k q (V c) (a.map V)) ((pscale c a).map V) := by
  unfold privityref04_Scale.f
  exact ref_scale_l0 hq c a ha a.length 0 (by omega)
theorem minus_one [NeZero q] (hq : Sup q) : IntKind.u64.wrap ((q : Int) - 1) = V (-1 : Fin q) := by
  have hl := hq.le
  rw [w64_in (by omega) (by omega), V_neg (one_ne hq), V_one hq]
theorem ref_sub_evP [NeZero q] (hq : Sup q) (a b : List (Fin q)) (ha : a.length < 274877906944) (hb : b.length < 274877906944) : Ev (fun k => privityref04_Sub.f k q (a.map V) (b.map V)) ((psub a b).map V) := by
  unfold privityref04_Sub.f
  rw [minus_one hq]
  have := pscale_len (-1 : Fin q) b
  exact Ev.bind (ref_scale_ev hq _ b hb) (Ev.bind (ref_add_evP hq a _ ha (by omega)) (Ev.now _))
theorem ref_mul_l1 [NeZero q] (hq : Sup q) (a b : List (Fin q)) (ha : a.length < 274877906944) (hb : b.length < 274877906944) (n : Nat) (hn : n < a.length) (r : List Int) : ∀ (d m : Nat) (ys : List (Fin q)), m + d = b.length → ys.length = a.length + b.length - 1 →
    (∀ j, cf ys j = X.Mid a b n m j) → (∀ ys' : List (Fin q), ys'.length = a.length + b.length - 1 → (∀ j, cf ys' j = conv (cf (a.take (n + 1))) (cf b) j) → Ev (fun k => privityref04_Mul.l0 k q (a.map V) (b.map V) (ys'.map V) ((n + 1 : Nat) : Int)) r) →
    Ev (fun k => privityref04_Mul.l1 k q (a.map V) (b.map V) (ys.map V) (n : Int) (m : Int)) r
  | 0, m, ys, hm, hy, hz, h => by
    refine Ev.step (fun k => by rw [privityref04_Mul.l1, if_neg (by rw [len_map]; omega), wrap_in (by omega) (by omega)]) ?_
    exact h ys hy (fun j => by rw [hz j, show m = b.length by omega, X.mid_end])
  | d + 1, m, ys, hm, hy, hz, h => by
    have e : wrap64 ((n : Int) + (m : Int)) = ((n + m : Nat) : Int) := by rw [wrap_in (by omega) (by omega)]; omega
    refine Ev.step (fun k => by
      rw [privityref04_Mul.l1, if_pos (by rw [len_map]; omega), e, if_pos (by omega), if_pos (by rw [len_map]; omega), if_pos (by omega), if_pos (by rw [len_map]; omega), if_pos (by omega), rd_map, rd_map, rd_map]) ?_
    refine Ev.bind (ref_mul_ev hq _ _) (Ev.bind (ref_add_ev hq _ _) ?_)
    rw [wrap_in (by omega) (by omega), Int.toNat_natCast, ← List.map_set]
    refine ref_mul_l1 hq a b ha hb n hn r d (m + 1) _ (by omega) (by rw [List.length_set]; exact hy) (fun j => ?_) h
    rw [cf_set _ _ _ _ (by omega), X.mid_step, ← hz j]
    by_cases c : j = n + m
    · subst c; rw [if_pos rfl, if_pos rfl]
    · rw [if_neg c, if_neg c]; grind
theorem ref_mul_l0P [NeZero q] (hq : Sup q) (a b : List (Fin q)) (ha : a.length < 274877906944) (hb : b.length < 274877906944) (hb0 : 0 < b.length) : ∀ (d n : Nat) (ys : List (Fin q)), n + d = a.length → ys.length = a.length + b.length - 1 →
    (∀ j, cf ys j = conv (cf (a.take n)) (cf b) j) → Ev (fun k => privityref04_Mul.l0 k q (a.map V) (b.map V) (ys.map V) (n : Int)) ((pmul a b).map V)
  | 0, n, ys, hn, hy, hz => by
    refine Ev.step (fun k => by rw [privityref04_Mul.l0, if_neg (by rw [len_map]; omega)]) ?_
    have e : ptrim ys = pmul a b := (tr_ptrim ys).eq (tr_pmul a b) (fun j => by rw [cf_ptrim, cf_pmul, hz j, show n = a.length by omega, List.take_length])
    have h := ref_trim_ev (ys := ys) (by omega)
    rw [e] at h
    exact Ev.bind h (Ev.now _)
  | d + 1, n, ys, hn, hy, hz => by
    refine Ev.step (fun k => by rw [privityref04_Mul.l0, if_pos (by rw [len_map]; omega)]) ?_
    exact ref_mul_l1 hq a b ha hb n (by omega) _ b.length 0 ys (by omega) hy (fun j => by rw [X.mid_start, hz j]) (fun ys' h1 h2 => ref_mul_l0P hq a b ha hb hb0 d (n + 1) ys' (by omega) h1 h2)
theorem pmul_nil [NeZero q] {a b : List (Fin q)} (h : a = [] ∨ b = []) : pmul a b = [] := by
  rcases h with rfl | rfl
  · exact (tr_pmul _ _).eq (.inl rfl) (fun i => by rw [cf_pmul, cf_nil]; unfold conv; rw [sumF_ext (m := 0) (Nat.zero_le _) (fun i _ _ => by rw [cf_nil]; grind)]; rfl)
  · exact (tr_pmul _ _).eq (.inl rfl) (fun i => by rw [cf_pmul, cf_nil]; unfold conv; rw [sumF_ext (m := 0) (Nat.zero_le _) (fun i _ _ => by rw [cf_nil]; grind)]; rfl)
theorem ref_mul_evP [NeZero q] (hq : Sup q) (a b : List (Fin q)) (ha : a.length < 274877906944) (hb : b.length < 274877906944) : Ev (fun k => privityref04_Mul.f k q (a.map V) (b.map V)) ((pmul a b).map V) := by
  unfold privityref04_Mul.f
  by_cases h1 : a.length = 0
  · refine Ev.pos (by rw [len_map]; omega) (Ev.step (fun k => by rw [privityref04_Mul.j0, if_pos rfl]) (Ev.eq ?_))
    rw [pmul_nil (.inl (List.length_eq_zero_iff.mp h1))]; rfl
  · refine Ev.neg (by rw [len_map]; omega) ?_
    by_cases h2 : b.length = 0
    · rw [show (((b.map V).length : Int) == 0) = true from beq_iff_eq.mpr (by rw [len_map]; omega)]
      refine Ev.step (fun k => by rw [privityref04_Mul.j0, if_pos rfl]) (Ev.eq ?_)
      rw [pmul_nil (.inr (List.length_eq_zero_iff.mp h2))]; rfl
    · rw [show (((b.map V).length : Int) == 0) = false from beq_eq_false_iff_ne.mpr (by rw [len_map]; omega)]
      have e : wrap64 (wrap64 (((a.map V).length : Int) + ((b.map V).length : Int)) - 1) = ((a.length + b.length - 1 : Nat) : Int) := by
        rw [len_map, len_map, wrap_in (n := (a.length : Int) + (b.length : Int)) (by omega) (by omega), wrap_in (by omega) (by omega)]; omega
      refine Ev.step (fun k => by rw [privityref04_Mul.j0, if_neg (by decide), e, if_pos (by omega), if_pos (by omega), Int.toNat_natCast]) ?_
      have h := ref_mul_l0P hq a b ha hb (by omega) a.length 0 (List.replicate (a.length + b.length - 1) 0) (by omega) List.length_replicate (fun j => by
        rw [X.mid_zero]
        unfold cf
        rw [List.getD_eq_getElem?_getD, List.getElem?_replicate]
        split <;> rfl)
      rw [List.map_replicate, V_zero] at h
      exact h
theorem ref_div_l0 [NeZero q] (hq : Sup q) {b : List (Fin q)} (hb0 : b ≠ []) (hbl : b.length < 68719476736) (v : Fin q) (hv : v * cf b (b.length - 1) = 1) (a : List (Fin q)) : ∀ (n : Nat) (rest quot : List (Fin q)), rest.length ≤ n → Tr rest → Tr quot → rest.length < 68719476736 → quot.length < 68719476736 →
    (∀ i, cf a i = conv (cf quot) (cf b) i + cf rest i) →
    ∃ Q R, IsDiv a b Q R ∧ Ev (fun k => privityref04_DivMod.l0 k q (b.map V) (rest.map V) (V v) (quot.map V)) (Q.map V, R.map V, 0) := by
  have hbp : 0 < b.length := List.length_pos_iff.mpr hb0
  intro n
  induction n with
  | zero =>
    intro rest quot h0 ht htq hr hqu he
    exact ⟨quot, rest, ⟨htq, ht, by omega, he⟩, Ev.step (fun k => by rw [privityref04_DivMod.l0, if_neg (by rw [len_map, len_map]; omega)]) (Ev.now _)⟩
  | succ n ih =>
    intro rest quot h0 ht htq hr hqu he
    by_cases hc : b.length ≤ rest.length
    · obtain ⟨m, hm⟩ : ∃ m, rest.length = m + 1 := ⟨rest.length - 1, by omega⟩
      obtain ⟨d, hd⟩ : ∃ d, d + b.length = rest.length := ⟨rest.length - b.length, by omega⟩
      let c := cf rest m * v
      let t : List (Fin q) := (List.replicate (d + 1) 0).set d c
      have htl : t.length = d + 1 := by simp [t]
      have hz : ∀ j, cf (List.replicate (d + 1) (0 : Fin q)) j = 0 := fun j => by
        unfold cf
        rw [List.getD_eq_getElem?_getD, List.getElem?_replicate]
        split <;> rfl
      have hct : ∀ j, cf t j = 0 + if j = d then c else 0 := fun j => by
        show cf ((List.replicate (d + 1) 0).set d c) j = _
        rw [cf_set _ _ _ _ (by simp), hz]
        grind
      have hconv : ∀ i, conv (cf t) (cf b) i = if d ≤ i then c * cf b (i - d) else 0 := fun i => by
        rw [conv_congr (fun j _ => hct j) (fun _ _ => rfl), conv_delta, show conv (fun _ => (0 : Fin q)) (cf b) i = 0 from by
          unfold conv
          rw [sumF_ext (m := 0) (Nat.zero_le _) (fun j _ _ => by grind)]; rfl]
        grind
      have l1 := pmul_len t b
      have l2 := psub_len rest (pmul t b)
      have l3 := padd_len quot t
      have hlt : (psub rest (pmul t b)).length < rest.length := by
        rcases Nat.lt_or_ge (psub rest (pmul t b)).length rest.length with h | h
        · exact h
        · rcases tr_psub rest (pmul t b) with e | e
          · have h3 : (psub rest (pmul t b)).length = 0 := by rw [e]; rfl
            omega
          · refine absurd ?_ e
            rw [show (psub rest (pmul t b)).length - 1 = m by omega, cf_psub, cf_pmul, hconv, if_pos (by omega), show m - d = b.length - 1 by omega]
            show _ - cf rest m * v * _ = 0
            grind
      obtain ⟨Q, R, hD, hE⟩ := ih (psub rest (pmul t b)) (padd quot t) (by omega) (tr_psub _ _) (tr_padd _ _) (by omega) (by omega) (fun i => by
        rw [he i, conv_congr (fun j _ => cf_padd quot t j) (fun _ _ => rfl), conv_addl, cf_psub, cf_pmul]
        grind)
      refine ⟨Q, R, hD, ?_⟩
      have e1 : wrap64 (((rest.map V).length : Int) - 1) = ((m : Nat) : Int) := by rw [len_map, wrap_in (by omega) (by omega)]; omega
      have e2 : wrap64 (wrap64 (((rest.map V).length : Int) - ((b.map V).length : Int)) + 1) = ((d + 1 : Nat) : Int) := by
        rw [len_map, len_map, wrap_in (n := (rest.length : Int) - (b.length : Int)) (by omega) (by omega), wrap_in (by omega) (by omega)]; omega
      refine Ev.step (fun k => by rw [privityref04_DivMod.l0, if_pos (by rw [len_map, len_map]; omega), e1, e2, if_pos (by omega), if_pos (by omega)]) ?_
      simp only [Option.bind_some]
      have e3 : wrap64 (((List.replicate ((d + 1 : Nat) : Int).toNat (0 : Int)).length : Int) - 1) = ((d : Nat) : Int) := by
        rw [List.length_replicate, Int.toNat_natCast, wrap_in (by omega) (by omega)]; omega
      refine Ev.pos (by omega) (Ev.pos (by rw [len_map]; omega) ?_)
      rw [rd_map]
      refine Ev.bind (ref_mul_ev hq _ _) ?_
      rw [e3]
      refine Ev.pos (by omega) (Ev.pos (by rw [List.length_replicate, Int.toNat_natCast]; omega) ?_)
      rw [Int.toNat_natCast, Int.toNat_natCast, show (List.replicate (d + 1) (0 : Int)).set d (V (cf rest m * v)) = t.map V by
        show _ = ((List.replicate (d + 1) 0).set d c).map V
        rw [List.map_set, List.map_replicate, V_zero]]
      exact Ev.bind (ref_add_evP hq quot t (by omega) (by omega)) (Ev.bind (ref_mul_evP hq t b (by omega) (by omega)) (Ev.bind (ref_sub_evP hq rest _ (by omega) (by omega)) hE))
    · exact ⟨quot, rest, ⟨htq, ht, by omega, he⟩, Ev.step (fun k => by rw [privityref04_DivMod.l0, if_neg (by rw [len_map, len_map]; omega)]) (Ev.now _)⟩
theorem ref_divmod_zero [NeZero q] (a b : List (Fin q)) (hb : b.length < 1099511627776) (h : ptrim b = []) : Ev (fun k => privityref04_DivMod.f k q (a.map V) (b.map V)) ([], [], 8) := by
  unfold privityref04_DivMod.f
  refine Ev.bind (ref_trim_ev hb) ?_
  rw [h]
  exact Ev.pos (by simp) (Ev.now _)
theorem ref_divmod_ev [NeZero q] (hq : Sup q) (a b : List (Fin q)) (ha : a.length < 68719476736) (hb : b.length < 68719476736) (h : ptrim b ≠ []) :
    ∃ Q R, IsDiv a (ptrim b) Q R ∧ Ev (fun k => privityref04_DivMod.f k q (a.map V) (b.map V)) (Q.map V, R.map V, 0) := by
  have hbl : 0 < (ptrim b).length := List.length_pos_iff.mpr h
  have hbe := ptrim_len b
  have hae := ptrim_len a
  obtain ⟨m, hm⟩ : ∃ m, (ptrim b).length = m + 1 := ⟨(ptrim b).length - 1, by omega⟩
  have hlead : cf (ptrim b) m ≠ 0 := by
    rcases tr_ptrim b with e | e
    · exact absurd e h
    · rwa [hm] at e
  obtain ⟨Q, R, hD, hE⟩ := ref_div_l0 hq h (by omega) (inv (cf (ptrim b) m)) (by rw [hm, show m + 1 - 1 = m by omega]; have := mul_inv hq.pr hlead; grind) a (ptrim a).length (ptrim a) [] (Nat.le_refl _) (tr_ptrim a) (.inl rfl) (by omega) (by simp) (fun i => by
    rw [cf_ptrim, ← cf_pmul, pmul_nil (.inl rfl), cf_nil]
    grind)
  refine ⟨Q, R, hD, ?_⟩
  unfold privityref04_DivMod.f
  have e1 : wrap64 ((((ptrim b).map V).length : Int) - 1) = (m : Int) := by rw [len_map, wrap_in (by omega) (by omega)]; omega
  refine Ev.bind (ref_trim_ev (by omega)) (Ev.neg (by rw [len_map]; omega) (Ev.bind (ref_trim_ev (by omega)) ?_))
  rw [e1]
  refine Ev.pos (by omega) (Ev.pos (by rw [len_map]; omega) ?_)
  rw [rd_map]
  exact Ev.bind (ref_inverse_ev hq hlead) hE
end Go.Proofs.Ytjkggiemnfigbaa.FPoly

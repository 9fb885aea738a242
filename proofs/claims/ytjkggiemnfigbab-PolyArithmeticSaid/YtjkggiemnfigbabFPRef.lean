/- What the reference's functions on polynomials come to. -/
import Derived.Test.YtjkggiemnfigbabFPC
import Derived.Test.YtjkggiemnfigbabPTAx
namespace Go.Proofs.Ytjkggiemnfigbab.FPoly
open Go.RowKit Go.Proofs.YtjkggiemnfigbabW.PrintWords Go.Proofs.YtjkggiemnfigbabW.PrintMore Go.Proofs.Ytjkggiemnfigbab.PF Go.Proofs.Ytjkggiemnfigbab.PQ Go.Proofs.Ytjkggiemnfigbab.PC Go.Proofs.Ytjkggiemnfigbab.PTA Go.Proofs.YtjkggiemnfigbabNum Go.Proofs.Ytjkggiemnfigbab.FEv
variable {q : Nat}
theorem ref_coefficient_ev [NeZero q] (ys : List (Fin q)) (i : Int) : privityref04_Coefficient.f (ys.map V) i = some (if i < 0 then 0 else V (cf ys i.toNat)) := by
  unfold privityref04_Coefficient.f
  by_cases h : i < 0
  · rw [if_pos h, if_pos h]
  · rw [if_neg h, if_neg h]
    obtain ⟨n, rfl⟩ := Int.eq_ofNat_of_zero_le (show 0 ≤ i by omega)
    rw [Int.toNat_natCast, List.length_map]
    by_cases h2 : (n : Int) ≥ (ys.length : Int)
    · rw [if_pos h2, cf_ge (by omega)]; rfl
    · rw [if_neg h2, if_pos (by omega), if_pos (by omega), rd_map]
theorem ref_coef [NeZero q] (ys : List (Fin q)) (i : Nat) : privityref04_Coefficient.f (ys.map V) (i : Int) = some (V (cf ys i)) := by
  rw [ref_coefficient_ev, if_neg (by omega), Int.toNat_natCast]
theorem ref_trim_l0 [NeZero q] {ys : List (Fin q)} (hl : ys.length < 1099511627776) : ∀ i : Nat, i ≤ ys.length → (∀ j, i ≤ j → cf ys j = 0) → Ev (fun k => privityref04_Trim.l0 k (ys.map V) (i : Int)) ((ptrim ys).map V)
  | 0, _, hz => by
    refine Ev.step (fun k => by rw [privityref04_Trim.l0, if_neg (by omega)]) ?_
    simp only [Option.bind_some]
    refine Ev.pos (by omega) (Ev.pos (by omega) (Ev.pos (by simp) (Ev.eq ?_)))
    rw [ptrim_zero (fun j => hz j (Nat.zero_le _))]
    rfl
  | i + 1, hi, hz => by
    have e : wrap64 (((i + 1 : Nat) : Int) - 1) = (i : Int) := by rw [wrap_in (by omega) (by omega)]; omega
    refine Ev.step (fun k => by rw [privityref04_Trim.l0, if_pos (by omega), e, if_pos (by omega), if_pos (by rw [len_map]; omega), rd_map]) ?_
    by_cases c : cf ys i = 0
    · exact Ev.pos (by rw [c, V_zero]) (ref_trim_l0 hl i (by omega) (fun j hj => by rcases Nat.lt_or_ge i j with h | h; exact hz j (by omega); rw [show j = i by omega]; exact c))
    · refine Ev.neg (fun h => c (V_eq_zero.mp h)) ?_
      simp only [Option.bind_some]
      refine Ev.pos (by omega) (Ev.pos (by rw [len_map]; omega) (Ev.pos (by rw [List.length_nil, List.length_take, len_map]; omega) (Ev.eq ?_)))
      rw [Int.toNat_natCast, List.nil_append, ← List.map_take, ← ptrim_top c (fun j hj => hz j (by omega)), take_ptrim]
theorem ref_trim_ev [NeZero q] {ys : List (Fin q)} (hl : ys.length < 1099511627776) : Ev (fun k => privityref04_Trim.f k (ys.map V)) ((ptrim ys).map V) := by
  unfold privityref04_Trim.f
  have h := ref_trim_l0 hl ys.length (Nat.le_refl _) (fun j hj => cf_ge hj)
  rw [len_map]
  exact h
theorem ref_eval_l0 [NeZero q] (hq : Sup q) (a : List (Fin q)) (x : Fin q) (ha : a.length < 1099511627776) : ∀ (d i : Nat), i + d = a.length →
    Ev (fun k => privityref04_Eval.l0 k q (a.map V) (V x) (V (evF i (cf a) x)) (V (x ^ i)) (i : Int)) (V (peval a x))
  | 0, i, hi => by
    refine Ev.step (fun k => by rw [privityref04_Eval.l0, if_neg (by rw [len_map]; omega)]) (Ev.eq ?_)
    rw [V_inj, show i = a.length by omega]
    rfl
  | d + 1, i, hi => by
    refine Ev.step (fun k => by rw [privityref04_Eval.l0, if_pos (by rw [len_map]; omega), if_pos (by omega), rd_map]) ?_
    refine Ev.bind (ref_mul_ev hq _ _) (Ev.bind (ref_add_ev hq _ _) (Ev.bind (ref_mul_ev hq _ _) ?_))
    have h := ref_eval_l0 hq a x ha d (i + 1) (by omega)
    rw [wrap_in (by omega) (by omega)]
    have e1 : evF i (cf a) x + cf a i * x ^ i = evF (i + 1) (cf a) x := rfl
    have e2 : x ^ i * x = x ^ (i + 1) := by grind
    rw [e1, e2]
    exact h
theorem ref_eval_ev [NeZero q] (hq : Sup q) (a : List (Fin q)) (x : Fin q) (ha : a.length < 1099511627776) : Ev (fun k => privityref04_Eval.f k q (a.map V) (V x)) (V (peval a x)) := by
  unfold privityref04_Eval.f
  have h := ref_eval_l0 hq a x ha a.length 0 (by omega)
  rw [show evF 0 (cf a) x = 0 from rfl, V_zero, pw_zero, V_one hq] at h
  exact h
theorem ref_add_l0 [NeZero q] (hq : Sup q) (a b : List (Fin q)) (ha : a.length < 274877906944) (hb : b.length < 274877906944) : ∀ (d i : Nat), i + d = max a.length b.length →
    Ev (fun k => privityref04_Add.l0 k q (a.map V) (b.map V) (((List.range i).map (fun j => cf a j + cf b j)).map V) (i : Int)) ((padd a b).map V)
  | 0, i, hi => by
    have e : Ev (fun k => privityref04_Add.j1 k q (a.map V) (b.map V) (((List.range i).map (fun j => cf a j + cf b j)).map V) (i : Int) false) ((padd a b).map V) := by
      refine Ev.step (fun k => by rw [privityref04_Add.j1, if_neg (by decide)]) ?_
      refine Ev.bind (ref_trim_ev (by simp; omega)) (Ev.eq ?_)
      rw [show i = max a.length b.length by omega]
      rfl
    refine Ev.step (fun k => by rw [privityref04_Add.l0, if_neg (by rw [len_map]; omega)]) ?_
    rw [decide_eq_false (by rw [len_map]; omega)]
    exact e
  | d + 1, i, hi => by
    have e : Ev (fun k => privityref04_Add.j1 k q (a.map V) (b.map V) (((List.range i).map (fun j => cf a j + cf b j)).map V) (i : Int) true) ((padd a b).map V) := by
      refine Ev.step (fun k => by rw [privityref04_Add.j1, if_pos rfl, ref_coef, ref_coef]) ?_
      simp only [Option.bind_some]
      refine Ev.bind (ref_add_ev hq _ _) (Ev.pos (by simp; omega) ?_)
      have h := ref_add_l0 hq a b ha hb d (i + 1) (by omega)
      rw [List.range_succ, List.map_append, List.map_append] at h
      rw [wrap_in (by omega) (by omega)]
      exact h
    by_cases c : i < a.length
    · exact Ev.step (fun k => by rw [privityref04_Add.l0, if_pos (by rw [len_map]; omega)]) e
    · refine Ev.step (fun k => by rw [privityref04_Add.l0, if_neg (by rw [len_map]; omega)]) ?_
      rw [decide_eq_true (by rw [len_map]; omega)]
      exact e
theorem ref_add_evP [NeZero q] (hq : Sup q) (a b : List (Fin q)) (ha : a.length < 274877906944) (hb : b.length < 274877906944) : Ev (fun k => privityref04_Add.f k q (a.map V) (b.map V)) ((padd a b).map V) := by
  unfold privityref04_Add.f
  exact ref_add_l0 hq a b ha hb (max a.length b.length) 0 (by omega)
theorem ref_scale_l0 [NeZero q] (hq : Sup q) (c : Fin q) (a : List (Fin q)) (ha : a.length < 274877906944) : ∀ (d i : Nat), i + d = a.length →
    Ev (fun k => privityref04_Scale.l0 k q (V c) (a.map V) (((List.range i).map (fun j => c * cf a j)).map V) (i : Int)) ((pscale c a).map V)
  | 0, i, hi => by
    refine Ev.step (fun k => by rw [privityref04_Scale.l0, if_neg (by rw [len_map]; omega)]) ?_
    refine Ev.bind (ref_trim_ev (by simp; omega)) (Ev.eq ?_)
    rw [show i = a.length by omega]
    rfl
  | d + 1, i, hi => by
    refine Ev.step (fun k => by rw [privityref04_Scale.l0, if_pos (by rw [len_map]; omega), if_pos (by omega), rd_map]) ?_
    refine Ev.bind (ref_mul_ev hq _ _) (Ev.pos (by simp; omega) ?_)
    have h := ref_scale_l0 hq c a ha d (i + 1) (by omega)
    rw [List.range_succ, List.map_append, List.map_append] at h
    rw [wrap_in (by omega) (by omega)]
    exact h
theorem ref_scale_ev [NeZero q] (hq : Sup q) (c : Fin q) (a : List (Fin q)) (ha : a.length < 274877906944) : Ev (fun k => privityref04_Scale.f k q (V c) (a.map V)) ((pscale c a).map V) := by
  unfold privityref04_Scale.f
  exact ref_scale_l0 hq c a ha a.length 0 (by omega)
theorem minus_one [NeZero q] (hq : Sup q) : IntKind.u64.wrap ((q : Int) - 1) = V (-1 : Fin q) := by
  have hl := hq.le
  rw [w64_in (by omega) (by omega), V_neg (one_ne hq), V_one hq]
theorem ref_sub_evP [NeZero q] (hq : Sup q) (a b : List (Fin q)) (ha : a.length < 274877906944) (hb : b.length < 274877906944) : Ev (fun k => privityref04_Sub.f k q (a.map V) (b.map V)) ((psub a b).map V) := by
  unfold privityref04_Sub.f
  rw [minus_one hq]
  have := pscale_len (-1 : Fin q) b
  exact Ev.bind (ref_scale_ev hq _ b hb) (Ev.bind (ref_add_evP hq a _ ha (by omega)) (Ev.now _))
theorem sub_evP [NeZero q] (hq : Sup q) (a b : List (Fin q)) (ha : a.length < 274877906944) (hb : b.length < 274877906944) : Ev (fun k => poly_Sub.f k q (a.map V) (b.map V)) ((psub a b).map V) := by
  unfold poly_Sub.f
  rw [minus_one hq]
  have := pscale_len (-1 : Fin q) b
  exact Ev.bind (scale_ev hq _ b (by omega)) (Ev.bind (add_evP hq a _ ha (by omega)) (Ev.now _))
theorem ref_mul_l1 [NeZero q] (hq : Sup q) (a b : List (Fin q)) (ha : a.length < 274877906944) (hb : b.length < 274877906944) (n : Nat) (hn : n < a.length) (r : List Int) : ∀ (d m : Nat) (ys : List (Fin q)), m + d = b.length → ys.length = a.length + b.length - 1 →
    (∀ j, cf ys j = X.Mid a b n m j) → (∀ ys' : List (Fin q), ys'.length = a.length + b.length - 1 → (∀ j, cf ys' j = conv (cf (a.take (n + 1))) (cf b) j) → Ev (fun k => privityref04_Mul.l0 k q (a.map V) (b.map V) (ys'.map V) ((n + 1 : Nat) : Int)) r) →
    Ev (fun k => privityref04_Mul.l1 k q (a.map V) (b.map V) (ys.map V) (n : Int) (m : Int)) r
  | 0, m, ys, hm, hy, hz, h => by
    refine Ev.step (fun k => by rw [privityref04_Mul.l1, if_neg (by rw [len_map]; omega), wrap_in (by omega) (by omega)]) ?_
    exact h ys hy (fun j => by rw [hz j, show m = b.length by omega, X.mid_end])
  | d + 1, m, ys, hm, hy, hz, h => by
    have e : wrap64 ((n : Int) + (m : Int)) = ((n + m : Nat) : Int) := by rw [wrap_in (by omega) (by omega)]; omega
    refine Ev.step (fun k => by
      rw [privityref04_Mul.l1, if_pos (by rw [len_map]; omega), e, if_pos (by omega), if_pos (by rw [len_map]; omega), if_pos (by omega), if_pos (by rw [len_map]; omega), if_pos (by omega), rd_map, rd_map, rd_map]) ?_
    refine Ev.bind (ref_mul_ev hq _ _) (Ev.bind (ref_add_ev hq _ _) ?_)
    rw [wrap_in (by omega) (by omega), Int.toNat_natCast, ← List.map_set]
    refine ref_mul_l1 hq a b ha hb n hn r d (m + 1) _ (by omega) (by rw [List.length_set]; exact hy) (fun j => ?_) h
    rw [cf_set _ _ _ _ (by omega), X.mid_step, ← hz j]
    by_cases c : j = n + m
    · subst c; rw [if_pos rfl, if_pos rfl]
    · rw [if_neg c, if_neg c]; grind
theorem ref_mul_l0P [NeZero q] (hq : Sup q) (a b : List (Fin q)) (ha : a.length < 274877906944) (hb : b.length < 274877906944) (hb0 : 0 < b.length) : ∀ (d n : Nat) (ys : List (Fin q)), n + d = a.length → ys.length = a.length + b.length - 1 →
    (∀ j, cf ys j = conv (cf (a.take n)) (cf b) j) → Ev (fun k => privityref04_Mul.l0 k q (a.map V) (b.map V) (ys.map V) (n : Int)) ((pmul a b).map V)
  | 0, n, ys, hn, hy, hz => by
    refine Ev.step (fun k => by rw [privityref04_Mul.l0, if_neg (by rw [len_map]; omega)]) ?_
    have e : ptrim ys = pmul a b := (tr_ptrim ys).eq (tr_pmul a b) (fun j => by rw [cf_ptrim, cf_pmul, hz j, show n = a.length by omega, List.take_length])
    have h := ref_trim_ev (ys := ys) (by omega)
    rw [e] at h
    exact Ev.bind h (Ev.now _)
  | d + 1, n, ys, hn, hy, hz => by
    refine Ev.step (fun k => by rw [privityref04_Mul.l0, if_pos (by rw [len_map]; omega)]) ?_
    exact ref_mul_l1 hq a b ha hb n (by omega) _ b.length 0 ys (by omega) hy (fun j => by rw [X.mid_start, hz j]) (fun ys' h1 h2 => ref_mul_l0P hq a b ha hb hb0 d (n + 1) ys' (by omega) h1 h2)
theorem pmul_nil [NeZero q] {a b : List (Fin q)} (h : a = [] ∨ b = []) : pmul a b = [] := by
  rcases h with rfl | rfl
  · exact (tr_pmul _ _).eq (.inl rfl) (fun i => by rw [cf_pmul, cf_nil]; unfold conv; rw [sumF_ext (m := 0) (Nat.zero_le _) (fun i _ _ => by rw [cf_nil]; grind)]; rfl)
  · exact (tr_pmul _ _).eq (.inl rfl) (fun i => by rw [cf_pmul, cf_nil]; unfold conv; rw [sumF_ext (m := 0) (Nat.zero_le _) (fun i _ _ => by rw [cf_nil]; grind)]; rfl)
theorem ref_mul_evP [NeZero q] (hq : Sup q) (a b : List (Fin q)) (ha : a.length < 274877906944) (hb : b.length < 274877906944) : Ev (fun k => privityref04_Mul.f k q (a.map V) (b.map V)) ((pmul a b).map V) := by
  unfold privityref04_Mul.f
  by_cases h1 : a.length = 0
  · refine Ev.pos (by rw [len_map]; omega) (Ev.step (fun k => by rw [privityref04_Mul.j0, if_pos rfl]) (Ev.eq ?_))
    rw [pmul_nil (.inl (List.length_eq_zero_iff.mp h1))]; rfl
  · refine Ev.neg (by rw [len_map]; omega) ?_
    by_cases h2 : b.length = 0
    · rw [show (((b.map V).length : Int) == 0) = true from beq_iff_eq.mpr (by rw [len_map]; omega)]
      refine Ev.step (fun k => by rw [privityref04_Mul.j0, if_pos rfl]) (Ev.eq ?_)
      rw [pmul_nil (.inr (List.length_eq_zero_iff.mp h2))]; rfl
    · rw [show (((b.map V).length : Int) == 0) = false from beq_eq_false_iff_ne.mpr (by rw [len_map]; omega)]
      have e : wrap64 (wrap64 (((a.map V).length : Int) + ((b.map V).length : Int)) - 1) = ((a.length + b.length - 1 : Nat) : Int) := by
        rw [len_map, len_map, wrap_in (n := (a.length : Int) + (b.length : Int)) (by omega) (by omega), wrap_in (by omega) (by omega)]; omega
      refine Ev.step (fun k => by rw [privityref04_Mul.j0, if_neg (by decide), e, if_pos (by omega), if_pos (by omega), Int.toNat_natCast]) ?_
      have h := ref_mul_l0P hq a b ha hb (by omega) a.length 0 (List.replicate (a.length + b.length - 1) 0) (by omega) List.length_replicate (fun j => by
        rw [X.mid_zero]
        unfold cf
        rw [List.getD_eq_getElem?_getD, List.getElem?_replicate]
        split <;> rfl)
      rw [List.map_replicate, V_zero] at h
      exact h
end Go.Proofs.Ytjkggiemnfigbab.FPoly

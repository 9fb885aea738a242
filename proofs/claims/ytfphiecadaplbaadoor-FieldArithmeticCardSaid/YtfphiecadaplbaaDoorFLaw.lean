/- The field laws: 'fit' and 'awake'. -/
import Derived.Test.YtfphiecadaplbaaDoorFEv
namespace Go.Proofs.YtfphiecadaplbaaDoor.FEv
open Go.RowKit Go.Proofs.YtfphiecadaplbaaDoorW.PrintWords Go.Proofs.YtfphiecadaplbaaDoorW.PrintMore Go.Proofs.YtfphiecadaplbaaDoor.PA Go.Proofs.YtfphiecadaplbaaDoorNum
theorem Fit_ex (n : Int) (h0 : 0 ≤ n) : ∃ p : Nat, Sup p ∧ privityref01_Fit.f n = some (p : Int) := by
  unfold privityref01_Fit.f privityref01_exps.f
  have hm : Int.tmod n (IntKind.u64.wrap (([5, 7, 13, 17, 19, 31, 61] : List Int).length : Int)) = n % 7 := by
    have e : IntKind.u64.wrap (([5, 7, 13, 17, 19, 31, 61] : List Int).length : Int) = 7 := by decide
    rw [e, Int.tmod_eq_emod_of_nonneg h0]
  simp only [Option.bind_some]
  rw [hm]
  have hw : wrap64 (n % 7) = n % 7 := by unfold wrap64; omega
  rw [hw, if_neg (by decide), if_pos (by omega)]
  have : n % 7 = 0 ∨ n % 7 = 1 ∨ n % 7 = 2 ∨ n % 7 = 3 ∨ n % 7 = 4 ∨ n % 7 = 5 ∨ n % 7 = 6 := by omega
  rcases this with h | h | h | h | h | h | h <;> rw [h]
  · exact ⟨31, .inl rfl, by decide⟩
  · exact ⟨127, .inr (.inl rfl), by decide⟩
  · exact ⟨8191, .inr (.inr (.inl rfl)), by decide⟩
  · exact ⟨131071, .inr (.inr (.inr (.inl rfl))), by decide⟩
  · exact ⟨524287, .inr (.inr (.inr (.inr (.inl rfl)))), by decide⟩
  · exact ⟨2147483647, .inr (.inr (.inr (.inr (.inr (.inl rfl))))), by decide⟩
  · exact ⟨2305843009213693951, .inr (.inr (.inr (.inr (.inr (.inr rfl))))), by decide⟩
theorem tmod_V {p : Nat} [NeZero p] {x : Int} (h0 : 0 ≤ x) : Int.tmod x p = V (E x : Fin p) := by rw [V_E h0, Int.tmod_eq_emod_of_nonneg h0]
theorem fit_ex (x0 x1 x2 x3 : Int) (h0 : (Lit.int .u64 x0).wf = true) (h1 : (Lit.int .u64 x1).wf = true) (h2 : (Lit.int .u64 x2).wf = true) (h3 : (Lit.int .u64 x3).wf = true) :
    ∃ (p : Nat) (_ : NeZero p), Sup p ∧ privitylaw01_fit.f x0 x1 x2 x3 = some ((p : Int), V (E x1 : Fin p), V (E x2 : Fin p), V (E x3 : Fin p)) := by
  obtain ⟨p, hp, e⟩ := Fit_ex x0 (wf_u64 h0).1
  have hz := hp.ne
  refine ⟨p, hz, hp, ?_⟩
  unfold privitylaw01_fit.f
  rw [e]
  simp only [Option.bind_some]
  rw [if_neg (by have := hp.le; omega), tmod_V (wf_u64 h1).1, tmod_V (wf_u64 h2).1, tmod_V (wf_u64 h3).1]
theorem s31 : Sup 31 := .inl rfl
theorem s127 : Sup 127 := .inr (.inl rfl)
theorem awake_ev : Ev (fun k => privitylaw01_awake.f k) true := by
  unfold privitylaw01_awake.f
  refine Ev.bind (Ev.to (inverse_ev s31 (a := (2 : Fin 31)) (by decide)) (r' := (16, 0)) (by decide +kernel)) ?_
  refine Ev.bind (Ev.to (sqrt_ev s31 (2 : Fin 31) (by decide +kernel)) (r' := (8, 0)) (by decide +kernel)) ?_
  refine Ev.bind (sqrt_no s31 (3 : Fin 31) (by decide +kernel)) ?_
  refine Ev.bind (inverse_zero (0 : Fin 127) rfl) ?_
  refine Ev.bind (Ev.to (mul_ev s31 (20 : Fin 31) (20 : Fin 31)) (r' := 28) (by decide +kernel)) ?_
  have e1 : field_Supported.f 8191 = some true := by decide
  have e2 : field_Supported.f 7 = some false := by decide
  have e3 : field_Exponent.f 127 = some 7 := by decide
  rw [e1, e2, e3]
  exact Ev.now _

/-! ### The reference's functions -/
section
variable {p : Nat}
theorem ref_add_ev [NeZero p] (hp : Sup p) (a b : Fin p) : Ev (fun _ => privityref01_Add.f p (V a) (V b)) (V (a + b)) := by
  have hl := hp.le
  obtain ⟨ha0, ha1⟩ := V64 hp a
  obtain ⟨hb0, hb1⟩ := V64 hp b
  unfold privityref01_Add.f
  refine Ev.neg (by omega) (Ev.eq ?_)
  rw [w64_in (n := V a + V b) (by omega) (by omega), Int.tmod_eq_emod_of_nonneg (by omega), V_add]
theorem ref_sub_ev [NeZero p] (hp : Sup p) (a b : Fin p) : Ev (fun _ => privityref01_Sub.f p (V a) (V b)) (V (a - b)) := by
  have hl := hp.le
  obtain ⟨ha0, ha1⟩ := V64 hp a
  obtain ⟨hb0, hb1⟩ := V64 hp b
  have hb2 := V_lt b
  unfold privityref01_Sub.f
  refine Ev.neg (by omega) (Ev.eq ?_)
  rw [w64_in (n := V a + (p : Int)) (by omega) (by omega), w64_in (n := V a + (p : Int) - V b) (by omega) (by omega), Int.tmod_eq_emod_of_nonneg (by omega)]
  by_cases h : b = 0
  · subst h
    have e : a - 0 = a := by grind
    have := V_lt a
    rw [e, V_zero, Int.sub_zero, Int.add_emod_right, Int.emod_eq_of_lt ha0 this]
  · have e : a - b = a + -b := by grind
    rw [e, ← V_add, V_neg h]
    congr 1
    omega
theorem ref_neg_ev [NeZero p] (hp : Sup p) (a : Fin p) : Ev (fun _ => privityref01_Neg.f p (V a)) (V (-a)) := by
  have hl := hp.le
  obtain ⟨ha0, ha1⟩ := V64 hp a
  have ha2 := V_lt a
  unfold privityref01_Neg.f
  refine Ev.neg (by omega) (Ev.eq ?_)
  rw [w64_in (n := (p : Int) - V a) (by omega) (by omega), Int.tmod_eq_emod_of_nonneg (by omega)]
  by_cases h : a = 0
  · subst h
    have e : -(0 : Fin p) = 0 := by grind
    rw [e, V_zero, Int.sub_zero, Int.emod_self]
  · have := V_lt (-a)
    have h1 := V_neg h
    rw [← h1, Int.emod_eq_of_lt (V_nonneg _) this]
theorem ref_mul_l0 [NeZero p] (hp : Sup p) : ∀ (n : Nat) (a o : Fin p), n < 18446744073709551616 → Ev (fun k => privityref01_Mul.l0 k p (V a) n (V o)) (V (o + a * el n)) := by
  have hl := hp.le
  intro n
  induction n using Nat.strongRecOn with
  | _ n ih =>
  intro a o hn
  obtain ⟨ha0, ha1⟩ := V64 hp a
  obtain ⟨ho0, ho1⟩ := V64 hp o
  by_cases h : n = 0
  · subst h
    refine Ev.step (fun k => by rw [privityref01_Mul.l0, if_neg (by omega)]) (Ev.eq ?_)
    rw [V_inj, el_zero]
    grind
  · have hm : Int.tmod (n : Int) 2 = (n : Int) % 2 := Int.tmod_eq_emod_of_nonneg (by omega)
    have hd : IntKind.u64.wrap (Int.tdiv (n : Int) 2) = ((n / 2 : Nat) : Int) := by
      rw [Int.tdiv_eq_ediv_of_nonneg (by omega), w64_in (by omega) (by omega)]
      omega
    have h2a : Int.tmod (IntKind.u64.wrap (V a + V a)) p = V (a + a) := by
      rw [w64_in (by omega) (by omega), Int.tmod_eq_emod_of_nonneg (by omega), V_add]
    have hoa : Int.tmod (IntKind.u64.wrap (V o + V a)) p = V (o + a) := by
      rw [w64_in (by omega) (by omega), Int.tmod_eq_emod_of_nonneg (by omega), V_add]
    have hel : (el n : Fin p) = el (n / 2) + el (n / 2) + el (n % 2) := by
      rw [← el_add, ← el_add]
      congr 1
      omega
    by_cases h2 : n % 2 = 1
    · refine Ev.step (fun k => by rw [privityref01_Mul.l0, if_pos (by omega), hm, if_pos (by omega), if_neg (by omega), h2a, hoa, hd]) (Ev.to (ih (n / 2) (by omega) _ _ (by omega)) ?_)
      rw [V_inj, hel, h2, el_one]
      grind
    · refine Ev.step (fun k => by rw [privityref01_Mul.l0, if_pos (by omega), hm, if_neg (by omega), if_neg (by omega), h2a, hd]) (Ev.to (ih (n / 2) (by omega) _ _ (by omega)) ?_)
      rw [V_inj, hel, show n % 2 = 0 by omega, el_zero]
      grind
theorem ref_mul_ev [NeZero p] (hp : Sup p) (a b : Fin p) : Ev (fun k => privityref01_Mul.f k p (V a) (V b)) (V (a * b)) := by
  have hl := hp.le
  have h := ref_mul_l0 hp b.val a 0 (by have := b.isLt; omega)
  unfold privityref01_Mul.f
  refine Ev.to h ?_
  rw [V_inj, el_of]
  grind
theorem ref_pow_ev [NeZero p] (hp : Sup p) : ∀ (n : Nat) (a o : Fin p), n < 18446744073709551616 → Ev (fun k => privityref01_Pow.l0 k p (V a) n (V o)) (V (o * a ^ n)) := by
  intro n
  induction n using Nat.strongRecOn with
  | _ n ih =>
  intro a o hn
  by_cases h : n = 0
  · subst h
    refine Ev.step (fun k => by rw [privityref01_Pow.l0, if_neg (by omega)]) (Ev.eq ?_)
    rw [V_inj, pw_zero]
    grind
  · have hm : Int.tmod (n : Int) 2 = (n : Int) % 2 := Int.tmod_eq_emod_of_nonneg (by omega)
    have hd : IntKind.u64.wrap (Int.tdiv (n : Int) 2) = ((n / 2 : Nat) : Int) := by
      rw [Int.tdiv_eq_ediv_of_nonneg (by omega), w64_in (by omega) (by omega)]
      omega
    have hsq : ∀ b : Fin p, b ^ n = (b * b) ^ (n / 2) * b ^ (n % 2) := by
      intro b
      have e1 : n = 2 * (n / 2) + n % 2 := by omega
      have e2 : b * b = b ^ 2 := by grind
      rw [e2, ← pw_mul, ← pw_add, ← e1]
    by_cases h2 : n % 2 = 1
    · refine Ev.step (fun k => by rw [privityref01_Pow.l0, if_pos (by omega), hm, if_pos (by omega), hd]) ?_
      refine Ev.bind (ref_mul_ev hp o a) (Ev.bind (ref_mul_ev hp a a) (Ev.to (ih (n / 2) (by omega) _ _ (by omega)) ?_))
      rw [V_inj, hsq a, h2, pw_one]
      grind
    · refine Ev.step (fun k => by rw [privityref01_Pow.l0, if_pos (by omega), hm, if_neg (by omega), hd]) ?_
      refine Ev.bind (ref_mul_ev hp a a) (Ev.to (ih (n / 2) (by omega) _ _ (by omega)) ?_)
      rw [V_inj, hsq a, show n % 2 = 0 by omega, pw_zero]
      grind
theorem ref_pow_evN [NeZero p] (hp : Sup p) (a : Fin p) (n : Nat) (hn : n < 18446744073709551616) : Ev (fun k => privityref01_Pow.f k p (V a) n) (V (a ^ n)) := by
  unfold privityref01_Pow.f
  have h := ref_pow_ev hp n a 1 hn
  rw [V_one hp] at h
  refine Ev.to h ?_
  rw [V_inj]
  grind
theorem ref_pow_evI [NeZero p] (hp : Sup p) (a : Fin p) (n : Int) (h0 : 0 ≤ n) (hn : n < 18446744073709551616) : Ev (fun k => privityref01_Pow.f k p (V a) n) (V (a ^ n.toNat)) := by
  have h := ref_pow_evN hp a n.toNat (by omega)
  rwa [Int.toNat_of_nonneg h0] at h
theorem half [NeZero p] (hp : Sup p) : IntKind.u64.wrap (Int.tdiv (IntKind.u64.wrap ((p : Int) - 1)) 2) = ((p : Int) - 1) / 2 := by
  have hl := hp.le
  rw [w64_in (n := (p : Int) - 1) (by omega) (by omega), Int.tdiv_eq_ediv_of_nonneg (by omega), w64_in (by omega) (by omega)]
theorem lesser_val [NeZero p] (hp : Sup p) (r : Fin p) : lesser r = if V r > ((p : Int) - 1) / 2 then p - V r else V r := by
  obtain ⟨m, hm⟩ := hp.four
  have h1 := V_nonneg r
  have h2 := V_lt r
  unfold lesser mn
  by_cases h : r = 0
  · subst h
    have : -(0 : Fin p) = 0 := by grind
    rw [this, V_zero, if_neg (by omega), if_neg (by omega)]
  · rw [V_neg h]
    split <;> split <;> omega
/-- The lesser of an element and its negative: an element that is one of the two. -/
theorem lesser_pm [NeZero p] (r : Fin p) : ∃ s : Fin p, lesser r = V s ∧ (s = r ∨ s = -r) := by
  unfold lesser mn
  by_cases h : V (-r) < V r
  · exact ⟨-r, by rw [if_pos h], .inr rfl⟩
  · exact ⟨r, by rw [if_neg h], .inl rfl⟩
theorem lesser_is [NeZero p] (hp : Sup p) (r : Fin p) : ∃ s : Fin p, lesser r = V s ∧ s * s = r * r ∧ V s ≤ IntKind.u64.wrap (Int.tdiv (IntKind.u64.wrap ((p : Int) - 1)) 2) := by
  obtain ⟨m, hm⟩ := hp.four
  obtain ⟨s, hs, h⟩ := lesser_pm r
  refine ⟨s, hs, by rcases h with rfl | rfl <;> grind, ?_⟩
  rw [half hp, ← hs, lesser_val hp]
  have h1 := V_nonneg r
  split <;> omega
theorem ref_sqrt_ev [NeZero p] (hp : Sup p) (a : Fin p) (h : rt a * rt a = a) : Ev (fun k => privityref01_Sqrt.f k p (V a)) (lesser (rt a), 0) := by
  have hl := hp.le
  unfold privityref01_Sqrt.f
  rw [quarter hp, half hp]
  refine Ev.bind (ref_pow_evN hp a _ (by omega)) (Ev.bind (ref_mul_ev hp _ _) (Ev.pos (V_inj.2 h) ?_))
  refine Ev.congr (f := fun _ => some (if V (rt a) > ((p : Int) - 1) / 2 then (IntKind.u64.wrap (p - V (rt a)), 0) else (V (rt a), 0))) (fun _ => by
    unfold rt
    by_cases c : V (a ^ ((p + 1) / 4)) > ((p : Int) - 1) / 2
    · rw [if_pos c, if_pos c]
    · rw [if_neg c, if_neg c]) ?_
  have h1 := V_nonneg (rt a)
  have h2 := V_lt (rt a)
  rw [lesser_val hp, w64_in (n := (p : Int) - V (rt a)) (by omega) (by omega)]
  refine Ev.eq ?_
  split <;> rfl
theorem ref_sqrt_no [NeZero p] (hp : Sup p) (a : Fin p) (h : rt a * rt a ≠ a) : Ev (fun k => privityref01_Sqrt.f k p (V a)) (0, 8) := by
  have hl := hp.le
  unfold privityref01_Sqrt.f
  rw [quarter hp]
  exact Ev.bind (ref_pow_evN hp a _ (by omega)) (Ev.bind (ref_mul_ev hp _ _) (Ev.neg (fun e => h (V_inj.1 e)) (Ev.now _)))
end
theorem ref_exponent_ev (a : Int) : Ev (fun k => privityref01_Exponent.f k a) (field_Exponent.m 7 0 a) := by
  unfold privityref01_Exponent.f privityref01_exps.f
  simp only [Option.bind_some]
  have key : ∀ n j : Nat, n + j = 7 → Ev (fun k => privityref01_Exponent.l0 k a [5, 7, 13, 17, 19, 31, 61] j) (field_Exponent.m n j a) := by
    intro n
    induction n with
    | zero =>
      intro j hj
      have : j = 7 := by omega
      subst this
      exact Ev.step (f := fun _ => some 0) (fun k => by rw [privityref01_Exponent.l0, if_neg (by decide)]) (Ev.eq rfl)
    | succ n ih =>
      intro j hj
      have h := ih (j + 1) (by omega)
      have hr : rd [5, 7, 13, 17, 19, 31, 61] (j : Int) = field_Exponent.q j := by
        have : j = 0 ∨ j = 1 ∨ j = 2 ∨ j = 3 ∨ j = 4 ∨ j = 5 ∨ j = 6 := by omega
        rcases this with rfl | rfl | rfl | rfl | rfl | rfl | rfl <;> rfl
      have hs : IntKind.u64.wrap ((shl .u64 1 (IntKind.u64.wrap (field_Exponent.q j))) - 1) = field_Exponent.p j ∧ 0 ≤ IntKind.u64.wrap (field_Exponent.q j) := by
        have : j = 0 ∨ j = 1 ∨ j = 2 ∨ j = 3 ∨ j = 4 ∨ j = 5 ∨ j = 6 := by omega
        rcases this with rfl | rfl | rfl | rfl | rfl | rfl | rfl <;> decide
      have hj2 : wrap64 ((j : Int) + 1) = ((j + 1 : Nat) : Int) := by unfold wrap64; omega
      refine Ev.step (fun k => by rw [privityref01_Exponent.l0, if_pos (by simp; omega), if_pos (by omega), hr, if_pos hs.2, hs.1, hj2]) ?_
      by_cases c : a = field_Exponent.p j
      · refine Ev.pos c (Ev.eq ?_)
        rw [field_Exponent.m, if_pos c]
      · refine Ev.neg c (Ev.to h ?_)
        rw [field_Exponent.m, if_neg c]
  exact key 7 0 rfl
end Go.Proofs.YtfphiecadaplbaaDoor.FEv

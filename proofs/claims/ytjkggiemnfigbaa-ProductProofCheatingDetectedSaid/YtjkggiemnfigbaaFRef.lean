/- What the reference's field functions come to: arithmetic in Fin p. -/
import Derived.Test.YtjkggiemnfigbaaFEv
namespace Go.Proofs.Ytjkggiemnfigbaa.FEv
open Go.RowKit Go.Proofs.YtjkggiemnfigbaaW.PrintWords Go.Proofs.YtjkggiemnfigbaaW.PrintMore Go.Proofs.Ytjkggiemnfigbaa.PF Go.Proofs.YtjkggiemnfigbaaNum
theorem Fit_ex (n : Int) (h0 : 0 ≤ n) : ∃ p : Nat, Sup p ∧ privityref01_Fit.f n = some (p : Int) := by
  unfold privityref01_Fit.f privityref01_exps.f
  have hm : Int.tmod n (IntKind.u64.wrap (([5, 7, 13, 17, 19, 31, 61] : List Int).length : Int)) = n % 7 := by
    have e : IntKind.u64.wrap (([5, 7, 13, 17, 19, 31, 61] : List Int).length : Int) = 7 := by decide
    rw [e, Int.tmod_eq_emod_of_nonneg h0]
  simp only [Option.bind_some]
  rw [hm]
  have hw : wrap64 (n % 7) = n % 7 := by unfold wrap64; omega
  rw [hw, if_neg (by decide), if_pos (by omega)]
  have : n % 7 = 0 ∨ n % 7 = 1 ∨ n % 7 = 2 ∨ n % 7 = 3 ∨ n % 7 = 4 ∨ n % 7 = 5 ∨ n % 7 = 6 := by omega
  rcases this with h | h | h | h | h | h | h <;> rw [h]
  · exact ⟨31, .inl rfl, by decide⟩
  · exact ⟨127, .inr (.inl rfl), by decide⟩
  · exact ⟨8191, .inr (.inr (.inl rfl)), by decide⟩
  · exact ⟨131071, .inr (.inr (.inr (.inl rfl))), by decide⟩
  · exact ⟨524287, .inr (.inr (.inr (.inr (.inl rfl)))), by decide⟩
  · exact ⟨2147483647, .inr (.inr (.inr (.inr (.inr (.inl rfl))))), by decide⟩
  · exact ⟨2305843009213693951, .inr (.inr (.inr (.inr (.inr (.inr rfl))))), by decide⟩
theorem tmod_V {p : Nat} [NeZero p] {x : Int} (h0 : 0 ≤ x) : Int.tmod x p = V (E x : Fin p) := by rw [V_E h0, Int.tmod_eq_emod_of_nonneg h0]
/-! ### The reference's functions -/
section
variable {p : Nat}
theorem ref_add_ev [NeZero p] (hp : Sup p) (a b : Fin p) : Ev (fun _ => privityref01_Add.f p (V a) (V b)) (V (a + b)) := by
  have hl := hp.le
  obtain ⟨ha0, ha1⟩ := V64 hp a
  obtain ⟨hb0, hb1⟩ := V64 hp b
  unfold privityref01_Add.f
  refine Ev.neg (by omega) (Ev.eq ?_)
  rw [w64_in (n := V a + V b) (by omega) (by omega), Int.tmod_eq_emod_of_nonneg (by omega), V_add]
theorem ref_sub_ev [NeZero p] (hp : Sup p) (a b : Fin p) : Ev (fun _ => privityref01_Sub.f p (V a) (V b)) (V (a - b)) := by
  have hl := hp.le
  obtain ⟨ha0, ha1⟩ := V64 hp a
  obtain ⟨hb0, hb1⟩ := V64 hp b
  have hb2 := V_lt b
  unfold privityref01_Sub.f
  refine Ev.neg (by omega) (Ev.eq ?_)
  rw [w64_in (n := V a + (p : Int)) (by omega) (by omega), w64_in (n := V a + (p : Int) - V b) (by omega) (by omega), Int.tmod_eq_emod_of_nonneg (by omega)]
  by_cases h : b = 0
  · subst h
    have e : a - 0 = a := by grind
    have := V_lt a
    rw [e, V_zero, Int.sub_zero, Int.add_emod_right, Int.emod_eq_of_lt ha0 this]
  · have e : a - b = a + -b := by grind
    rw [e, ← V_add, V_neg h]
    congr 1
    omega
theorem ref_mul_l0 [NeZero p] (hp : Sup p) : ∀ (n : Nat) (a o : Fin p), n < 18446744073709551616 → Ev (fun k => privityref01_Mul.l0 k p (V a) n (V o)) (V (o + a * el n)) := by
  have hl := hp.le
  intro n
  induction n using Nat.strongRecOn with
  | _ n ih =>
  intro a o hn
  obtain ⟨ha0, ha1⟩ := V64 hp a
  obtain ⟨ho0, ho1⟩ := V64 hp o
  by_cases h : n = 0
  · subst h
    refine Ev.step (fun k => by rw [privityref01_Mul.l0, if_neg (by omega)]) (Ev.eq ?_)
    rw [V_inj, el_zero]
    grind
  · have hm : Int.tmod (n : Int) 2 = (n : Int) % 2 := Int.tmod_eq_emod_of_nonneg (by omega)
    have hd : IntKind.u64.wrap (Int.tdiv (n : Int) 2) = ((n / 2 : Nat) : Int) := by
      rw [Int.tdiv_eq_ediv_of_nonneg (by omega), w64_in (by omega) (by omega)]
      omega
    have h2a : Int.tmod (IntKind.u64.wrap (V a + V a)) p = V (a + a) := by
      rw [w64_in (by omega) (by omega), Int.tmod_eq_emod_of_nonneg (by omega), V_add]
    have hoa : Int.tmod (IntKind.u64.wrap (V o + V a)) p = V (o + a) := by
      rw [w64_in (by omega) (by omega), Int.tmod_eq_emod_of_nonneg (by omega), V_add]
    have hel : (el n : Fin p) = el (n / 2) + el (n / 2) + el (n % 2) := by
      rw [← el_add, ← el_add]
      congr 1
      omega
    by_cases h2 : n % 2 = 1
    · refine Ev.step (fun k => by rw [privityref01_Mul.l0, if_pos (by omega), hm, if_pos (by omega), if_neg (by omega), h2a, hoa, hd]) (Ev.to (ih (n / 2) (by omega) _ _ (by omega)) ?_)
      rw [V_inj, hel, h2, el_one]
      grind
    · refine Ev.step (fun k => by rw [privityref01_Mul.l0, if_pos (by omega), hm, if_neg (by omega), if_neg (by omega), h2a, hd]) (Ev.to (ih (n / 2) (by omega) _ _ (by omega)) ?_)
      rw [V_inj, hel, show n % 2 = 0 by omega, el_zero]
      grind
theorem ref_mul_ev [NeZero p] (hp : Sup p) (a b : Fin p) : Ev (fun k => privityref01_Mul.f k p (V a) (V b)) (V (a * b)) := by
  have hl := hp.le
  have h := ref_mul_l0 hp b.val a 0 (by have := b.isLt; omega)
  unfold privityref01_Mul.f
  refine Ev.to h ?_
  rw [V_inj, el_of]
  grind
theorem ref_pow_ev [NeZero p] (hp : Sup p) : ∀ (n : Nat) (a o : Fin p), n < 18446744073709551616 → Ev (fun k => privityref01_Pow.l0 k p (V a) n (V o)) (V (o * a ^ n)) := by
  intro n
  induction n using Nat.strongRecOn with
  | _ n ih =>
  intro a o hn
  by_cases h : n = 0
  · subst h
    refine Ev.step (fun k => by rw [privityref01_Pow.l0, if_neg (by omega)]) (Ev.eq ?_)
    rw [V_inj, pw_zero]
    grind
  · have hm : Int.tmod (n : Int) 2 = (n : Int) % 2 := Int.tmod_eq_emod_of_nonneg (by omega)
    have hd : IntKind.u64.wrap (Int.tdiv (n : Int) 2) = ((n / 2 : Nat) : Int) := by
      rw [Int.tdiv_eq_ediv_of_nonneg (by omega), w64_in (by omega) (by omega)]
      omega
    have hsq : ∀ b : Fin p, b ^ n = (b * b) ^ (n / 2) * b ^ (n % 2) := by
      intro b
      have e1 : n = 2 * (n / 2) + n % 2 := by omega
      have e2 : b * b = b ^ 2 := by grind
      rw [e2, ← pw_mul, ← pw_add, ← e1]
    by_cases h2 : n % 2 = 1
    · refine Ev.step (fun k => by rw [privityref01_Pow.l0, if_pos (by omega), hm, if_pos (by omega), hd]) ?_
      refine Ev.bind (ref_mul_ev hp o a) (Ev.bind (ref_mul_ev hp a a) (Ev.to (ih (n / 2) (by omega) _ _ (by omega)) ?_))
      rw [V_inj, hsq a, h2, pw_one]
      grind
    · refine Ev.step (fun k => by rw [privityref01_Pow.l0, if_pos (by omega), hm, if_neg (by omega), hd]) ?_
      refine Ev.bind (ref_mul_ev hp a a) (Ev.to (ih (n / 2) (by omega) _ _ (by omega)) ?_)
      rw [V_inj, hsq a, show n % 2 = 0 by omega, pw_zero]
      grind
theorem ref_pow_evN [NeZero p] (hp : Sup p) (a : Fin p) (n : Nat) (hn : n < 18446744073709551616) : Ev (fun k => privityref01_Pow.f k p (V a) n) (V (a ^ n)) := by
  unfold privityref01_Pow.f
  have h := ref_pow_ev hp n a 1 hn
  rw [V_one hp] at h
  refine Ev.to h ?_
  rw [V_inj]
  grind
theorem ref_pow_evI [NeZero p] (hp : Sup p) (a : Fin p) (n : Int) (h0 : 0 ≤ n) (hn : n < 18446744073709551616) : Ev (fun k => privityref01_Pow.f k p (V a) n) (V (a ^ n.toNat)) := by
  have h := ref_pow_evN hp a n.toNat (by omega)
  rwa [Int.toNat_of_nonneg h0] at h
theorem ref_inverse_ev [NeZero p] (hp : Sup p) {a : Fin p} (ha : a ≠ 0) : Ev (fun k => privityref01_Inverse.f k p (V a)) (V (inv a), 0) := by
  have hl := hp.le
  unfold privityref01_Inverse.f
  refine Ev.neg (fun e => ha (V_eq_zero.1 e)) ?_
  rw [w64_in (n := (p : Int) - 2) (by omega) (by omega), show (p : Int) - 2 = ((p - 2 : Nat) : Int) by omega]
  exact Ev.bind (ref_pow_evN hp a (p - 2) (by omega)) (Ev.now _)
theorem ref_inverse_zero [NeZero p] (a : Fin p) (ha : a = 0) : Ev (fun k => privityref01_Inverse.f k p (V a)) (0, 8) := by
  unfold privityref01_Inverse.f
  exact Ev.pos (V_eq_zero.2 ha) (Ev.now _)
end
end Go.Proofs.Ytjkggiemnfigbaa.FEv

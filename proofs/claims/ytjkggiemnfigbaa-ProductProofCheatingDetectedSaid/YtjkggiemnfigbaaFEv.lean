/- What the printed functions of the package field come to: arithmetic in Fin p, for each of the seven primes. -/
import Derived.Test.YtjkggiemnfigbaaNum
import Derived.Test.YtjkggiemnfigbaaPFx
import Derived.Laws.BitsLemmas
namespace Go.Proofs.Ytjkggiemnfigbaa.FEv
open Go.RowKit Go.Proofs.YtjkggiemnfigbaaW.PrintWords Go.Proofs.YtjkggiemnfigbaaW.PrintMore Go.Proofs.Ytjkggiemnfigbaa.PF Go.Proofs.YtjkggiemnfigbaaNum

/-! ### Small words on rounds -/
theorem Ev.pos {α : Type} {c : Prop} [Decidable c] {f g : Nat → Option α} {r : α} (hc : c) (h : Ev f r) : Ev (fun k => if c then f k else g k) r := by
  simpa only [if_pos hc] using h
theorem Ev.neg {α : Type} {c : Prop} [Decidable c] {f g : Nat → Option α} {r : α} (hc : ¬ c) (h : Ev g r) : Ev (fun k => if c then f k else g k) r := by
  simpa only [if_neg hc] using h
theorem Ev.eq {α : Type} {r r' : α} (h : r = r') : Ev (fun _ => some r) r' := h ▸ Ev.now r
theorem Ev.to {α : Type} {g : Nat → Option α} {r r' : α} (h : Ev g r) (e : r = r') : Ev g r' := e ▸ h

/-! ### Numbers of 64 bits -/
theorem w64 (n : Int) : IntKind.u64.wrap n = n % 18446744073709551616 := by simp [IntKind.wrap, IntKind.bits, IntKind.signed]
theorem w64_in {n : Int} (h0 : 0 ≤ n) (h1 : n < 18446744073709551616) : IntKind.u64.wrap n = n := by rw [w64]; omega
theorem wraps_u64 (n : Int) (h0 : 0 ≤ n) (h1 : n < 2 ^ 64) : IntKind.u64.wrap n = n := w64_in h0 (by omega)
theorem and_mask (i : Nat) (hi : i ≤ 64) (x : Int) (h0 : 0 ≤ x) (h1 : x < 18446744073709551616) : Go.bits .and .u64 x (2 ^ i - 1) = x % 2 ^ i :=
  bits_mask .u64 64 (by decide) wraps_u64 i hi x h0 (by omega)
theorem or_join (i : Nat) (x y : Int) (hx0 : 0 ≤ x) (hx : x % 2 ^ i = 0) (hx1 : x < 18446744073709551616) (hy0 : 0 ≤ y) (hy : y < 2 ^ i) (hy1 : y < 18446744073709551616) : Go.bits .or .u64 y x = x + y := by
  rw [← bits_join .u64 64 (by decide) wraps_u64 i x y hx0 hx (by omega) hy0 hy (by omega)]
  obtain ⟨a, rfl⟩ := Int.eq_ofNat_of_zero_le hx0
  obtain ⟨b, rfl⟩ := Int.eq_ofNat_of_zero_le hy0
  rw [(bits_nat .u64 64 (by decide) wraps_u64 b a (by omega) (by omega)).2, (bits_nat .u64 64 (by decide) wraps_u64 a b (by omega) (by omega)).2, Nat.or_comm]
theorem wf_u64 {n : Int} (h : (Lit.int .u64 n).wf = true) : 0 ≤ n ∧ n < 18446744073709551616 := by
  simp [Lit.wf, IntKind.min, IntKind.max, IntKind.bits, IntKind.signed] at h
  omega

/-! ### fold -/
/-- One step of fold at the exponent q: what 'hi' and 'lo' become. -/
theorem fold_step (q : Nat) (Q R : Int) (hQ : (2 : Int) ^ q = Q) (hR : (2 : Int) ^ (64 - q) = R) (hq0 : 0 < q) (hq : q < 64) (hi lo : Int) (h3 : 0 ≤ lo) (h4 : lo < 18446744073709551616)
    (hQR : Q * R = 18446744073709551616) (hQ2 : 2 ≤ Q) (hR2 : 2 ≤ R) :
    Go.bits .or .u64 (shr .u64 lo q) (shl .u64 hi (IntKind.u64.wrap (64 - q))) = lo / Q + (hi % Q) * R ∧ Go.bits .and .u64 lo (Q - 1) = lo % Q ∧ shr .u64 hi q = hi / Q ∧ 0 ≤ lo / Q + (hi % Q) * R := by
  have e64 : IntKind.u64.bits = 64 := rfl
  have s1 : ∀ x : Int, shr .u64 x q = x / Q := by
    intro x
    unfold shr
    rw [e64, Int.toNat_natCast, Nat.min_eq_left (by omega), hQ]
  have hR0 : 0 < R := by omega
  have s2 : shl .u64 hi (IntKind.u64.wrap (64 - q)) = (hi % Q) * R := by
    unfold shl
    rw [w64_in (n := 64 - (q : Int)) (by omega) (by omega), e64, show ((64 : Int) - q).toNat = 64 - q by omega, Nat.min_eq_left (by omega), hR, w64]
    rw [← hQR]
    rw [Int.mul_comm Q R, Int.mul_comm hi R, Int.mul_emod_mul_of_pos _ _ hR0, Int.mul_comm]
  have b1 : 0 ≤ hi % Q := Int.emod_nonneg _ (by omega)
  have b2 : hi % Q < Q := Int.emod_lt_of_pos _ (by omega)
  have b3 : 0 ≤ lo / Q := Int.ediv_nonneg h3 (by omega)
  have b4 : lo / Q < R := by
    apply Int.ediv_lt_of_lt_mul (by omega)
    rw [Int.mul_comm, hQR]
    exact h4
  have b5 : 0 ≤ (hi % Q) * R := Int.mul_nonneg b1 (by omega)
  have b6 : (hi % Q) * R + R ≤ Q * R := by
    have : (hi % Q + 1) * R ≤ Q * R := Int.mul_le_mul_of_nonneg_right (by omega) (by omega)
    rwa [Int.add_mul, Int.one_mul] at this
  rw [hQR] at b6
  refine ⟨?_, ?_, s1 hi, by omega⟩
  · rw [s1, s2, or_join (64 - q) _ _ b5 (by rw [hR]; exact Int.mul_emod_left _ _) (by omega) b3 (by rw [hR]; exact b4) (by omega)]
    omega
  · rw [← hQ]
    exact and_mask q (by omega) lo h3 h4

theorem l0_ev (p : Int) (q : Nat) (Q R : Int) (hQ : (2 : Int) ^ q = Q) (hR : (2 : Int) ^ (64 - q) = R) (hq0 : 0 < q) (hq : q < 64) (hp : p = Q - 1) (hQR : Q * R = 18446744073709551616) (hQ2 : 3 ≤ Q) (hR2 : 2 ≤ R) :
    ∀ (n : Nat) (hi lo : Int), 0 ≤ hi → hi < 18446744073709551616 → 0 ≤ lo → lo < 18446744073709551616 → hi * 18446744073709551616 + lo = n →
      Ev (fun k => field_fold.l0 k p hi lo q) ((hi * 18446744073709551616 + lo) % p) := by
  intro n
  induction n using Nat.strongRecOn with
  | _ n ih =>
  intro hi lo h1 h2 h3 h4 hn
  subst hp
  -- the step
  have stp : hi ≠ 0 ∨ lo > Q - 1 → Ev (fun k => (bits_Add64.f (Go.bits .or .u64 (shr .u64 lo q) (shl .u64 hi (IntKind.u64.wrap (64 - q)))) (Go.bits .and .u64 lo (Q - 1)) 0).bind fun bt => field_fold.l0 k (Q - 1) (IntKind.u64.wrap ((shr .u64 hi q) + bt.2)) bt.1 q) ((hi * 18446744073709551616 + lo) % (Q - 1)) := by
    intro hbig
    obtain ⟨s1, s2, s3, s4⟩ := fold_step q Q R hQ hR hq0 hq hi lo h3 h4 hQR (by omega) hR2
    rw [s1, s2, s3]
    have b1 : 0 ≤ lo % Q := Int.emod_nonneg _ (by omega)
    have b1' : lo % Q < Q := Int.emod_lt_of_pos _ (by omega)
    have ea : bits_Add64.f (lo / Q + (hi % Q) * R) (lo % Q) 0 = some ((lo / Q + (hi % Q) * R + lo % Q + 0) % 18446744073709551616, (lo / Q + (hi % Q) * R + lo % Q + 0) / 18446744073709551616) := by
      unfold bits_Add64.f
      rw [if_pos ⟨s4, b1, by omega, by omega⟩]
    rw [ea]
    simp only [Option.bind_some, Int.add_zero]
    -- the numbers
    obtain ⟨S, hS⟩ : ∃ S, lo / Q + (hi % Q) * R + lo % Q = S := ⟨_, rfl⟩
    rw [hS]
    have hi1 : hi = Q * (hi / Q) + hi % Q := (Int.mul_ediv_add_emod hi Q).symm
    have lo1 : lo = Q * (lo / Q) + lo % Q := (Int.mul_ediv_add_emod lo Q).symm
    have c1 : 0 ≤ hi / Q := Int.ediv_nonneg h1 (by omega)
    have c2 : 0 ≤ lo / Q := Int.ediv_nonneg h3 (by omega)
    have c3 : 0 ≤ hi % Q := Int.emod_nonneg _ (by omega)
    -- hi * 2^64 + lo = Q * D + lo % Q, D = (hi/Q) * 2^64 + (hi%Q) * R + lo/Q
    have hD : hi * 18446744073709551616 + lo = Q * ((hi / Q) * 18446744073709551616 + (hi % Q) * R + lo / Q) + lo % Q := by
      rw [← hQR]
      have e1 : hi * (Q * R) = (Q * (hi / Q) + hi % Q) * (Q * R) := by rw [← hi1]
      have e2 : (Q * (hi / Q) + hi % Q) * (Q * R) = Q * ((hi / Q) * (Q * R) + (hi % Q) * R) := by grind
      rw [e1, e2]
      have e3 : Q * (hi / Q * (Q * R) + hi % Q * R + lo / Q) + lo % Q = Q * (hi / Q * (Q * R) + hi % Q * R) + (Q * (lo / Q) + lo % Q) := by grind
      rw [e3, ← lo1]
    obtain ⟨D, hDD⟩ : ∃ D, (hi / Q) * 18446744073709551616 + (hi % Q) * R + lo / Q = D := ⟨_, rfl⟩
    rw [hDD] at hD
    have hnew : (hi / Q) * 18446744073709551616 + S = D + lo % Q := by omega
    have hS0 : 0 ≤ S := by have := Int.mul_nonneg c3 (show (0:Int) ≤ R by omega); omega
    have hD0 : 0 ≤ D := by have := Int.mul_nonneg c3 (show (0:Int) ≤ R by omega); omega
    have hQb : Q * 2 ≤ Q * R := Int.mul_le_mul_of_nonneg_left hR2 (by omega)
    rw [hQR] at hQb
    -- D is at least 1
    have hD1 : 1 ≤ D := by
      rcases Int.lt_or_le D 1 with h | h
      · have : D = 0 := by omega
        rw [this, Int.mul_zero] at hD
        omega
      · exact h
    have hQD : Q * D ≥ 3 * D := Int.mul_le_mul_of_nonneg_right hQ2 hD0
    have hless : D + lo % Q < hi * 18446744073709551616 + lo := by omega
    have hhi' : hi / Q + S / 18446744073709551616 < 18446744073709551616 := by
      have : S / 18446744073709551616 * 18446744073709551616 ≤ S := by omega
      have h9 : (hi / Q + S / 18446744073709551616) * 18446744073709551616 ≤ D + lo % Q := by omega
      omega
    rw [w64_in (by omega) hhi']
    have hsum : (hi / Q + S / 18446744073709551616) * 18446744073709551616 + S % 18446744073709551616 = D + lo % Q := by omega
    have h := ih (D + lo % Q).toNat (by omega) (hi / Q + S / 18446744073709551616) (S % 18446744073709551616) (by omega) hhi' (by omega) (by omega) (by omega)
    refine Ev.to h ?_
    rw [hsum, hD]
    have e4 : Q * D + lo % Q = (D + lo % Q) + (Q - 1) * D := by grind
    rw [e4, Int.add_mul_emod_self_left]
  have hw : (0 : Int) ≤ IntKind.u64.wrap (64 - q) := by rw [w64_in (by omega) (by omega)]; omega
  by_cases c : hi = 0
  · by_cases c2 : lo > Q - 1
    · refine Ev.step (fun k => by rw [field_fold.l0, if_pos c, if_pos c2, if_pos (by omega), if_pos hw]) (stp (.inr c2))
    · refine Ev.step (f := fun k => some ((hi * 18446744073709551616 + lo) % (Q - 1))) (fun k => ?_) (Ev.now _)
      rw [field_fold.l0, if_pos c, if_neg c2]
      subst c
      by_cases c3 : lo = Q - 1
      · rw [if_pos c3, c3]; simp
      · rw [if_neg c3]
        congr 1
        rw [Int.emod_eq_of_lt (by omega) (by omega)]
        omega
  · refine Ev.step (fun k => by rw [field_fold.l0, if_neg c, if_pos (by omega), if_pos hw]) (stp (.inl c))

theorem width_eq {p : Nat} (hp : Sup p) : ∃ q : Nat, 2 ^ q = p + 1 ∧ 2 < q ∧ q < 64 ∧ field_width.f (p : Int) = some (q : Int) := by
  have key : ∀ q : Nat, q < 64 → Lib.bitLen (2 ^ q - 1) = q → 2 ^ q - 1 < 18446744073709551616 → field_width.f ((2 ^ q - 1 : Nat) : Int) = some (q : Int) := by
    intro q hq h h2
    unfold field_width.f bits_Len64.f
    rw [if_pos ⟨by omega, by omega⟩, Int.toNat_natCast, h]
    simp only [Option.bind_some]
    rw [w64_in (by omega) (by omega)]
  rcases hp with rfl | rfl | rfl | rfl | rfl | rfl | rfl
  · exact ⟨5, by decide, by decide, by decide, key 5 (by decide) (by decide +kernel) (by decide)⟩
  · exact ⟨7, by decide, by decide, by decide, key 7 (by decide) (by decide +kernel) (by decide)⟩
  · exact ⟨13, by decide, by decide, by decide, key 13 (by decide) (by decide +kernel) (by decide)⟩
  · exact ⟨17, by decide, by decide, by decide, key 17 (by decide) (by decide +kernel) (by decide)⟩
  · exact ⟨19, by decide, by decide, by decide, key 19 (by decide) (by decide +kernel) (by decide)⟩
  · exact ⟨31, by decide, by decide, by decide, key 31 (by decide) (by decide +kernel) (by decide)⟩
  · exact ⟨61, by decide, by decide, by decide, key 61 (by decide) (by decide +kernel) (by decide)⟩

theorem fold_ev {p : Nat} (hp : Sup p) (hi lo : Int) (h1 : 0 ≤ hi) (h2 : hi < 18446744073709551616) (h3 : 0 ≤ lo) (h4 : lo < 18446744073709551616) :
    Ev (fun k => field_fold.f k p hi lo) ((hi * 18446744073709551616 + lo) % p) := by
  obtain ⟨q, hq, hq0, hq64, hw⟩ := width_eq hp
  refine Ev.congr (f := fun k => field_fold.l0 k p hi lo q) (fun k => by unfold field_fold.f; rw [hw]; rfl) ?_
  have hl := hp.le
  have hQ : (2 : Int) ^ q = (p : Int) + 1 := by
    have : ((2 ^ q : Nat) : Int) = ((p + 1 : Nat) : Int) := by rw [hq]
    simpa using this
  have hmul : (2 : Int) ^ q * 2 ^ (64 - q) = 18446744073709551616 := by
    rw [← Int.pow_add, Nat.add_sub_cancel' (by omega)]
    rfl
  have hR2 : (2 : Int) ≤ 2 ^ (64 - q) := by
    have h : (2 : Nat) ^ 1 ≤ 2 ^ (64 - q) := Nat.pow_le_pow_right (by decide) (by omega)
    have h5 : ((2 ^ 1 : Nat) : Int) ≤ ((2 ^ (64 - q) : Nat) : Int) := Int.ofNat_le.2 h
    simpa using h5
  exact l0_ev p q ((p : Int) + 1) (2 ^ (64 - q)) hQ rfl (by omega) hq64 (by omega) (by rw [← hQ]; exact hmul) (by omega) hR2 (hi * 18446744073709551616 + lo).toNat hi lo h1 h2 h3 h4 (by omega)

/-! ### Elements -/
section
variable {p : Nat}
def V (a : Fin p) : Int := (a.val : Int)
theorem V_inj {a b : Fin p} : V a = V b ↔ a = b := by
  unfold V
  constructor
  · intro h; exact Fin.ext (by omega)
  · rintro rfl; rfl
theorem V_nonneg (a : Fin p) : 0 ≤ V a := Int.natCast_nonneg _
theorem V_lt (a : Fin p) : V a < p := by unfold V; have := a.isLt; omega
theorem V64 (hp : Sup p) (a : Fin p) : 0 ≤ V a ∧ V a < 2305843009213693951 := ⟨V_nonneg a, by have := V_lt a; have := hp.le; omega⟩
theorem V_mul (a b : Fin p) : (V a * V b) % p = V (a * b) := by
  unfold V
  rw [Fin.val_mul, Int.natCast_emod, Int.natCast_mul]
theorem V_add (a b : Fin p) : (V a + V b) % p = V (a + b) := by
  unfold V
  rw [Fin.val_add, Int.natCast_emod, Int.natCast_add]
theorem quarter (hp : Sup p) : IntKind.u64.wrap (Int.tdiv (IntKind.u64.wrap ((p : Int) + 1)) 4) = (((p + 1) / 4 : Nat) : Int) := by
  have hl := hp.le
  rw [w64_in (n := (p : Int) + 1) (by omega) (by omega), Int.tdiv_eq_ediv_of_nonneg (by omega), w64_in (by omega) (by omega)]
  omega
end
section
variable {p : Nat}
theorem V_zero [NeZero p] : V (0 : Fin p) = 0 := rfl
theorem V_eq_zero [NeZero p] {a : Fin p} : V a = 0 ↔ a = 0 := by rw [← V_zero (p := p), V_inj]
theorem V_one [NeZero p] (hp : Sup p) : V (1 : Fin p) = 1 := by
  have h : (1 : Fin p).val = 1 % p := rfl
  unfold V
  rw [h, Nat.mod_eq_of_lt (by have := hp.le; omega)]
  rfl
/-- The element of a number. -/
def E [NeZero p] (x : Int) : Fin p := el x.toNat
theorem V_E [NeZero p] {x : Int} (h0 : 0 ≤ x) : V (E x : Fin p) = x % p := by
  unfold V E
  rw [el_val, Int.natCast_emod, Int.toNat_of_nonneg h0]
theorem V_E_lt [NeZero p] {x : Int} (h0 : 0 ≤ x) (h1 : x < p) : V (E x : Fin p) = x := by rw [V_E h0, Int.emod_eq_of_lt h0 h1]
theorem E_V [NeZero p] (a : Fin p) : E (V a) = a := by unfold E V; rw [Int.toNat_natCast, el_of]
theorem V_neg [NeZero p] {a : Fin p} (ha : a ≠ 0) : V (-a) = p - V a := by
  have h : (-a).val = (p - a.val) % p := by rw [Fin.neg_def]
  have h2 : a.val ≠ 0 := fun h => ha (Fin.ext h)
  unfold V
  rw [h, Nat.mod_eq_of_lt (by omega)]
  have := a.isLt
  omega

theorem mul64 (x y : Int) (hx : 0 ≤ x) (hx1 : x < 18446744073709551616) (hy : 0 ≤ y) (hy1 : y < 18446744073709551616) :
    ∃ h l, bits_Mul64.f x y = some (h, l) ∧ 0 ≤ h ∧ h < 18446744073709551616 ∧ 0 ≤ l ∧ l < 18446744073709551616 ∧ h * 18446744073709551616 + l = x * y := by
  have m1 : Go.bits .and .u64 x 4294967295 = x % 4294967296 := and_mask 32 (by decide) x hx hx1
  have m2 : Go.bits .and .u64 y 4294967295 = y % 4294967296 := and_mask 32 (by decide) y hy hy1
  unfold bits_Mul64.f
  rw [m1, m2]
  obtain ⟨x0, hx0⟩ : ∃ x0, x % 4294967296 = x0 := ⟨_, rfl⟩
  obtain ⟨x1, hx1'⟩ : ∃ x1, x / 4294967296 = x1 := ⟨_, rfl⟩
  obtain ⟨y0, hy0⟩ : ∃ y0, y % 4294967296 = y0 := ⟨_, rfl⟩
  obtain ⟨y1, hy1'⟩ : ∃ y1, y / 4294967296 = y1 := ⟨_, rfl⟩
  rw [hx0, hx1', hy0, hy1']
  have bx0 : 0 ≤ x0 ∧ x0 ≤ 4294967295 := by omega
  have bx1 : 0 ≤ x1 ∧ x1 ≤ 4294967295 := by omega
  have by0 : 0 ≤ y0 ∧ y0 ≤ 4294967295 := by omega
  have by1 : 0 ≤ y1 ∧ y1 ≤ 4294967295 := by omega
  have ex : x = x1 * 4294967296 + x0 := by omega
  have ey : y = y1 * 4294967296 + y0 := by omega
  have exy : x * y = (x1 * y1) * 18446744073709551616 + (x1 * y0 + x0 * y1) * 4294967296 + x0 * y0 := by
    rw [ex, ey]
    grind
  have bnd : ∀ a b : Int, 0 ≤ a → a ≤ 4294967295 → 0 ≤ b → b ≤ 4294967295 → 0 ≤ a * b ∧ a * b ≤ 4294967295 * 4294967295 :=
    fun a b h1 h2 h3 h4 => ⟨Int.mul_nonneg h1 h3, Int.mul_le_mul h2 h4 h3 (by omega)⟩
  have b00 := bnd x0 y0 bx0.1 bx0.2 by0.1 by0.2
  have b01 := bnd x0 y1 bx0.1 bx0.2 by1.1 by1.2
  have b10 := bnd x1 y0 bx1.1 bx1.2 by0.1 by0.2
  have b11 := bnd x1 y1 bx1.1 bx1.2 by1.1 by1.2
  rw [exy]
  generalize x0 * y0 = A at *
  generalize x0 * y1 = B at *
  generalize x1 * y0 = C at *
  generalize x1 * y1 = D at *
  have r1 : (C + A / 4294967296) % 4294967296 = Go.bits .and .u64 (C + A / 4294967296) 4294967295 := (and_mask 32 (by decide) _ (by omega) (by omega)).symm
  simp only [w64]
  rw [Int.emod_eq_of_lt (a := A) (by omega) (by omega), Int.emod_eq_of_lt (a := C) (by omega) (by omega), Int.emod_eq_of_lt (a := C + A / 4294967296) (by omega) (by omega), ← r1]
  refine ⟨_, _, rfl, by omega, by omega, by omega, by omega, ?_⟩
  have e2 : (D * 18446744073709551616 + (C + B) * 4294967296 + A) % 18446744073709551616 = ((C + B) * 4294967296 + A) % 18446744073709551616 := by omega
  rw [e2]
  omega

theorem mul_ev [NeZero p] (hp : Sup p) (a b : Fin p) : Ev (fun k => field_Mul.f k p (V a) (V b)) (V (a * b)) := by
  obtain ⟨ha0, ha1⟩ := V64 hp a
  obtain ⟨hb0, hb1⟩ := V64 hp b
  obtain ⟨h, l, e, h0, h1, l0, l1, hl⟩ := mul64 (V a) (V b) ha0 (by omega) hb0 (by omega)
  unfold field_Mul.f
  rw [e]
  simp only [Option.bind_some]
  refine Ev.bind (fold_ev hp h l h0 h1 l0 l1) (Ev.eq ?_)
  rw [hl, V_mul]
theorem reduce_ev [NeZero p] (hp : Sup p) (n : Int) (h0 : 0 ≤ n) (h1 : n < 18446744073709551616) : Ev (fun k => field_Reduce.f k p n) (V (E n : Fin p)) := by
  unfold field_Reduce.f
  refine Ev.bind (fold_ev hp 0 n (by omega) (by omega) h0 h1) (Ev.eq ?_)
  rw [V_E h0]
  simp
theorem add_ev [NeZero p] (hp : Sup p) (a b : Fin p) : Ev (fun k => field_Add.f k p (V a) (V b)) (V (a + b)) := by
  obtain ⟨ha0, ha1⟩ := V64 hp a
  obtain ⟨hb0, hb1⟩ := V64 hp b
  unfold field_Add.f
  rw [w64_in (by omega) (by omega)]
  refine Ev.bind (fold_ev hp 0 _ (by omega) (by omega) (by omega) (by omega)) (Ev.eq ?_)
  rw [← V_add]
  simp
theorem neg_eq [NeZero p] (hp : Sup p) (a : Fin p) : field_Neg.f p (V a) = some (V (-a)) := by
  obtain ⟨ha0, ha1⟩ := V64 hp a
  unfold field_Neg.f
  by_cases h : a = 0
  · subst h
    rw [if_pos V_zero]
    have : -(0 : Fin p) = 0 := by grind
    rw [this, V_zero]
  · rw [if_neg (fun e => h (V_eq_zero.1 e)), V_neg h, w64_in]
    · have := V_lt a; omega
    · have := hp.le; omega
theorem neg_ev [NeZero p] (hp : Sup p) (a : Fin p) : Ev (fun _ => field_Neg.f p (V a)) (V (-a)) := by
  rw [neg_eq hp]
  exact Ev.now _
theorem sub_ev [NeZero p] (hp : Sup p) (a b : Fin p) : Ev (fun k => field_Sub.f k p (V a) (V b)) (V (a - b)) := by
  unfold field_Sub.f
  rw [neg_eq hp]
  simp only [Option.bind_some]
  refine Ev.bind (add_ev hp a (-b)) (Ev.eq ?_)
  rw [V_inj]
  grind
theorem pow_ev [NeZero p] (hp : Sup p) : ∀ (n : Nat) (a o : Fin p), n < 18446744073709551616 → Ev (fun k => field_Pow.l0 k p (V a) n (V o)) (V (o * a ^ n)) := by
  intro n
  induction n using Nat.strongRecOn with
  | _ n ih =>
  intro a o hn
  by_cases h : n = 0
  · subst h
    refine Ev.step (fun k => by rw [field_Pow.l0, if_neg (by omega)]) (Ev.eq ?_)
    rw [V_inj, pw_zero]
    grind
  · have hm : Go.bits .and .u64 (n : Int) 1 = (n : Int) % 2 := and_mask 1 (by decide) _ (by omega) (by omega)
    have hd : (n : Int) / 2 = ((n / 2 : Nat) : Int) := by omega
    have hsq : ∀ b : Fin p, b ^ n = (b * b) ^ (n / 2) * b ^ (n % 2) := by
      intro b
      have e1 : n = 2 * (n / 2) + n % 2 := by omega
      have e2 : b * b = b ^ 2 := by grind
      rw [e2, ← pw_mul, ← pw_add, ← e1]
    by_cases h2 : n % 2 = 1
    · refine Ev.step (fun k => by rw [field_Pow.l0, if_pos (by omega), hm, if_pos (by omega), hd]) ?_
      refine Ev.bind (mul_ev hp o a) (Ev.bind (mul_ev hp a a) (Ev.to (ih (n / 2) (by omega) _ _ (by omega)) ?_))
      rw [V_inj, hsq a, h2, pw_one]
      grind
    · refine Ev.step (fun k => by rw [field_Pow.l0, if_pos (by omega), hm, if_neg (by omega), hd]) ?_
      refine Ev.bind (mul_ev hp a a) (Ev.to (ih (n / 2) (by omega) _ _ (by omega)) ?_)
      rw [V_inj, hsq a, show n % 2 = 0 by omega, pw_zero]
      grind
theorem pow_evN [NeZero p] (hp : Sup p) (a : Fin p) (n : Nat) (hn : n < 18446744073709551616) : Ev (fun k => field_Pow.f k p (V a) n) (V (a ^ n)) := by
  unfold field_Pow.f
  have h := pow_ev hp n a 1 hn
  rw [V_one hp] at h
  refine Ev.to h ?_
  rw [V_inj]
  grind
theorem pow_evI [NeZero p] (hp : Sup p) (a : Fin p) (n : Int) (h0 : 0 ≤ n) (hn : n < 18446744073709551616) : Ev (fun k => field_Pow.f k p (V a) n) (V (a ^ n.toNat)) := by
  have h := pow_evN hp a n.toNat (by omega)
  rwa [Int.toNat_of_nonneg h0] at h
theorem inverse_ev [NeZero p] (hp : Sup p) {a : Fin p} (ha : a ≠ 0) : Ev (fun k => field_Inverse.f k p (V a)) (V (inv a), 0) := by
  have hl := hp.le
  unfold field_Inverse.f
  refine Ev.neg (fun e => ha (V_eq_zero.1 e)) ?_
  rw [w64_in (n := (p : Int) - 2) (by omega) (by omega), show (p : Int) - 2 = ((p - 2 : Nat) : Int) by omega]
  exact Ev.bind (pow_evN hp a (p - 2) (by omega)) (Ev.now _)
theorem inverse_zero [NeZero p] (a : Fin p) (ha : a = 0) : Ev (fun k => field_Inverse.f k p (V a)) (0, 8) := by
  unfold field_Inverse.f
  exact Ev.pos (V_eq_zero.2 ha) (Ev.now _)
end
end Go.Proofs.Ytjkggiemnfigbaa.FEv

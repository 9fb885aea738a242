/- Numbers: prime numbers, the seven Mersenne primes of the program, Fermat's little theorem over Fin p, inverses. No Go, no program. -/
namespace Go.Proofs.YtjkggiemnfigbaaNum

def IsPr (p : Nat) : Prop := 2 ≤ p ∧ ∀ d, d ∣ p → d = 1 ∨ d = p

theorem IsPr.coprime {p a : Nat} (hp : IsPr p) (h : ¬ p ∣ a) : Nat.Coprime p a := by
  rcases hp.2 (Nat.gcd p a) (Nat.gcd_dvd_left p a) with h1 | h1
  · exact h1
  · exact absurd (h1 ▸ Nat.gcd_dvd_right p a) h
theorem IsPr.dvd_mul {p a b : Nat} (hp : IsPr p) (h : p ∣ a * b) : p ∣ a ∨ p ∣ b := by
  by_cases ha : p ∣ a
  · exact .inl ha
  · exact .inr ((hp.coprime ha).dvd_of_dvd_mul_left h)

/-- Each number from 2 on has a prime divisor; the least divisor. -/
theorem exists_prime_le {n : Nat} (hn : 2 ≤ n) : ∃ r, IsPr r ∧ r ∣ n ∧ (IsPr n ∨ r * r ≤ n) := by
  -- the least divisor that is at least 2
  have key : ∀ k, ∀ m, m + k = n → (∀ d, 2 ≤ d → d < m → ¬ d ∣ n) → 2 ≤ m → ∃ r, 2 ≤ r ∧ r ∣ n ∧ ∀ d, 2 ≤ d → d < r → ¬ d ∣ n := by
    intro k
    induction k with
    | zero =>
      intro m hm h h2
      exact ⟨n, hn, Nat.dvd_refl n, fun d h1 h3 => h d h1 (by omega)⟩
    | succ k ih =>
      intro m hm h h2
      by_cases hd : m ∣ n
      · exact ⟨m, h2, hd, h⟩
      · refine ih (m + 1) (by omega) (fun d h1 h3 => ?_) (by omega)
        rcases Nat.lt_or_ge d m with h4 | h4
        · exact h d h1 h4
        · have : d = m := by omega
          exact this ▸ hd
  obtain ⟨r, hr2, hrn, hr⟩ := key (n - 2) 2 (by omega) (fun d h1 h2 => by omega) (Nat.le_refl 2)
  have hrp : IsPr r := by
    refine ⟨hr2, fun d hd => ?_⟩
    have hpos : 0 < r := by omega
    have hdl := Nat.le_of_dvd hpos hd
    have hd0 : d ≠ 0 := by
      rintro rfl
      have := Nat.eq_zero_of_zero_dvd hd
      omega
    by_cases h1 : d = 1
    · exact .inl h1
    · right
      rcases Nat.lt_or_ge d r with h2 | h2
      · exact absurd (Nat.dvd_trans hd hrn) (hr d (by omega) h2)
      · omega
  refine ⟨r, hrp, hrn, ?_⟩
  obtain ⟨c, hc⟩ := hrn
  rcases Nat.lt_or_ge c 2 with h1 | h1
  · left
    have : c = 1 := by
      have : c ≠ 0 := by rintro rfl; omega
      omega
    subst this
    have : r = n := by omega
    exact this ▸ hrp
  · right
    have hcr : r ≤ c := by
      rcases Nat.lt_or_ge c r with h2 | h2
      · exact absurd ⟨r, by rw [hc, Nat.mul_comm]⟩ (hr c h1 h2)
      · exact h2
    rw [hc]
    exact Nat.mul_le_mul_left r hcr

/-! ### Sums of functions on numbers, over Fin p -/
section
variable {p : Nat}
def sumF [NeZero p] (n : Nat) (f : Nat → Fin p) : Fin p := match n with
  | 0 => 0
  | n + 1 => sumF n f + f n
theorem sumF_congr [NeZero p] {n : Nat} {f g : Nat → Fin p} (h : ∀ i, i < n → f i = g i) : sumF n f = sumF n g := by
  induction n with
  | zero => rfl
  | succ n ih => simp only [sumF]; rw [ih (fun i hi => h i (by omega)), h n (by omega)]
theorem sumF_zero [NeZero p] (n : Nat) : sumF n (fun _ => (0 : Fin p)) = 0 := by
  induction n with
  | zero => rfl
  | succ n ih => simp only [sumF]; rw [ih]; grind
theorem sumF_add [NeZero p] (n : Nat) (f g : Nat → Fin p) : sumF n (fun i => f i + g i) = sumF n f + sumF n g := by
  induction n with
  | zero => simp only [sumF]; grind
  | succ n ih => simp only [sumF]; rw [ih]; grind
theorem sumF_mul [NeZero p] (n : Nat) (c : Fin p) (f : Nat → Fin p) : sumF n (fun i => c * f i) = c * sumF n f := by
  induction n with
  | zero => simp only [sumF]; grind
  | succ n ih => simp only [sumF]; rw [ih]; grind
theorem sumF_head [NeZero p] (n : Nat) (f : Nat → Fin p) : sumF (n + 1) f = f 0 + sumF n (fun i => f (i + 1)) := by
  induction n with
  | zero => simp only [sumF]; grind
  | succ n ih => rw [sumF, ih]; simp only [sumF]; grind
end

/-! ### Fermat's little theorem -/
def choose : Nat → Nat → Nat
  | _, 0 => 1
  | 0, _ + 1 => 0
  | n + 1, k + 1 => choose n k + choose n (k + 1)
theorem choose_zero (n : Nat) : choose n 0 = 1 := by cases n <;> rfl
theorem choose_succ (n k : Nat) : choose (n + 1) (k + 1) = choose n k + choose n (k + 1) := rfl
theorem choose_gt (n : Nat) : ∀ k, n < k → choose n k = 0 := by
  induction n with
  | zero => intro k hk; cases k with
    | zero => omega
    | succ k => rfl
  | succ n ih => intro k hk; cases k with
    | zero => omega
    | succ k => rw [choose_succ, ih k (by omega), ih (k + 1) (by omega)]
theorem choose_self (n : Nat) : choose n n = 1 := by
  induction n with
  | zero => rfl
  | succ n ih => rw [choose_succ, ih, choose_gt n (n + 1) (by omega)]
theorem choose_mul (n : Nat) : ∀ k, (k + 1) * choose (n + 1) (k + 1) = (n + 1) * choose n k := by
  induction n with
  | zero => intro k; cases k with
    | zero => rfl
    | succ k => simp [choose]
  | succ n ih =>
    intro k
    cases k with
    | zero =>
      have h := ih 0
      rw [choose_succ, choose_zero]
      simp only [choose_zero, Nat.zero_add, Nat.one_mul, Nat.mul_one] at h ⊢
      omega
    | succ k =>
      have h1 := ih k
      have h2 := ih (k + 1)
      rw [choose_succ (n + 1) (k + 1)]
      have e : choose (n + 1) (k + 1) = choose n k + choose n (k + 1) := choose_succ n k
      grind
theorem dvd_choose {p : Nat} (hp : IsPr p) (k : Nat) (h0 : 0 < k) (hk : k < p) : p ∣ choose p k := by
  obtain ⟨n, rfl⟩ : ∃ n, p = n + 1 := ⟨p - 1, by have := hp.1; omega⟩
  obtain ⟨j, rfl⟩ : ∃ j, k = j + 1 := ⟨k - 1, by omega⟩
  have h := choose_mul n j
  rcases hp.dvd_mul (a := j + 1) (b := choose (n + 1) (j + 1)) ⟨choose n j, h⟩ with h1 | h1
  · have := Nat.le_of_dvd (by omega) h1
    omega
  · exact h1

/-! ### Numbers as elements -/
section
variable {p : Nat}
def el [NeZero p] (n : Nat) : Fin p := Fin.ofNat p n
theorem el_val [NeZero p] (n : Nat) : (el n : Fin p).val = n % p := rfl
theorem el_of [NeZero p] (a : Fin p) : el a.val = a := by
  apply Fin.ext
  rw [el_val]
  exact Nat.mod_eq_of_lt a.isLt
theorem el_add [NeZero p] (m n : Nat) : (el (m + n) : Fin p) = el m + el n := by
  apply Fin.ext
  simp only [el_val, Fin.val_add]
  exact Nat.add_mod m n p
theorem el_mul [NeZero p] (m n : Nat) : (el (m * n) : Fin p) = el m * el n := by
  apply Fin.ext
  simp only [el_val, Fin.val_mul]
  exact Nat.mul_mod m n p
theorem el_zero [NeZero p] : (el 0 : Fin p) = 0 := by
  apply Fin.ext
  simp [el_val]
theorem el_one [NeZero p] : (el 1 : Fin p) = 1 := by
  apply Fin.ext
  rw [el_val]
  rfl
theorem el_succ [NeZero p] (n : Nat) : (el (n + 1) : Fin p) = el n + 1 := by rw [el_add, el_one]
theorem el_dvd [NeZero p] {n : Nat} (h : p ∣ n) : (el n : Fin p) = 0 := by
  apply Fin.ext
  rw [el_val, Nat.mod_eq_zero_of_dvd h]
  rfl
theorem el_eq_zero [NeZero p] {n : Nat} : (el n : Fin p) = 0 ↔ p ∣ n := by
  constructor
  · intro h
    have := congrArg Fin.val h
    rw [el_val] at this
    exact Nat.dvd_of_mod_eq_zero (by simpa using this)
  · exact el_dvd
theorem binom [NeZero p] (x : Fin p) (n : Nat) : (x + 1) ^ n = sumF (n + 1) (fun k => el (choose n k) * x ^ k) := by
  induction n with
  | zero => simp only [sumF, choose_zero, el_one]; grind
  | succ n ih =>
    have h1 : (x + 1) ^ (n + 1) = sumF (n + 1) (fun k => el (choose n k) * x ^ k) * (x + 1) := by rw [← ih]; grind
    rw [h1, sumF_head (n + 1)]
    have h2 : ∀ k, el (choose (n + 1) (k + 1)) * x ^ (k + 1) = x * (el (choose n k) * x ^ k) + (el (choose n (k + 1)) * x ^ (k + 1) : Fin p) := by
      intro k
      rw [choose_succ, el_add]
      grind
    rw [sumF_congr (fun i _ => h2 i), sumF_add, sumF_mul]
    have h3 : sumF (n + 1) (fun i => el (choose n (i + 1)) * x ^ (i + 1)) + (el (choose n 0) * x ^ 0 : Fin p) = sumF (n + 1) (fun k => el (choose n k) * x ^ k) := by
      have h4 := sumF_head (n + 1) (fun k => el (choose n k) * x ^ k)
      have h5 : sumF (n + 1 + 1) (fun k => el (choose n k) * x ^ k) = sumF (n + 1) (fun k => el (choose n k) * x ^ k) + (el (choose n (n + 1)) * x ^ (n + 1) : Fin p) := rfl
      rw [choose_gt n (n + 1) (by omega), el_zero] at h5
      grind
    rw [choose_zero] at h3 ⊢
    grind
theorem freshman [NeZero p] (hp : IsPr p) (x : Fin p) : (x + 1) ^ p = x ^ p + 1 := by
  obtain ⟨n, hn⟩ : ∃ n, p = n + 1 := ⟨p - 1, by have := hp.1; omega⟩
  rw [binom x p]
  simp only [sumF]
  rw [choose_self, el_one]
  have h2 : sumF p (fun k => el (choose p k) * x ^ k) = 1 := by
    have h3 := sumF_head n (fun k => el (choose p k) * x ^ k)
    rw [← hn] at h3
    rw [h3, choose_zero, el_one, sumF_congr (g := fun _ => 0) (fun i hi => ?_), sumF_zero]
    · grind
    · rw [el_dvd (dvd_choose hp (i + 1) (by omega) (by omega))]
      grind
  rw [h2]
  grind
theorem pw_succ [NeZero p] (b : Fin p) (n : Nat) : b ^ (n + 1) = b ^ n * b := by grind
theorem pw_zero [NeZero p] (b : Fin p) : b ^ 0 = 1 := by grind
theorem pw_one [NeZero p] (b : Fin p) : b ^ 1 = b := by grind
theorem pw_add [NeZero p] (b : Fin p) (m n : Nat) : b ^ (m + n) = b ^ m * b ^ n := by
  induction n with
  | zero => grind
  | succ n ih => rw [← Nat.add_assoc, pw_succ, ih, pw_succ]; grind
theorem one_pw [NeZero p] (n : Nat) : (1 : Fin p) ^ n = 1 := by
  induction n with
  | zero => grind
  | succ n ih => rw [pw_succ, ih]; grind
theorem mul_pw [NeZero p] (a b : Fin p) (n : Nat) : (a * b) ^ n = a ^ n * b ^ n := by
  induction n with
  | zero => grind
  | succ n ih => rw [pw_succ, ih, pw_succ, pw_succ]; grind
theorem pw_mul [NeZero p] (b : Fin p) (m n : Nat) : b ^ (m * n) = (b ^ m) ^ n := by
  induction n with
  | zero => rw [Nat.mul_zero, pw_zero, pw_zero]
  | succ n ih => rw [Nat.mul_succ, pw_add, ih, pw_succ]
theorem pow_zero_pos [NeZero p] (n : Nat) (hn : 0 < n) : (0 : Fin p) ^ n = 0 := by
  obtain ⟨m, rfl⟩ : ∃ m, n = m + 1 := ⟨n - 1, by omega⟩
  grind
theorem flt [NeZero p] (hp : IsPr p) (x : Fin p) : x ^ p = x := by
  have key : ∀ n : Nat, (el n : Fin p) ^ p = el n := by
    intro n
    induction n with
    | zero => rw [el_zero]; exact pow_zero_pos p (by have := hp.1; omega)
    | succ n ih => rw [el_succ, freshman hp, ih]
  have := key x.val
  rwa [el_of] at this
theorem one_ne [NeZero p] (hp : IsPr p) : (1 : Fin p) ≠ 0 := by
  intro h
  have h2 : (el 1 : Fin p) = 0 := by rw [el_one, h]
  have := Nat.le_of_dvd (by omega) (el_eq_zero.1 h2)
  have := hp.1
  omega
theorem no_zero_div [NeZero p] (hp : IsPr p) {a b : Fin p} (h : a * b = 0) : a = 0 ∨ b = 0 := by
  have h2 : (el (a.val * b.val) : Fin p) = 0 := by rw [el_mul, el_of, el_of]; exact h
  rcases hp.dvd_mul (el_eq_zero.1 h2) with h3 | h3
  · left; rw [← el_of a]; exact el_eq_zero.2 h3
  · right; rw [← el_of b]; exact el_eq_zero.2 h3
theorem mul_cancel [NeZero p] (hp : IsPr p) {a b c : Fin p} (ha : a ≠ 0) (h : a * b = a * c) : b = c := by
  have h2 : a * (b - c) = 0 := by grind
  rcases no_zero_div hp h2 with h3 | h3
  · exact absurd h3 ha
  · grind
theorem pow_ne_zero [NeZero p] (hp : IsPr p) {a : Fin p} (ha : a ≠ 0) (n : Nat) : a ^ n ≠ 0 := by
  induction n with
  | zero => intro h; exact one_ne hp (by grind)
  | succ n ih =>
    intro h
    rcases no_zero_div hp (a := a ^ n) (b := a) (by grind) with h2 | h2
    · exact ih h2
    · exact ha h2
theorem flt1 [NeZero p] (hp : IsPr p) {a : Fin p} (ha : a ≠ 0) : a ^ (p - 1) = 1 := by
  apply mul_cancel hp ha
  have h1 : a ^ (p - 1 + 1) = a := by rw [Nat.sub_add_cancel (by have := hp.1; omega)]; exact flt hp a
  grind
/-- The inverse. -/
def inv [NeZero p] (a : Fin p) : Fin p := a ^ (p - 2)
theorem mul_inv [NeZero p] (hp : IsPr p) {a : Fin p} (ha : a ≠ 0) : a * inv a = 1 := by
  have h1 := flt1 hp ha
  have h2 : p - 1 = (p - 2) + 1 := by have := hp.1; omega
  rw [h2] at h1
  unfold inv
  grind
theorem inv_ne_zero [NeZero p] (hp : IsPr p) {a : Fin p} (ha : a ≠ 0) : inv a ≠ 0 := pow_ne_zero hp ha _
end

/-! ### Powers by squaring on numbers; Pocklington's criterion -/
def powM (n : Nat) : Nat → Nat → Nat → Nat → Nat
  | 0, _, _, r => r
  | k + 1, a, e, r => powM n k (a * a % n) (e / 2) (if e % 2 = 1 then r * a % n else r)
theorem powM_eq (n : Nat) : ∀ k a e r, e < 2 ^ k → powM n k a e r % n = r * a ^ e % n := by
  intro k
  induction k with
  | zero =>
    intro a e r he
    have : e = 0 := by omega
    subst this
    simp [powM]
  | succ k ih =>
    intro a e r he
    rw [powM, ih _ _ _ (by omega)]
    have h2 : e = 2 * (e / 2) + e % 2 := by omega
    have hsq : (a * a % n) ^ (e / 2) % n = (a * a) ^ (e / 2) % n := (Nat.pow_mod (a * a) (e / 2) n).symm
    have hsq2 : (a * a) ^ (e / 2) = a ^ (2 * (e / 2)) := by rw [Nat.pow_mul, Nat.pow_two]
    rcases Nat.mod_two_eq_zero_or_one e with h | h
    · rw [if_neg (by omega)]
      rw [Nat.mul_mod, hsq, ← Nat.mul_mod, hsq2]
      have : 2 * (e / 2) = e := by omega
      rw [this]
    · rw [if_pos h]
      rw [Nat.mul_mod, hsq, Nat.mod_mod, ← Nat.mul_mod, hsq2, Nat.mul_assoc, ← Nat.pow_succ']
      have : (2 * (e / 2)).succ = e := by omega
      rw [this]
theorem el_pow {p : Nat} [NeZero p] (a n : Nat) : (el (a ^ n) : Fin p) = (el a) ^ n := by
  induction n with
  | zero => rw [Nat.pow_zero, el_one]; grind
  | succ n ih => rw [Nat.pow_succ, el_mul, ih]; grind
theorem el_eq_iff {p : Nat} [NeZero p] {m n : Nat} : (el m : Fin p) = el n ↔ m % p = n % p := by
  constructor
  · intro h; exact congrArg Fin.val h
  · intro h; exact Fin.ext h
theorem pow_gcd_one {p : Nat} [NeZero p] {b : Fin p} : ∀ m n : Nat, b ^ m = 1 → b ^ n = 1 → b ^ (Nat.gcd m n) = 1 := by
  intro m
  induction m using Nat.strongRecOn with
  | _ m ih =>
    intro n hm hn
    rcases Nat.eq_zero_or_pos m with h | h
    · subst h; rw [Nat.gcd_zero_left]; exact hn
    · rw [Nat.gcd_rec]
      refine ih (n % m) (Nat.mod_lt n h) m ?_ hm
      have h1 : n = m * (n / m) + n % m := (Nat.div_add_mod n m).symm
      have h2 : b ^ n = (b ^ m) ^ (n / m) * b ^ (n % m) := by
        have : b ^ (m * (n / m) + n % m) = (b ^ m) ^ (n / m) * b ^ (n % m) := by rw [pw_add, pw_mul]
        rwa [← h1] at this
      rw [hm, hn, one_pw] at h2
      grind
/-- A prime divisor r of N: if a^(N-1) is 1 modulo N and a^((N-1)/q) - 1 is prime to N, then q divides r - 1. -/
theorem pock {N r q a : Nat} (hN : 1 < N) (hr : IsPr r) (hrN : r ∣ N) (hq : IsPr q) (hqN : q ∣ N - 1) (h1 : a ^ (N - 1) % N = 1) (h2 : Nat.gcd (a ^ ((N - 1) / q) % N + (N - 1)) N = 1) : q ∣ r - 1 := by
  have : NeZero r := ⟨by have := hr.1; omega⟩
  obtain ⟨c, hc⟩ := hqN
  have hq0 : 0 < q := by have := hq.1; omega
  have hdiv : (N - 1) / q = c := by rw [hc]; exact Nat.mul_div_cancel_left c hq0
  rw [hdiv] at h2
  -- b = a^c modulo r
  have hm : ∀ x y : Nat, x % N = y % N → (el x : Fin r) = el y := by
    intro x y h
    apply Fin.ext
    rw [el_val, el_val, ← Nat.mod_mod_of_dvd x hrN, ← Nat.mod_mod_of_dvd y hrN, h]
  have hbq : ((el a : Fin r) ^ c) ^ q = 1 := by
    have h3 : (el (a ^ (N - 1)) : Fin r) = el 1 := hm _ _ (by rw [h1, Nat.mod_eq_of_lt hN])
    rw [el_pow, el_one, hc] at h3
    have h4 : ((el a : Fin r) ^ c) ^ q = (el a) ^ (q * c) := by rw [Nat.mul_comm, pw_mul]
    rw [h4, h3]
  have hb1 : (el a : Fin r) ^ c ≠ 1 := by
    intro h
    have h3 : (el (a ^ c % N + (N - 1)) : Fin r) = 0 := by
      rw [el_add]
      have e1 : (el (a ^ c % N) : Fin r) = el (a ^ c) := hm _ _ (Nat.mod_mod _ _)
      have e2 : (el (N - 1) : Fin r) + 1 = 0 := by
        rw [← el_succ, Nat.sub_add_cancel (by omega)]
        exact el_dvd hrN
      rw [e1, el_pow, h]
      grind
    have h4 : r ∣ Nat.gcd (a ^ c % N + (N - 1)) N := Nat.dvd_gcd (el_eq_zero.1 h3) hrN
    rw [h2] at h4
    have := Nat.le_of_dvd (by omega) h4
    have := hr.1
    omega
  have hb0 : (el a : Fin r) ^ c ≠ 0 := by
    intro h
    rw [h, pow_zero_pos q hq0] at hbq
    exact one_ne hr hbq.symm
  have hbr : ((el a : Fin r) ^ c) ^ (r - 1) = 1 := flt1 hr hb0
  have hg := pow_gcd_one q (r - 1) hbq hbr
  rcases hq.2 _ (Nat.gcd_dvd_left q (r - 1)) with h | h
  · rw [h] at hg
    exact absurd (by grind) hb1
  · exact h ▸ Nat.gcd_dvd_right q (r - 1)

/-! ### The seven primes -/
/-- No number from lo on, 2^k of them, divides n. -/
def noDiv (n : Nat) : Nat → Nat → Bool
  | 0, lo => n % lo != 0
  | k + 1, lo => noDiv n k lo && noDiv n k (lo + 2 ^ k)
theorem noDiv_sound (n : Nat) : ∀ k lo, noDiv n k lo = true → ∀ d, lo ≤ d → d < lo + 2 ^ k → ¬ d ∣ n := by
  intro k
  induction k with
  | zero =>
    intro lo h d h1 h2 hd
    have : d = lo := by simp at h2; omega
    subst this
    simp [noDiv, Nat.mod_eq_zero_of_dvd hd] at h
  | succ k ih =>
    intro lo h d h1 h2
    simp only [noDiv, Bool.and_eq_true] at h
    rcases Nat.lt_or_ge d (lo + 2 ^ k) with h3 | h3
    · exact ih lo h.1 d h1 h3
    · exact ih (lo + 2 ^ k) h.2 d h3 (by rw [Nat.pow_succ] at h2; omega)
theorem isPr_of_noDiv {n k : Nat} (hn : 2 ≤ n) (hk : n < (2 + 2 ^ k) * (2 + 2 ^ k)) (h : noDiv n k 2 = true) : IsPr n := by
  obtain ⟨r, hr, hrn, h1 | h1⟩ := exists_prime_le hn
  · exact h1
  · exfalso
    have h2 : r < 2 + 2 ^ k := by
      rcases Nat.lt_or_ge r (2 + 2 ^ k) with h3 | h3
      · exact h3
      · have := Nat.mul_le_mul h3 h3
        omega
    exact noDiv_sound n k 2 h r hr.1 h2 hrn
theorem pr31 : IsPr 31 := isPr_of_noDiv (k := 2) (by decide) (by decide) (by decide)
theorem pr127 : IsPr 127 := isPr_of_noDiv (k := 4) (by decide) (by decide) (by decide +kernel)
theorem pr8191 : IsPr 8191 := isPr_of_noDiv (k := 7) (by decide) (by decide) (by decide +kernel)
theorem pr131071 : IsPr 131071 := isPr_of_noDiv (k := 9) (by decide) (by decide) (by decide +kernel)
theorem pr524287 : IsPr 524287 := isPr_of_noDiv (k := 10) (by decide) (by decide) (by decide +kernel)
theorem pr2147483647 : IsPr 2147483647 := isPr_of_noDiv (k := 16) (by decide) (by decide +kernel) (by decide +kernel)
theorem pr61 : IsPr 61 := isPr_of_noDiv (k := 3) (by decide) (by decide) (by decide +kernel)
theorem pr151 : IsPr 151 := isPr_of_noDiv (k := 4) (by decide) (by decide) (by decide +kernel)
theorem pr331 : IsPr 331 := isPr_of_noDiv (k := 5) (by decide) (by decide) (by decide +kernel)
theorem pr1321 : IsPr 1321 := isPr_of_noDiv (k := 6) (by decide) (by decide) (by decide +kernel)
theorem one_mod_mul {q1 q2 r : Nat} (h1 : q1 ∣ r - 1) (h2 : q2 ∣ r - 1) (hc : Nat.Coprime q1 q2) : q1 * q2 ∣ r - 1 := hc.mul_dvd_of_dvd_of_dvd h1 h2
theorem pow_of_powM {n k a e v : Nat} (he : e < 2 ^ k) (h : powM n k a e 1 % n = v) : a ^ e % n = v := by
  rw [powM_eq n k a e 1 he, Nat.one_mul] at h
  exact h
theorem pockM {N r q a c k v : Nat} (hN : 1 < N) (hr : IsPr r) (hrN : r ∣ N) (hq : IsPr q) (hc : N - 1 = q * c) (hk : N < 2 ^ k) (h1 : powM N k a (N - 1) 1 % N = 1) (h2 : powM N k a c 1 % N = v) (hg : Nat.gcd (v + (N - 1)) N = 1) : q ∣ r - 1 := by
  have hq0 : 0 < q := by have := hq.1; omega
  have hcN : c ≤ N - 1 := by rw [hc]; exact Nat.le_mul_of_pos_left c hq0
  refine pock hN hr hrN hq ⟨c, hc⟩ (pow_of_powM (by omega) h1) ?_
  have hdiv : (N - 1) / q = c := by rw [hc]; exact Nat.mul_div_cancel_left c hq0
  rw [hdiv, pow_of_powM (by omega) h2]
  exact hg
theorem big_of_dvd {N r F : Nat} (hr : IsPr r) (h : F ∣ r - 1) (hF : N < (F + 1) * (F + 1)) : ¬ r * r ≤ N := by
  intro h1
  have h2 := Nat.le_of_dvd (by have := hr.1; omega) h
  have h3 : F + 1 ≤ r := by have := hr.1; omega
  have h4 := Nat.mul_le_mul h3 h3
  omega
theorem pr2305843009213693951 : IsPr 2305843009213693951 := by
  obtain ⟨r, hr, hrn, h1 | h1⟩ := exists_prime_le (n := 2305843009213693951) (by decide)
  · exact h1
  · exfalso
    have d1 : 1321 ∣ r - 1 := pockM (a := 3) (c := 1745528394559950) (k := 62) (v := 234060095121088422) (by decide) hr hrn pr1321 (by decide +kernel) (by decide +kernel) (by decide +kernel) (by decide +kernel) (by decide +kernel)
    have d2 : 331 ∣ r - 1 := pockM (a := 3) (c := 6966293079195450) (k := 62) (v := 1491285494954315879) (by decide) hr hrn pr331 (by decide +kernel) (by decide +kernel) (by decide +kernel) (by decide +kernel) (by decide +kernel)
    have d3 : 151 ∣ r - 1 := pockM (a := 3) (c := 15270483504726450) (k := 62) (v := 2211238755008147949) (by decide) hr hrn pr151 (by decide +kernel) (by decide +kernel) (by decide +kernel) (by decide +kernel) (by decide +kernel)
    have d4 : 61 ∣ r - 1 := pockM (a := 2) (c := 37800705069076950) (k := 62) (v := 2048) (by decide) hr hrn pr61 (by decide +kernel) (by decide +kernel) (by decide +kernel) (by decide +kernel) (by decide +kernel)
    exact big_of_dvd hr (one_mod_mul (one_mod_mul d1 d2 (by decide +kernel)) (one_mod_mul d3 d4 (by decide +kernel)) (by decide +kernel)) (by decide +kernel) h1
/-- The program's seven primes, 2^q - 1. -/
def Sup (p : Nat) : Prop := p = 31 ∨ p = 127 ∨ p = 8191 ∨ p = 131071 ∨ p = 524287 ∨ p = 2147483647 ∨ p = 2305843009213693951
theorem Sup.pr {p : Nat} (h : Sup p) : IsPr p := by
  rcases h with rfl | rfl | rfl | rfl | rfl | rfl | rfl
  · exact pr31
  · exact pr127
  · exact pr8191
  · exact pr131071
  · exact pr524287
  · exact pr2147483647
  · exact pr2305843009213693951
theorem Sup.le {p : Nat} (h : Sup p) : 31 ≤ p ∧ p ≤ 2305843009213693951 := by unfold Sup at h; omega
theorem Sup.four {p : Nat} (h : Sup p) : ∃ m, p = 4 * m + 3 := ⟨p / 4, by unfold Sup at h; omega⟩
theorem Sup.ne {p : Nat} (h : Sup p) : NeZero p := ⟨by have := h.le; omega⟩

/-! ### Square roots: the seven primes are 4 m + 3 -/
section
variable {p : Nat}
def chi [NeZero p] (a : Fin p) : Fin p := a ^ ((p - 1) / 2)
def rt [NeZero p] (a : Fin p) : Fin p := a ^ ((p + 1) / 4)
theorem chi_cases [NeZero p] (hp : Sup p) {a : Fin p} (ha : a ≠ 0) : chi a = 1 ∨ chi a = -1 := by
  obtain ⟨m, hm⟩ := hp.four
  have h1 := flt1 hp.pr ha
  have h2 : p - 1 = (p - 1) / 2 + (p - 1) / 2 := by omega
  rw [h2, pw_add] at h1
  have h3 : (chi a - 1) * (chi a + 1) = 0 := by unfold chi; grind
  rcases no_zero_div hp.pr h3 with h | h
  · left; grind
  · right; grind
theorem one_ne_neg [NeZero p] (hp : Sup p) : (1 : Fin p) ≠ -1 := by
  intro h
  have h2 : (el 2 : Fin p) = 0 := by rw [show 2 = 1 + 1 from rfl, el_add, el_one]; grind
  have := Nat.le_of_dvd (by omega) (el_eq_zero.1 h2)
  have := hp.le
  omega
theorem two_ne [NeZero p] (hp : Sup p) : (1 : Fin p) + 1 ≠ 0 := by
  intro h
  exact one_ne_neg hp (by grind)
theorem chi_mul [NeZero p] (a b : Fin p) : chi (a * b) = chi a * chi b := mul_pw a b _
theorem neg_one_odd [NeZero p] (m : Nat) : (-1 : Fin p) ^ (2 * m + 1) = -1 := by
  rw [pw_succ, pw_mul]
  have : (-1 : Fin p) ^ 2 = 1 := by grind
  rw [this, one_pw]
  grind
theorem chi_neg [NeZero p] (hp : Sup p) (a : Fin p) : chi (-a) = - chi a := by
  obtain ⟨m, hm⟩ := hp.four
  have h1 : -a = -1 * a := by grind
  rw [h1, chi_mul]
  have h2 : chi (-1 : Fin p) = -1 := by
    unfold chi
    have : (p - 1) / 2 = 2 * m + 1 := by omega
    rw [this]
    exact neg_one_odd m
  rw [h2]
  grind
theorem rt_sq [NeZero p] (hp : Sup p) (a : Fin p) : rt a * rt a = a * chi a := by
  obtain ⟨m, hm⟩ := hp.four
  unfold rt chi
  have h1 : (p + 1) / 4 = m + 1 := by omega
  have h2 : (p - 1) / 2 = m + m + 1 := by omega
  rw [h1, h2, pw_succ, pw_succ, pw_add]
  grind
theorem rt_of_sq [NeZero p] (hp : Sup p) (a : Fin p) : rt (a * a) = a * chi a := by
  obtain ⟨m, hm⟩ := hp.four
  unfold rt chi
  have h1 : (p + 1) / 4 = m + 1 := by omega
  have h2 : (p - 1) / 2 = m + m + 1 := by omega
  rw [h1, h2, mul_pw, pw_succ, pw_succ, pw_add]
  grind
theorem rt_mul [NeZero p] (a b : Fin p) : rt (a * b) = rt a * rt b := mul_pw a b _
theorem rt_zero [NeZero p] (hp : Sup p) : rt (0 : Fin p) = 0 := pow_zero_pos _ (by have := hp.le; omega)
/-- Is it a square? -/
theorem issq_iff [NeZero p] (hp : Sup p) {a : Fin p} (ha : a ≠ 0) : rt a * rt a = a ↔ chi a = 1 := by
  rw [rt_sq hp]
  constructor
  · intro h
    exact mul_cancel hp.pr ha (by grind)
  · intro h
    rw [h]
    grind
end
end Go.Proofs.YtjkggiemnfigbaaNum

/- Part C of: The statement OptimizeDuplicates: the law answers true whatever its arguments; no condition. -/
import Derived.Test.YtjpaichcaaacbaaDoorZOptimizeDuplicatesB
import Derived.Laws.StructEq
import Derived.Shelf.Strconv.Itoa0
import Derived.Shelf.Bits.Mul64
import Derived.Test.YtjpaichcaaacbaaDoorProg
section
namespace Go.Proofs.YtjpaichcaaacbaaDoorW.PrintWords
open Go.RowKit
section
variable {P : Program} {d : Nat} {xs ys : Array Value} {f : Field} {fs : List Field} {a b : Value} {r s : Bool} {w : World}
/-- The last field that counts. -/
theorem eqf_last (hn : (f.name == "_") = false) (ha : (part f.type xs f.offset).run P w = .ok a w) (hb : (part f.type ys f.offset).run P w = .ok b w) (he : (Op.equalIn d f.type a b).run P w = .ok r w) : (Op.eqFields d xs ys [f]).run P w = .ok r w := by
  have hn' : f.name ≠ "_" := by simpa using hn
  simp only [Op.eqFields, if_pos hn', Sem.run_bind, ha, hb, he, Result.andThen_ok]
  cases r <;> simp
theorem eqf_cons (hn : (f.name == "_") = false) (ha : (part f.type xs f.offset).run P w = .ok a w) (hb : (part f.type ys f.offset).run P w = .ok b w) (he : (Op.equalIn d f.type a b).run P w = .ok r w) (hr : (Op.eqFields d xs ys fs).run P w = .ok s w) : (Op.eqFields d xs ys (f :: fs)).run P w = .ok (r && s) w := by
  have hn' : f.name ≠ "_" := by simpa using hn
  rw [Op.eqFields]
  simp only [if_pos hn', Sem.run_bind, ha, hb, he, Result.andThen_ok]
  cases r
  · simp
  · simpa using hr
theorem eqA_of {t : TypeId} {fs : Array Field} (hu : P.underlying t = some (.struct fs)) (hp : P.stoodInHeld t = false) (h : (Op.eqFields d xs ys fs.toList).run P w = .ok r w) : (Op.equalIn (d + 1) t (.agg xs) (.agg ys)).run P w = .ok r w := by
  have hf : P.fieldsOf t = fs := by simp [Program.fieldsOf, hu]
  rw [run_equalIn_struct (P := P) w d t xs ys (by rw [hf]; exact hu) hp, hf]
  exact h
end
end Go.Proofs.YtjpaichcaaacbaaDoorW.PrintWords
end
section
namespace Go.Proofs.YtjpaichcaaacbaaDoorNum
def IsPr (p : Nat) : Prop := 2 ≤ p ∧ ∀ d, d ∣ p → d = 1 ∨ d = p
theorem IsPr.coprime {p a : Nat} (hp : IsPr p) (h : ¬ p ∣ a) : Nat.Coprime p a := by
  rcases hp.2 (Nat.gcd p a) (Nat.gcd_dvd_left p a) with h1 | h1
  · exact h1
  · exact absurd (h1 ▸ Nat.gcd_dvd_right p a) h
theorem IsPr.dvd_mul {p a b : Nat} (hp : IsPr p) (h : p ∣ a * b) : p ∣ a ∨ p ∣ b := by
  by_cases ha : p ∣ a
  · exact .inl ha
  · exact .inr ((hp.coprime ha).dvd_of_dvd_mul_left h)
section
variable {p : Nat}
def sumF [NeZero p] (n : Nat) (f : Nat → Fin p) : Fin p := match n with
  | 0 => 0
  | n + 1 => sumF n f + f n
theorem sumF_congr [NeZero p] {n : Nat} {f g : Nat → Fin p} (h : ∀ i, i < n → f i = g i) : sumF n f = sumF n g := by
  induction n with
  | zero => rfl
  | succ n ih => simp only [sumF]; rw [ih (fun i hi => h i (by omega)), h n (by omega)]
theorem sumF_zero [NeZero p] (n : Nat) : sumF n (fun _ => (0 : Fin p)) = 0 := by
  induction n with
  | zero => rfl
  | succ n ih => simp only [sumF]; rw [ih]; grind
theorem sumF_add [NeZero p] (n : Nat) (f g : Nat → Fin p) : sumF n (fun i => f i + g i) = sumF n f + sumF n g := by
  induction n with
  | zero => simp only [sumF]; grind
  | succ n ih => simp only [sumF]; rw [ih]; grind
theorem sumF_mul [NeZero p] (n : Nat) (c : Fin p) (f : Nat → Fin p) : sumF n (fun i => c * f i) = c * sumF n f := by
  induction n with
  | zero => simp only [sumF]; grind
  | succ n ih => simp only [sumF]; rw [ih]; grind
theorem sumF_head [NeZero p] (n : Nat) (f : Nat → Fin p) : sumF (n + 1) f = f 0 + sumF n (fun i => f (i + 1)) := by
  induction n with
  | zero => simp only [sumF]; grind
  | succ n ih => rw [sumF, ih]; simp only [sumF]; grind
end
def choose : Nat → Nat → Nat
  | _, 0 => 1
  | 0, _ + 1 => 0
  | n + 1, k + 1 => choose n k + choose n (k + 1)
theorem choose_zero (n : Nat) : choose n 0 = 1 := by cases n <;> rfl
theorem choose_succ (n k : Nat) : choose (n + 1) (k + 1) = choose n k + choose n (k + 1) := rfl
theorem choose_gt (n : Nat) : ∀ k, n < k → choose n k = 0 := by
  induction n with
  | zero => intro k hk; cases k with
    | zero => omega
    | succ k => rfl
  | succ n ih => intro k hk; cases k with
    | zero => omega
    | succ k => rw [choose_succ, ih k (by omega), ih (k + 1) (by omega)]
theorem choose_self (n : Nat) : choose n n = 1 := by
  induction n with
  | zero => rfl
  | succ n ih => rw [choose_succ, ih, choose_gt n (n + 1) (by omega)]
theorem choose_mul (n : Nat) : ∀ k, (k + 1) * choose (n + 1) (k + 1) = (n + 1) * choose n k := by
  induction n with
  | zero => intro k; cases k with
    | zero => rfl
    | succ k => simp [choose]
  | succ n ih =>
    intro k
    cases k with
    | zero =>
      have h := ih 0
      rw [choose_succ, choose_zero]
      simp only [choose_zero, Nat.zero_add, Nat.one_mul, Nat.mul_one] at h ⊢
      omega
    | succ k =>
      have h1 := ih k
      have h2 := ih (k + 1)
      rw [choose_succ (n + 1) (k + 1)]
      have e : choose (n + 1) (k + 1) = choose n k + choose n (k + 1) := choose_succ n k
      grind
theorem dvd_choose {p : Nat} (hp : IsPr p) (k : Nat) (h0 : 0 < k) (hk : k < p) : p ∣ choose p k := by
  obtain ⟨n, rfl⟩ : ∃ n, p = n + 1 := ⟨p - 1, by have := hp.1; omega⟩
  obtain ⟨j, rfl⟩ : ∃ j, k = j + 1 := ⟨k - 1, by omega⟩
  have h := choose_mul n j
  rcases hp.dvd_mul (a := j + 1) (b := choose (n + 1) (j + 1)) ⟨choose n j, h⟩ with h1 | h1
  · have := Nat.le_of_dvd (by omega) h1
    omega
  · exact h1
section
variable {p : Nat}
def el [NeZero p] (n : Nat) : Fin p := Fin.ofNat p n
theorem el_val [NeZero p] (n : Nat) : (el n : Fin p).val = n % p := rfl
theorem el_of [NeZero p] (a : Fin p) : el a.val = a := by
  apply Fin.ext
  rw [el_val]
  exact Nat.mod_eq_of_lt a.isLt
theorem el_add [NeZero p] (m n : Nat) : (el (m + n) : Fin p) = el m + el n := by
  apply Fin.ext
  simp only [el_val, Fin.val_add]
  exact Nat.add_mod m n p
theorem el_mul [NeZero p] (m n : Nat) : (el (m * n) : Fin p) = el m * el n := by
  apply Fin.ext
  simp only [el_val, Fin.val_mul]
  exact Nat.mul_mod m n p
theorem el_zero [NeZero p] : (el 0 : Fin p) = 0 := by
  apply Fin.ext
  simp [el_val]
theorem el_one [NeZero p] : (el 1 : Fin p) = 1 := by
  apply Fin.ext
  rw [el_val]
  rfl
theorem el_succ [NeZero p] (n : Nat) : (el (n + 1) : Fin p) = el n + 1 := by rw [el_add, el_one]
theorem el_dvd [NeZero p] {n : Nat} (h : p ∣ n) : (el n : Fin p) = 0 := by
  apply Fin.ext
  rw [el_val, Nat.mod_eq_zero_of_dvd h]
  rfl
theorem el_eq_zero [NeZero p] {n : Nat} : (el n : Fin p) = 0 ↔ p ∣ n := by
  constructor
  · intro h
    have := congrArg Fin.val h
    rw [el_val] at this
    exact Nat.dvd_of_mod_eq_zero (by simpa using this)
  · exact el_dvd
theorem binom [NeZero p] (x : Fin p) (n : Nat) : (x + 1) ^ n = sumF (n + 1) (fun k => el (choose n k) * x ^ k) := by
  induction n with
  | zero => simp only [sumF, choose_zero, el_one]; grind
  | succ n ih =>
    have h1 : (x + 1) ^ (n + 1) = sumF (n + 1) (fun k => el (choose n k) * x ^ k) * (x + 1) := by rw [← ih]; grind
    rw [h1, sumF_head (n + 1)]
    have h2 : ∀ k, el (choose (n + 1) (k + 1)) * x ^ (k + 1) = x * (el (choose n k) * x ^ k) + (el (choose n (k + 1)) * x ^ (k + 1) : Fin p) := by
      intro k
      rw [choose_succ, el_add]
      grind
    rw [sumF_congr (fun i _ => h2 i), sumF_add, sumF_mul]
    have h3 : sumF (n + 1) (fun i => el (choose n (i + 1)) * x ^ (i + 1)) + (el (choose n 0) * x ^ 0 : Fin p) = sumF (n + 1) (fun k => el (choose n k) * x ^ k) := by
      have h4 := sumF_head (n + 1) (fun k => el (choose n k) * x ^ k)
      have h5 : sumF (n + 1 + 1) (fun k => el (choose n k) * x ^ k) = sumF (n + 1) (fun k => el (choose n k) * x ^ k) + (el (choose n (n + 1)) * x ^ (n + 1) : Fin p) := rfl
      rw [choose_gt n (n + 1) (by omega), el_zero] at h5
      grind
    rw [choose_zero] at h3 ⊢
    grind
theorem freshman [NeZero p] (hp : IsPr p) (x : Fin p) : (x + 1) ^ p = x ^ p + 1 := by
  obtain ⟨n, hn⟩ : ∃ n, p = n + 1 := ⟨p - 1, by have := hp.1; omega⟩
  rw [binom x p]
  simp only [sumF]
  rw [choose_self, el_one]
  have h2 : sumF p (fun k => el (choose p k) * x ^ k) = 1 := by
    have h3 := sumF_head n (fun k => el (choose p k) * x ^ k)
    rw [← hn] at h3
    rw [h3, choose_zero, el_one, sumF_congr (g := fun _ => 0) (fun i hi => ?_), sumF_zero]
    · grind
    · rw [el_dvd (dvd_choose hp (i + 1) (by omega) (by omega))]
      grind
  rw [h2]
  grind
theorem pw_succ [NeZero p] (b : Fin p) (n : Nat) : b ^ (n + 1) = b ^ n * b := by grind
theorem pow_zero_pos [NeZero p] (n : Nat) (hn : 0 < n) : (0 : Fin p) ^ n = 0 := by
  obtain ⟨m, rfl⟩ : ∃ m, n = m + 1 := ⟨n - 1, by omega⟩
  grind
theorem flt [NeZero p] (hp : IsPr p) (x : Fin p) : x ^ p = x := by
  have key : ∀ n : Nat, (el n : Fin p) ^ p = el n := by
    intro n
    induction n with
    | zero => rw [el_zero]; exact pow_zero_pos p (by have := hp.1; omega)
    | succ n ih => rw [el_succ, freshman hp, ih]
  have := key x.val
  rwa [el_of] at this
theorem one_ne [NeZero p] (hp : IsPr p) : (1 : Fin p) ≠ 0 := by
  intro h
  have h2 : (el 1 : Fin p) = 0 := by rw [el_one, h]
  have := Nat.le_of_dvd (by omega) (el_eq_zero.1 h2)
  have := hp.1
  omega
theorem no_zero_div [NeZero p] (hp : IsPr p) {a b : Fin p} (h : a * b = 0) : a = 0 ∨ b = 0 := by
  have h2 : (el (a.val * b.val) : Fin p) = 0 := by rw [el_mul, el_of, el_of]; exact h
  rcases hp.dvd_mul (el_eq_zero.1 h2) with h3 | h3
  · left; rw [← el_of a]; exact el_eq_zero.2 h3
  · right; rw [← el_of b]; exact el_eq_zero.2 h3
theorem mul_cancel [NeZero p] (hp : IsPr p) {a b c : Fin p} (ha : a ≠ 0) (h : a * b = a * c) : b = c := by
  have h2 : a * (b - c) = 0 := by grind
  rcases no_zero_div hp h2 with h3 | h3
  · exact absurd h3 ha
  · grind
theorem pow_ne_zero [NeZero p] (hp : IsPr p) {a : Fin p} (ha : a ≠ 0) (n : Nat) : a ^ n ≠ 0 := by
  induction n with
  | zero => intro h; exact one_ne hp (by grind)
  | succ n ih =>
    intro h
    rcases no_zero_div hp (a := a ^ n) (b := a) (by grind) with h2 | h2
    · exact ih h2
    · exact ha h2
theorem flt1 [NeZero p] (hp : IsPr p) {a : Fin p} (ha : a ≠ 0) : a ^ (p - 1) = 1 := by
  apply mul_cancel hp ha
  have h1 : a ^ (p - 1 + 1) = a := by rw [Nat.sub_add_cancel (by have := hp.1; omega)]; exact flt hp a
  grind
/-- The inverse. -/
def inv [NeZero p] (a : Fin p) : Fin p := a ^ (p - 2)
theorem mul_inv [NeZero p] (hp : IsPr p) {a : Fin p} (ha : a ≠ 0) : a * inv a = 1 := by
  have h1 := flt1 hp ha
  have h2 : p - 1 = (p - 2) + 1 := by have := hp.1; omega
  rw [h2] at h1
  unfold inv
  grind
theorem inv_ne_zero [NeZero p] (hp : IsPr p) {a : Fin p} (ha : a ≠ 0) : inv a ≠ 0 := pow_ne_zero hp ha _
end
/-- The program's seven primes, 2^q - 1. -/
def Sup (p : Nat) : Prop := p = 31 ∨ p = 127 ∨ p = 8191 ∨ p = 131071 ∨ p = 524287 ∨ p = 2147483647 ∨ p = 2305843009213693951
theorem Sup.le {p : Nat} (h : Sup p) : 31 ≤ p ∧ p ≤ 2305843009213693951 := by unfold Sup at h; omega
theorem Sup.ne {p : Nat} (h : Sup p) : NeZero p := ⟨by have := h.le; omega⟩
section
end
end Go.Proofs.YtjpaichcaaacbaaDoorNum
end
section
namespace Go.Proofs.YtjpaichcaaacbaaDoorNum
theorem sumF_ext {p : Nat} [NeZero p] {m n : Nat} {f : Nat → Fin p} (hmn : m ≤ n) (h : ∀ i, m ≤ i → i < n → f i = 0) : sumF n f = sumF m f := by
  obtain ⟨d, rfl⟩ : ∃ d, n = m + d := ⟨n - m, by omega⟩
  clear hmn
  induction d with
  | zero => rfl
  | succ d ih =>
    have e : sumF (m + (d + 1)) f = sumF (m + d) f + f (m + d) := rfl
    rw [e, ih (fun i h1 h2 => h i h1 (by omega)), h (m + d) (by omega) (by omega)]
    grind
theorem sumF_mulr {p : Nat} [NeZero p] (n : Nat) (c : Fin p) (f : Nat → Fin p) : sumF n (fun i => f i * c) = sumF n f * c := by
  induction n with
  | zero => simp only [sumF]; grind
  | succ n ih => simp only [sumF]; rw [ih]; grind
theorem sumF_sub {p : Nat} [NeZero p] (n : Nat) (f g : Nat → Fin p) : sumF n (fun i => f i - g i) = sumF n f - sumF n g := by
  induction n with
  | zero => simp only [sumF]; grind
  | succ n ih => simp only [sumF]; rw [ih]; grind
theorem sumF_one {p : Nat} [NeZero p] {n j : Nat} {f : Nat → Fin p} (hj : j < n) (h : ∀ i, i < n → i ≠ j → f i = 0) : sumF n f = f j := by
  induction n with
  | zero => omega
  | succ n ih =>
    simp only [sumF]
    by_cases e : j = n
    · subst e
      rw [sumF_congr (g := fun _ => 0) (fun i hi => h i (by omega) (by omega)), sumF_zero]
      grind
    · rw [ih (by omega) (fun i hi hne => h i (by omega) hne), h n (by omega) (fun h => e h.symm)]
      grind
theorem sumF_comm {p : Nat} [NeZero p] (m n : Nat) (f : Nat → Nat → Fin p) : sumF m (fun i => sumF n (fun j => f i j)) = sumF n (fun j => sumF m (fun i => f i j)) := by
  induction m with
  | zero => simp only [sumF]; rw [sumF_zero]
  | succ m ih => simp only [sumF]; rw [ih, ← sumF_add]
def conv {p : Nat} [NeZero p] (f g : Nat → Fin p) (n : Nat) : Fin p := sumF (n + 1) (fun i => f i * g (n - i))
theorem conv_congr {p : Nat} [NeZero p] {f f' g g' : Nat → Fin p} {n : Nat} (hf : ∀ i, i ≤ n → f i = f' i) (hg : ∀ i, i ≤ n → g i = g' i) : conv f g n = conv f' g' n := by
  unfold conv
  exact sumF_congr (fun i hi => by rw [hf i (by omega), hg (n - i) (by omega)])
theorem conv_support {p : Nat} [NeZero p] {f g : Nat → Fin p} {m k : Nat} (hf : ∀ i, m ≤ i → f i = 0) (hg : ∀ i, k ≤ i → g i = 0) (n : Nat) (hn : m + k ≤ n + 1) : conv f g n = 0 := by
  unfold conv
  rw [sumF_congr (g := fun _ => 0) (fun i hi => ?_), sumF_zero]
  by_cases h : m ≤ i
  · rw [hf i h]; grind
  · rw [hg (n - i) (by omega)]; grind
theorem conv_top {p : Nat} [NeZero p] {f g : Nat → Fin p} {m k : Nat} (hf : ∀ i, m < i → f i = 0) (hg : ∀ i, k < i → g i = 0) : conv f g (m + k) = f m * g k := by
  unfold conv
  rw [sumF_one (j := m) (by omega) (fun i hi hne => ?_)]
  · have e : m + k - m = k := by omega
    rw [e]
  · by_cases h : m < i
    · rw [hf i h]; grind
    · rw [hg (m + k - i) (by omega)]; grind
def evF {p : Nat} [NeZero p] (n : Nat) (f : Nat → Fin p) (x : Fin p) : Fin p := sumF n (fun i => f i * x ^ i)
theorem evF_head {p : Nat} [NeZero p] (n : Nat) (f : Nat → Fin p) (x : Fin p) : evF (n + 1) f x = f 0 + x * evF n (fun i => f (i + 1)) x := by
  unfold evF
  rw [sumF_head, ← sumF_mul]
  have e : f 0 * x ^ 0 = f 0 := by grind
  rw [e]
  congr 1
  exact sumF_congr (fun i hi => by rw [pw_succ]; grind)
theorem evF_ext {p : Nat} [NeZero p] {m n : Nat} {f : Nat → Fin p} (x : Fin p) (hmn : m ≤ n) (h : ∀ i, m ≤ i → f i = 0) : evF n f x = evF m f x :=
  sumF_ext hmn (fun i h1 _ => by rw [h i h1]; grind)
theorem evF_add {p : Nat} [NeZero p] (n : Nat) (f g : Nat → Fin p) (x : Fin p) : evF n (fun i => f i + g i) x = evF n f x + evF n g x := by
  unfold evF
  rw [← sumF_add]
  exact sumF_congr (fun i hi => by grind)
theorem evF_smul {p : Nat} [NeZero p] (n : Nat) (c : Fin p) (f : Nat → Fin p) (x : Fin p) : evF n (fun i => c * f i) x = c * evF n f x := by
  unfold evF
  rw [← sumF_mul]
  exact sumF_congr (fun i hi => by grind)
theorem evF_congr {p : Nat} [NeZero p] {n : Nat} {f g : Nat → Fin p} (x : Fin p) (h : ∀ i, i < n → f i = g i) : evF n f x = evF n g x :=
  sumF_congr (fun i hi => by rw [h i hi])
def cf {p : Nat} [NeZero p] (l : List (Fin p)) (i : Nat) : Fin p := l.getD i 0
theorem cf_ge {p : Nat} [NeZero p] {l : List (Fin p)} {i : Nat} (h : l.length ≤ i) : cf l i = 0 := by
  unfold cf
  rw [List.getD_eq_getElem?_getD, List.getElem?_eq_none h]
  rfl
theorem cf_lt {p : Nat} [NeZero p] {l : List (Fin p)} {i : Nat} (h : i < l.length) : cf l i = l[i] := by
  unfold cf
  rw [List.getD_eq_getElem?_getD, List.getElem?_eq_getElem h]
  rfl
theorem cf_ext {p : Nat} [NeZero p] {l l' : List (Fin p)} (hl : l.length = l'.length) (h : ∀ i, cf l i = cf l' i) : l = l' := by
  apply List.ext_getElem hl
  intro i h1 h2
  rw [← cf_lt h1, ← cf_lt h2]
  exact h i
/-- No zero at the end. -/
def Tr {p : Nat} [NeZero p] (l : List (Fin p)) : Prop := l = [] ∨ cf l (l.length - 1) ≠ 0
theorem Tr.len {p : Nat} [NeZero p] {l l' : List (Fin p)} (h : Tr l) (e : ∀ i, cf l i = cf l' i) : l.length ≤ l'.length := by
  rcases h with h | h
  · subst h; exact Nat.zero_le _
  · rcases Nat.lt_or_ge l'.length l.length with h1 | h1
    · exact absurd ((e _).trans (cf_ge (by omega))) h
    · exact h1
theorem Tr.eq {p : Nat} [NeZero p] {l l' : List (Fin p)} (h : Tr l) (h' : Tr l') (e : ∀ i, cf l i = cf l' i) : l = l' :=
  cf_ext (Nat.le_antisymm (h.len e) (h'.len (fun i => (e i).symm))) e
/-- The list without its zeros at the end. -/
def ptrim {p : Nat} [NeZero p] : List (Fin p) → List (Fin p)
  | [] => []
  | a :: l => match ptrim l with
    | [] => if a = 0 then [] else [a]
    | b :: r => a :: b :: r
theorem cf_cons_succ {p : Nat} [NeZero p] (a : Fin p) (l : List (Fin p)) (i : Nat) : cf (a :: l) (i + 1) = cf l i := by simp [cf]
theorem cf_cons_zero {p : Nat} [NeZero p] (a : Fin p) (l : List (Fin p)) : cf (a :: l) 0 = a := by simp [cf]
theorem cf_nil {p : Nat} [NeZero p] (i : Nat) : cf ([] : List (Fin p)) i = 0 := by simp [cf]
theorem cf_ptrim {p : Nat} [NeZero p] (l : List (Fin p)) : ∀ i, cf (ptrim l) i = cf l i := by
  induction l with
  | nil => intro i; rfl
  | cons a l ih =>
    intro i
    unfold ptrim
    split
    · rename_i h
      rw [h] at ih
      cases i with
      | zero =>
        rw [cf_cons_zero]
        split
        · rename_i ha; rw [cf_nil, ha]
        · rw [cf_cons_zero]
      | succ i =>
        rw [cf_cons_succ, ← ih i, cf_nil]
        split
        · rw [cf_nil]
        · rw [cf_cons_succ, cf_nil]
    · rename_i b r h
      rw [h] at ih
      cases i with
      | zero => rw [cf_cons_zero, cf_cons_zero]
      | succ i => rw [cf_cons_succ, cf_cons_succ, ih i]
theorem tr_ptrim {p : Nat} [NeZero p] (l : List (Fin p)) : Tr (ptrim l) := by
  induction l with
  | nil => exact .inl rfl
  | cons a l ih =>
    unfold ptrim
    split
    · split
      · exact .inl rfl
      · rename_i ha
        right
        simpa [cf] using ha
    · rename_i b r h
      rw [h] at ih
      rcases ih with ih | ih
      · cases ih
      · right
        have e : (a :: b :: r).length - 1 = (b :: r).length - 1 + 1 := by simp
        rw [e, cf_cons_succ]
        exact ih
theorem ptrim_len {p : Nat} [NeZero p] (l : List (Fin p)) : (ptrim l).length ≤ l.length := (tr_ptrim l).len (cf_ptrim l)
/-- The polynomial of given coefficients. -/
def mkp {p : Nat} [NeZero p] (n : Nat) (f : Nat → Fin p) : List (Fin p) := ptrim ((List.range n).map f)
theorem cf_map_range {p : Nat} [NeZero p] (n : Nat) (f : Nat → Fin p) (i : Nat) : cf ((List.range n).map f) i = if i < n then f i else 0 := by
  unfold cf
  rw [List.getD_eq_getElem?_getD, List.getElem?_map]
  split
  · rename_i h
    rw [List.getElem?_eq_getElem (by simpa using h)]
    simp
  · rename_i h
    rw [List.getElem?_eq_none (by simpa using h)]
    rfl
theorem cf_mkp {p : Nat} [NeZero p] (n : Nat) (f : Nat → Fin p) (i : Nat) : cf (mkp n f) i = if i < n then f i else 0 := by
  unfold mkp
  rw [cf_ptrim, cf_map_range]
theorem cf_mkp_all {p : Nat} [NeZero p] {n : Nat} {f : Nat → Fin p} (h : ∀ i, n ≤ i → f i = 0) (i : Nat) : cf (mkp n f) i = f i := by
  rw [cf_mkp]
  split
  · rfl
  · rename_i h1
    exact (h i (by omega)).symm
theorem tr_mkp {p : Nat} [NeZero p] (n : Nat) (f : Nat → Fin p) : Tr (mkp n f) := tr_ptrim _
theorem mkp_len {p : Nat} [NeZero p] (n : Nat) (f : Nat → Fin p) : (mkp n f).length ≤ n := by
  have := ptrim_len ((List.range n).map f)
  simpa [mkp] using this
def padd {p : Nat} [NeZero p] (a b : List (Fin p)) : List (Fin p) := mkp (max a.length b.length) (fun i => cf a i + cf b i)
def pscale {p : Nat} [NeZero p] (k : Fin p) (a : List (Fin p)) : List (Fin p) := mkp a.length (fun i => k * cf a i)
def psub {p : Nat} [NeZero p] (a b : List (Fin p)) : List (Fin p) := padd a (pscale (-1) b)
def pmul {p : Nat} [NeZero p] (a b : List (Fin p)) : List (Fin p) := mkp (a.length + b.length) (conv (cf a) (cf b))
def peval {p : Nat} [NeZero p] (a : List (Fin p)) (x : Fin p) : Fin p := evF a.length (cf a) x
theorem cf_padd {p : Nat} [NeZero p] (a b : List (Fin p)) (i : Nat) : cf (padd a b) i = cf a i + cf b i :=
  cf_mkp_all (fun i hi => by rw [cf_ge (by omega), cf_ge (by omega)]; grind) i
theorem cf_pscale {p : Nat} [NeZero p] (k : Fin p) (a : List (Fin p)) (i : Nat) : cf (pscale k a) i = k * cf a i :=
  cf_mkp_all (fun i hi => by rw [cf_ge hi]; grind) i
theorem cf_psub {p : Nat} [NeZero p] (a b : List (Fin p)) (i : Nat) : cf (psub a b) i = cf a i - cf b i := by
  unfold psub
  rw [cf_padd, cf_pscale]
  grind
theorem cf_pmul {p : Nat} [NeZero p] (a b : List (Fin p)) (i : Nat) : cf (pmul a b) i = conv (cf a) (cf b) i :=
  cf_mkp_all (fun i hi => conv_support (m := a.length) (k := b.length) (fun j hj => cf_ge hj) (fun j hj => cf_ge hj) i (by omega)) i
theorem tr_psub {p : Nat} [NeZero p] (a b : List (Fin p)) : Tr (psub a b) := tr_mkp _ _
theorem tr_pmul {p : Nat} [NeZero p] (a b : List (Fin p)) : Tr (pmul a b) := tr_mkp _ _
theorem padd_len {p : Nat} [NeZero p] (a b : List (Fin p)) : (padd a b).length ≤ max a.length b.length := mkp_len _ _
theorem pscale_len {p : Nat} [NeZero p] (k : Fin p) (a : List (Fin p)) : (pscale k a).length ≤ a.length := mkp_len _ _
theorem psub_len {p : Nat} [NeZero p] (a b : List (Fin p)) : (psub a b).length ≤ max a.length b.length := by
  have h1 := padd_len a (pscale (-1) b)
  have h2 := pscale_len (-1) b
  unfold psub
  omega
theorem pmul_len {p : Nat} [NeZero p] (a b : List (Fin p)) : (pmul a b).length ≤ a.length + b.length - 1 := by
  rcases Nat.lt_or_ge (a.length + b.length - 1) (pmul a b).length with h | h
  · exfalso
    rcases tr_pmul a b with h1 | h1
    · rw [h1] at h; simp at h
    · apply h1
      rw [cf_pmul]
      exact conv_support (m := a.length) (k := b.length) (fun j hj => cf_ge hj) (fun j hj => cf_ge hj) _ (by omega)
  · exact h
/-- Degrees add up. -/
theorem pmul_length {p : Nat} [NeZero p] (hp : IsPr p) {a b : List (Fin p)} (ha : Tr a) (hb : Tr b) (ha0 : a ≠ []) (hb0 : b ≠ []) : (pmul a b).length = a.length + b.length - 1 := by
  have h1 := pmul_len a b
  have la : 0 < a.length := List.length_pos_iff.2 ha0
  have lb : 0 < b.length := List.length_pos_iff.2 hb0
  rcases Nat.lt_or_ge (pmul a b).length (a.length + b.length - 1) with h | h
  · exfalso
    have h2 : cf (pmul a b) (a.length - 1 + (b.length - 1)) = 0 := cf_ge (by omega)
    rw [cf_pmul, conv_top (fun i hi => cf_ge (by omega)) (fun i hi => cf_ge (by omega))] at h2
    rcases no_zero_div hp h2 with h3 | h3
    · exact (ha.resolve_left ha0) h3
    · exact (hb.resolve_left hb0) h3
  · omega
theorem peval_eq {p : Nat} [NeZero p] (a : List (Fin p)) (x : Fin p) {n : Nat} (h : a.length ≤ n) : evF n (cf a) x = peval a x := evF_ext x h (fun _ hi => cf_ge hi)
theorem peval_padd {p : Nat} [NeZero p] (a b : List (Fin p)) (x : Fin p) : peval (padd a b) x = peval a x + peval b x := by
  have hl := padd_len a b
  rw [← peval_eq (padd a b) x hl, evF_congr x (fun i _ => cf_padd a b i), evF_add, peval_eq a x (by omega), peval_eq b x (by omega)]
theorem peval_pscale {p : Nat} [NeZero p] (k : Fin p) (a : List (Fin p)) (x : Fin p) : peval (pscale k a) x = k * peval a x := by
  have hl := pscale_len k a
  rw [← peval_eq (pscale k a) x hl, evF_congr x (fun i _ => cf_pscale k a i), evF_smul]
  rfl
theorem peval_psub {p : Nat} [NeZero p] (a b : List (Fin p)) (x : Fin p) : peval (psub a b) x = peval a x - peval b x := by
  unfold psub
  rw [peval_padd, peval_pscale]
  grind
theorem peval_cons {p : Nat} [NeZero p] (c : Fin p) (l : List (Fin p)) (x : Fin p) : peval (c :: l) x = c + x * peval l x := by
  unfold peval
  rw [List.length_cons, evF_head, cf_cons_zero]
  congr 2
theorem peval_nil {p : Nat} [NeZero p] (x : Fin p) : peval ([] : List (Fin p)) x = 0 := rfl
/-- a = q b + r, and r is of smaller degree than b. -/
structure IsDiv {p : Nat} [NeZero p] (a b q r : List (Fin p)) : Prop where
  tq : Tr q
  tr : Tr r
  less : r.length < b.length
  eq : ∀ i, cf a i = conv (cf q) (cf b) i + cf r i
theorem conv_subl {p : Nat} [NeZero p] (f g h : Nat → Fin p) (n : Nat) : conv (fun i => f i - g i) h n = conv f h n - conv g h n := by
  unfold conv
  rw [← sumF_sub]
  exact sumF_congr (fun i hi => by grind)
theorem IsDiv.unique {p : Nat} [NeZero p] (hp : IsPr p) {a b q r q' r' : List (Fin p)} (hb : Tr b) (h : IsDiv a b q r) (h' : IsDiv a b q' r') : q = q' ∧ r = r' := by
  have hb0 : b ≠ [] := by
    rintro rfl
    have := h.less
    simp at this
  -- (q - q') b = r' - r
  have key : ∀ i, conv (cf (psub q q')) (cf b) i = cf (psub r' r) i := by
    intro i
    rw [conv_congr (fun j _ => cf_psub q q' j) (fun _ _ => rfl), conv_subl, cf_psub]
    have h1 := h.eq i
    have h2 := h'.eq i
    grind
  have hq : psub q q' = [] := by
    by_cases hne : psub q q' = []
    · exact hne
    · exfalso
      have h1 := pmul_length hp (tr_psub q q') hb hne hb0
      have h2 : pmul (psub q q') b = psub r' r := (tr_pmul _ _).eq (tr_psub _ _) (fun i => by rw [cf_pmul, key])
      have h3 := psub_len r' r
      rw [h2] at h1
      have h4 : 0 < (psub q q').length := List.length_pos_iff.2 hne
      have := h.less
      have := h'.less
      omega
  have hqq : q = q' := h.tq.eq h'.tq (fun i => by
    have := cf_psub q q' i
    rw [hq, cf_nil] at this
    grind)
  refine ⟨hqq, h.tr.eq h'.tr (fun i => ?_)⟩
  have h1 := h.eq i
  have h2 := h'.eq i
  rw [hqq] at h1
  grind
/-- Division by x - c. -/
def synth {p : Nat} [NeZero p] (c : Fin p) : List (Fin p) → List (Fin p)
  | [] => []
  | _ :: l => peval l c :: synth c l
theorem synth_len {p : Nat} [NeZero p] (c : Fin p) (l : List (Fin p)) : (synth c l).length = l.length := by
  induction l with
  | nil => rfl
  | cons a l ih => simp [synth, ih]
theorem synth_eval {p : Nat} [NeZero p] (c : Fin p) (l : List (Fin p)) (x : Fin p) : peval l x = (x - c) * peval (synth c l) x + peval l c := by
  induction l with
  | nil => simp only [synth, peval_nil]; grind
  | cons a l ih =>
    simp only [synth]
    rw [peval_cons, peval_cons, peval_cons, ih]
    grind
theorem synth_last {p : Nat} [NeZero p] (c : Fin p) (l : List (Fin p)) : cf (synth c l) (l.length - 1) = 0 := by
  induction l with
  | nil => rfl
  | cons a l ih =>
    simp only [synth]
    cases l with
    | nil => simp [cf, synth, peval_nil]
    | cons b l =>
      have e : (a :: b :: l).length - 1 = (b :: l).length - 1 + 1 := by simp
      rw [e, cf_cons_succ]
      exact ih
theorem peval_take {p : Nat} [NeZero p] {l : List (Fin p)} (h : cf l (l.length - 1) = 0) (x : Fin p) : peval (l.take (l.length - 1)) x = peval l x := by
  unfold peval
  have e : evF l.length (cf l) x = evF (l.length - 1) (cf l) x := by
    rcases Nat.eq_zero_or_pos l.length with h0 | h0
    · rw [h0]
    · exact sumF_ext (by omega) (fun i h1 h2 => by
        have : i = l.length - 1 := by omega
        rw [this, h]
        grind)
  rw [e, List.length_take, Nat.min_eq_left (by omega)]
  refine evF_congr x (fun i hi => ?_)
  rw [cf_lt (by rw [List.length_take]; omega), cf_lt (by omega), List.getElem_take]
/-- All coefficients zero, or fewer zeros than coefficients. -/
theorem zeros_lt {p : Nat} [NeZero p] (hp : IsPr p) : ∀ (n : Nat) (l : List (Fin p)), l.length = n → ∀ xs : List (Fin p), xs.Nodup → (∀ x ∈ xs, peval l x = 0) → n ≤ xs.length → ∀ x, peval l x = 0 := by
  intro n
  induction n with
  | zero =>
    intro l hl xs _ _ _ x
    rw [List.length_eq_zero_iff.1 hl]
    rfl
  | succ n ih =>
    intro l hl xs hnd hz hlen x
    match xs, hnd, hz, hlen with
    | c :: xs, hnd, hz, hlen =>
      have hc := hz c List.mem_cons_self
      have hs : ∀ y, peval l y = (y - c) * peval ((synth c l).take n) y := by
        intro y
        rw [synth_eval c l y, hc]
        have e : n = (synth c l).length - 1 := by rw [synth_len]; omega
        have h1 : cf (synth c l) ((synth c l).length - 1) = 0 := by rw [synth_len]; exact synth_last c l
        have h2 := peval_take h1 y
        rw [← e] at h2
        rw [h2]
        grind
      have hz2 : ∀ y ∈ xs, peval ((synth c l).take n) y = 0 := by
        intro y hy
        have h1 := hz y (List.mem_cons_of_mem _ hy)
        rw [hs y] at h1
        rcases no_zero_div hp h1 with h2 | h2
        · exfalso
          have : y = c := by grind
          subst this
          exact (List.nodup_cons.1 hnd).1 hy
        · exact h2
      have h3 := ih ((synth c l).take n) (by rw [List.length_take, synth_len]; omega) xs (List.nodup_cons.1 hnd).2 hz2 (by simp at hlen; omega) x
      rw [hs x, h3]
      grind
/-- A polynomial that is zero at as many points as it has coefficients is zero. -/
theorem zero_of_values {p : Nat} [NeZero p] (hp : IsPr p) : ∀ (n : Nat) (l : List (Fin p)), l.length = n → ∀ xs : List (Fin p), xs.Nodup → (∀ x ∈ xs, peval l x = 0) → n ≤ xs.length → ∀ i, cf l i = 0 := by
  intro n
  induction n with
  | zero =>
    intro l hl xs _ _ _ i
    rw [List.length_eq_zero_iff.1 hl, cf_nil]
  | succ n ih =>
    intro l hl xs hnd hz hlen i
    match l, hl with
    | a :: l, hl =>
      have hall := zeros_lt hp (n + 1) (a :: l) hl xs hnd hz hlen
      have ha : a = 0 := by
        have := hall 0
        rw [peval_cons] at this
        grind
      -- the rest is zero at every point but 0 perhaps: at all points of xs without 0, and there are enough, or xs holds 0
      have hl' : l.length = n := by simpa using hl
      have hz2 : ∀ x, x ≠ 0 → peval l x = 0 := by
        intro x hx
        have h1 := hall x
        rw [peval_cons, ha] at h1
        rcases no_zero_div hp (a := x) (b := peval l x) (by grind) with h2 | h2
        · exact absurd h2 hx
        · exact h2
      have hnd2 : (xs.filter (fun x => x != 0)).Nodup := hnd.filter _
      have hcount : n ≤ (xs.filter (fun x => x != 0)).length := by
        have key : ∀ ys : List (Fin p), ys.Nodup → ys.length ≤ (ys.filter (fun x => x != 0)).length + 1 := by
          intro ys
          induction ys with
          | nil => intro _; simp
          | cons y ys ihy =>
            intro h
            obtain ⟨h1, h2⟩ := List.nodup_cons.1 h
            by_cases hy : y = 0
            · have : ys.filter (fun x => x != 0) = ys := List.filter_eq_self.2 (fun z hz => by
                have : z ≠ 0 := by rintro rfl; exact h1 (hy ▸ hz)
                simpa using this)
              rw [List.filter_cons_of_neg (by simp [hy]), this]
              simp
            · rw [List.filter_cons_of_pos (by simpa using hy)]
              have := ihy h2
              simp only [List.length_cons]
              omega
        have := key xs hnd
        omega
      have h3 := ih l hl' _ hnd2 (fun x hx => hz2 x (by simpa using (List.mem_filter.1 hx).2)) hcount
      cases i with
      | zero => rw [cf_cons_zero]; exact ha
      | succ i => rw [cf_cons_succ]; exact h3 i
/-- Two polynomials with the same values at enough points are the same. -/
theorem eq_of_values {p : Nat} [NeZero p] (hp : IsPr p) {a b : List (Fin p)} {n : Nat} (ha : a.length ≤ n) (hb : b.length ≤ n) {xs : List (Fin p)} (hnd : xs.Nodup) (hn : n ≤ xs.length) (h : ∀ x ∈ xs, peval a x = peval b x) : ∀ i, cf a i = cf b i := by
  intro i
  have hl := psub_len a b
  have h1 := zero_of_values hp _ (psub a b) rfl xs hnd (fun x hx => by rw [peval_psub, h x hx]; grind) (by omega) i
  rw [cf_psub] at h1
  grind
end Go.Proofs.YtjpaichcaaacbaaDoorNum
end
section
namespace Go.Proofs.YtjpaichcaaacbaaDoorNum
section
variable {p : Nat}
def mulX [NeZero p] (n : Nat) (a b : Nat → Nat → Fin p) : Nat → Nat → Fin p := fun i j => sumF n (fun k => a i k * b k j)
def idX [NeZero p] : Nat → Nat → Fin p := fun i j => if i = j then 1 else 0
theorem mulX_congr [NeZero p] {n : Nat} {a a' b b' : Nat → Nat → Fin p} {i j : Nat} (ha : ∀ k, k < n → a i k = a' i k) (hb : ∀ k, k < n → b k j = b' k j) : mulX n a b i j = mulX n a' b' i j :=
  sumF_congr (fun k hk => by rw [ha k hk, hb k hk])
theorem mulX_assoc [NeZero p] (m n : Nat) (a b c : Nat → Nat → Fin p) (i j : Nat) : mulX n (mulX m a b) c i j = mulX m a (mulX n b c) i j := by
  unfold mulX
  have e1 : sumF n (fun k => sumF m (fun l => a i l * b l k) * c k j) = sumF n (fun k => sumF m (fun l => a i l * b l k * c k j)) :=
    sumF_congr (fun k _ => (sumF_mulr m (c k j) (fun l => a i l * b l k)).symm)
  have e2 : sumF m (fun l => a i l * sumF n (fun k => b l k * c k j)) = sumF m (fun l => sumF n (fun k => a i l * (b l k * c k j))) :=
    sumF_congr (fun l _ => (sumF_mul n (a i l) (fun k => b l k * c k j)).symm)
  rw [e1, e2, sumF_comm]
  exact sumF_congr (fun l _ => sumF_congr (fun k _ => by grind))
theorem mulX_id [NeZero p] (n : Nat) (a : Nat → Nat → Fin p) {i j : Nat} (hj : j < n) : mulX n a idX i j = a i j := by
  unfold mulX idX
  rw [sumF_one (j := j) hj (fun k _ hk => by rw [if_neg hk]; grind), if_pos rfl]
  grind
theorem id_mulX [NeZero p] (n : Nat) (a : Nat → Nat → Fin p) {i j : Nat} (hi : i < n) : mulX n idX a i j = a i j := by
  unfold mulX idX
  rw [sumF_one (j := i) hi (fun k _ hk => by rw [if_neg (fun h => hk h.symm)]; grind), if_pos rfl]
  grind
def swapR [NeZero p] (r s : Nat) (a : Nat → Nat → Fin p) : Nat → Nat → Fin p := fun i j => if i = r then a s j else if i = s then a r j else a i j
def scaleR [NeZero p] (r : Nat) (c : Fin p) (a : Nat → Nat → Fin p) : Nat → Nat → Fin p := fun i j => if i = r then c * a i j else a i j
def addR [NeZero p] (r s : Nat) (c : Fin p) (a : Nat → Nat → Fin p) : Nat → Nat → Fin p := fun i j => if i = r then a i j + c * a s j else a i j
end
end Go.Proofs.YtjpaichcaaacbaaDoorNum
end
section
namespace Go.Proofs.YtjpaichcaaacbaaDoorNum
section
variable {p : Nat}
inductive Ops [NeZero p] (n : Nat) : Fin p → (Nat → Nat → Fin p) → (Nat → Nat → Fin p) → Prop
  | refl (a : Nat → Nat → Fin p) : Ops n 1 a a
  | swap {c : Fin p} {a b : Nat → Nat → Fin p} (h : Ops n c a b) (r s : Nat) (hr : r < n) (hs : s < n) (hrs : r ≠ s) : Ops n (-c) a (swapR r s b)
  | scale {c : Fin p} {a b : Nat → Nat → Fin p} (h : Ops n c a b) (r : Nat) (k : Fin p) (hr : r < n) (hk : k ≠ 0) : Ops n (k * c) a (scaleR r k b)
  | add {c : Fin p} {a b : Nat → Nat → Fin p} (h : Ops n c a b) (r s : Nat) (k : Fin p) (hr : r < n) (hs : s < n) (hrs : r ≠ s) : Ops n c a (addR r s k b)
  | congr {c : Fin p} {a b b' : Nat → Nat → Fin p} (h : Ops n c a b) (he : ∀ i j, i < n → b i j = b' i j) : Ops n c a b'
theorem Ops.trans [NeZero p] {n : Nat} {c d : Fin p} {a b e : Nat → Nat → Fin p} (h : Ops n c a b) (k : Ops n d b e) : Ops n (d * c) a e := by
  induction k with
  | refl a => exact (by have : (1 : Fin p) * c = c := by grind
                        rw [this]; exact h)
  | swap k r s hr hs hrs ih =>
    have := (ih h).swap r s hr hs hrs
    rename_i d' _ _
    have e1 : -d' * c = -(d' * c) := by grind
    rw [e1]; exact this
  | scale k r q hr hq ih =>
    have := (ih h).scale r q hr hq
    rename_i d' _ _
    have e1 : q * d' * c = q * (d' * c) := by grind
    rw [e1]; exact this
  | add k r s q hr hs hrs ih => exact (ih h).add r s q hr hs hrs
  | congr k he ih => exact (ih h).congr he
theorem Ops.sym [NeZero p] (hp : IsPr p) {n : Nat} {c : Fin p} {a b : Nat → Nat → Fin p} (h : Ops n c a b) : ∃ d, Ops n d b a := by
  induction h with
  | refl a => exact ⟨1, .refl a⟩
  | swap h r s hr hs hrs ih =>
    obtain ⟨d, ih⟩ := ih
    refine ⟨_, Ops.trans (((Ops.refl _).swap r s hr hs hrs).congr (fun i j _ => ?_)) ih⟩
    unfold swapR
    by_cases h1 : i = r
    · subst h1
      by_cases h2 : s = i
      · exact absurd h2.symm hrs
      · simp only [if_true, h2, if_false]
    · by_cases h2 : i = s
      · subst h2; simp only [h1, if_true, if_false]
      · simp only [h1, h2, if_false]
  | scale h r k hr hk ih =>
    obtain ⟨d, ih⟩ := ih
    have hi := mul_inv hp hk
    refine ⟨_, Ops.trans (((Ops.refl _).scale r (inv k) hr (inv_ne_zero hp hk)).congr (fun i j _ => ?_)) ih⟩
    unfold scaleR
    split
    · grind
    · rfl
  | add h r s k hr hs hrs ih =>
    obtain ⟨d, ih⟩ := ih
    refine ⟨_, Ops.trans (((Ops.refl _).add r s (-k) hr hs hrs).congr (fun i j _ => ?_)) ih⟩
    unfold addR
    have h2 : s ≠ r := fun h => hrs h.symm
    by_cases h1 : i = r
    · simp only [h1, h2, if_true, if_false]
      grind
    · simp only [h1, if_false]
  | congr h he ih =>
    obtain ⟨d, ih⟩ := ih
    refine ⟨_, Ops.trans ((Ops.refl _).congr (fun i j hi => (he i j hi).symm)) ih⟩
theorem Ops.mul [NeZero p] {n : Nat} {c : Fin p} {a b : Nat → Nat → Fin p} (h : Ops n c a b) (m : Nat) (x : Nat → Nat → Fin p) : Ops n c (mulX m a x) (mulX m b x) := by
  induction h with
  | refl a => exact .refl _
  | swap h r s hr hs hrs ih =>
    refine (ih.swap r s hr hs hrs).congr (fun i j _ => ?_)
    unfold swapR mulX
    by_cases h1 : i = r
    · simp only [h1, if_true]
    · by_cases h2 : i = s
      · have h3 : ¬ s = r := fun h => hrs h.symm
        simp only [h2, h3, if_true, if_false]
      · simp only [h1, h2, if_false]
  | scale h r k hr hk ih =>
    refine (ih.scale r k hr hk).congr (fun i j _ => ?_)
    unfold scaleR mulX
    by_cases h1 : i = r
    · simp only [h1, if_true]
      rw [← sumF_mul]
      exact sumF_congr (fun l _ => by grind)
    · simp only [h1, if_false]
  | add h r s k hr hs hrs ih =>
    refine (ih.add r s k hr hs hrs).congr (fun i j _ => ?_)
    unfold addR mulX
    by_cases h1 : i = r
    · simp only [h1, if_true]
      rw [← sumF_mul, ← sumF_add]
      exact sumF_congr (fun l _ => by grind)
    · simp only [h1, if_false]
  | congr h he ih => exact ih.congr (fun i j hi => sumF_congr (fun l _ => by rw [he i l hi]))
/-- What row operations do is a product with a matrix from the left. -/
theorem Ops.left [NeZero p] {n : Nat} {c : Fin p} {a b : Nat → Nat → Fin p} (h : Ops n c a b) : ∃ q, Ops n c idX q ∧ ∀ i j, i < n → b i j = mulX n q a i j := by
  have key : ∀ {c : Fin p} {a b : Nat → Nat → Fin p}, Ops n c a b → ∃ q, Ops n c idX q ∧ ∀ i j, i < n → b i j = mulX n q a i j := by
    intro c a b h
    induction h with
    | refl a => exact ⟨idX, .refl _, fun i j hi => (id_mulX n a hi).symm⟩
    | swap h r s hr hs hrs ih =>
      obtain ⟨q, hq, e⟩ := ih
      refine ⟨_, hq.swap r s hr hs hrs, fun i j hi => ?_⟩
      unfold swapR
      split
      · rename_i h1
        rw [e s j hs]
        exact sumF_congr (fun l _ => by dsimp only; rw [if_pos h1])
      · split
        · rename_i h1 h2
          rw [e r j hr]
          exact sumF_congr (fun l _ => by dsimp only; rw [if_neg h1, if_pos h2])
        · rename_i h1 h2
          rw [e i j hi]
          exact sumF_congr (fun l _ => by dsimp only; rw [if_neg h1, if_neg h2])
    | scale h r k hr hk ih =>
      obtain ⟨q, hq, e⟩ := ih
      refine ⟨_, hq.scale r k hr hk, fun i j hi => ?_⟩
      unfold scaleR
      split
      · rename_i h1
        rw [e i j hi]
        unfold mulX
        rw [← sumF_mul]
        exact sumF_congr (fun l _ => by dsimp only; rw [if_pos h1]; grind)
      · rename_i h1
        rw [e i j hi]
        exact sumF_congr (fun l _ => by dsimp only; rw [if_neg h1])
    | add h r s k hr hs hrs ih =>
      obtain ⟨q, hq, e⟩ := ih
      refine ⟨_, hq.add r s k hr hs hrs, fun i j hi => ?_⟩
      unfold addR
      split
      · rename_i h1
        rw [e i j hi, e s j hs]
        unfold mulX
        rw [← sumF_mul, ← sumF_add]
        exact sumF_congr (fun l _ => by dsimp only; rw [if_pos h1]; grind)
      · rename_i h1
        rw [e i j hi]
        exact sumF_congr (fun l _ => by dsimp only; rw [if_neg h1])
    | congr h he ih =>
      obtain ⟨q, hq, e⟩ := ih
      exact ⟨q, hq, fun i j hi => (he i j hi).symm.trans (e i j hi)⟩
  exact key h
/-- .. that has an inverse from both sides. -/
theorem Ops.inverse [NeZero p] (hp : IsPr p) {n : Nat} {c : Fin p} {a b : Nat → Nat → Fin p} (h : Ops n c a b) :
    ∃ q r, (∀ i j, i < n → b i j = mulX n q a i j) ∧ (∀ i j, i < n → j < n → mulX n r q i j = idX i j) ∧ (∀ i j, i < n → j < n → mulX n q r i j = idX i j) := by
  obtain ⟨q, hq, e⟩ := h.left
  obtain ⟨d, hs⟩ := hq.sym hp
  obtain ⟨r, hr, er⟩ := hs.left
  obtain ⟨d2, hs2⟩ := hr.sym hp
  obtain ⟨s, _, es⟩ := hs2.left
  have rq : ∀ i j, i < n → j < n → mulX n r q i j = idX i j := fun i j hi _ => (er i j hi).symm
  refine ⟨q, r, e, rq, fun i j hi hj => ?_⟩
  -- s r = 1, r q = 1: s = q
  have hsq : ∀ i j, i < n → j < n → s i j = q i j := by
    intro i j hi hj
    have h1 : mulX n (mulX n s r) q i j = mulX n s (mulX n r q) i j := mulX_assoc n n s r q i j
    have h2 : mulX n (mulX n s r) q i j = q i j := by
      rw [mulX_congr (a' := idX) (b' := q) (fun k _ => (es i k hi).symm) (fun _ _ => rfl)]
      exact id_mulX n q hi
    have h3 : mulX n s (mulX n r q) i j = s i j := by
      rw [mulX_congr (a' := s) (b' := idX) (fun _ _ => rfl) (fun k hk => rq k j hk hj)]
      exact mulX_id n s hj
    rw [← h2, h1, h3]
  rw [mulX_congr (a' := s) (b' := r) (fun k hk => (hsq i k hi hk).symm) (fun _ _ => rfl)]
  exact (es i j hi).symm
/-- Row r divided by its entry in column k; its multiples taken from all other rows. -/
def clearX [NeZero p] (r k : Nat) (a : Nat → Nat → Fin p) : Nat → Nat → Fin p :=
  fun i j => if i = r then a r j * inv (a r k) else a i j - a i k * (a r j * inv (a r k))
theorem Ops.clear [NeZero p] (hp : IsPr p) {n : Nat} {c : Fin p} {a b : Nat → Nat → Fin p} (h : Ops n c a b) {r k : Nat} (hr : r < n) (hk : b r k ≠ 0) : Ops n (inv (b r k) * c) a (clearX r k b) := by
  have h1 := h.scale r (inv (b r k)) hr (inv_ne_zero hp hk)
  -- the rows below m are cleared
  have key : ∀ m, m ≤ n → Ops n (inv (b r k) * c) a (fun i j => if i = r then b r j * inv (b r k) else if i < m then b i j - b i k * (b r j * inv (b r k)) else b i j) := by
    intro m
    induction m with
    | zero =>
      intro _
      refine h1.congr (fun i j _ => ?_)
      unfold scaleR
      have : ¬ (i < 0) := by omega
      simp only [this, if_false]
      split
      · rename_i hi; rw [hi]; grind
      · rfl
    | succ m ih =>
      intro hm
      by_cases hmr : m = r
      · refine (ih (by omega)).congr (fun i j _ => ?_)
        by_cases hi : i = r
        · simp only [hi, if_true]
        · simp only [hi, if_false]
          by_cases h2 : i < m
          · rw [if_pos h2, if_pos (by omega)]
          · rw [if_neg h2, if_neg (by omega)]
      · refine ((ih (by omega)).add m r (- b m k) (by omega) hr hmr).congr (fun i j _ => ?_)
        unfold addR
        by_cases hi : i = m
        · subst hi
          have h3 : ¬ (i < i) := by omega
          have h4 : i < i + 1 := by omega
          simp only [hmr, h3, h4, if_true, if_false]
          grind
        · by_cases hi2 : i = r
          · simp only [hi2, if_true]
            rw [hi2] at hi
            simp only [hi, if_false]
          · simp only [hi, hi2, if_false]
            by_cases h2 : i < m
            · rw [if_pos h2, if_pos (by omega)]
            · rw [if_neg h2, if_neg (by omega)]
  refine (key n (Nat.le_refl n)).congr (fun i j hi => ?_)
  unfold clearX
  by_cases h2 : i = r
  · simp only [h2, if_true]
  · simp only [h2, if_false, hi, if_true]
def rowL [NeZero p] (w : List (List (Fin p))) (i : Nat) : List (Fin p) := w.getD i []
def en [NeZero p] (w : List (List (Fin p))) (i j : Nat) : Fin p := cf (rowL w i) j
/-- The first row from r on with a nonzero entry in column k. -/
def findP [NeZero p] (w : List (List (Fin p))) (k : Nat) : Nat → Nat → Option Nat
  | 0, _ => none
  | f + 1, i => if en w i k ≠ 0 then some i else findP w k f (i + 1)
def swapL [NeZero p] (i r : Nat) (w : List (List (Fin p))) : List (List (Fin p)) := (w.set i (rowL w r)).set r (rowL w i)
def clearL [NeZero p] (r k : Nat) (w : List (List (Fin p))) : List (List (Fin p)) :=
  (List.range w.length).map fun i => (List.range (rowL w i).length).map fun j => clearX r k (en w) i j
def stepL [NeZero p] (k : Nat) (s : List (List (Fin p)) × List Nat × Fin p) : List (List (Fin p)) × List Nat × Fin p :=
  match findP s.1 k (s.1.length - s.2.1.length) s.2.1.length with
  | none => s
  | some i =>
    let r := s.2.1.length
    let w1 := if i = r then s.1 else swapL i r s.1
    let d1 := if i = r then s.2.2 else - s.2.2
    (clearL r k w1, s.2.1 ++ [k], d1 * en w1 r k)
theorem findP_some [NeZero p] {w : List (List (Fin p))} {k : Nat} : ∀ {f i j : Nat}, findP w k f i = some j → i ≤ j ∧ j < i + f ∧ en w j k ≠ 0 ∧ ∀ l, i ≤ l → l < j → en w l k = 0 := by
  intro f
  induction f with
  | zero => intro i j h; cases h
  | succ f ih =>
    intro i j h
    unfold findP at h
    split at h
    · rename_i h1
      have : i = j := by simpa using h
      subst this
      exact ⟨Nat.le_refl _, by omega, h1, fun l h2 h3 => by omega⟩
    · rename_i h1
      obtain ⟨h2, h3, h4, h5⟩ := ih h
      refine ⟨by omega, by omega, h4, fun l h6 h7 => ?_⟩
      by_cases h8 : l = i
      · subst h8; exact Classical.not_not.1 h1
      · exact h5 l (by omega) h7
theorem findP_none [NeZero p] {w : List (List (Fin p))} {k : Nat} : ∀ {f i : Nat}, findP w k f i = none → ∀ l, i ≤ l → l < i + f → en w l k = 0 := by
  intro f
  induction f with
  | zero => intro i _ l h1 h2; omega
  | succ f ih =>
    intro i h l h1 h2
    unfold findP at h
    split at h
    · cases h
    · rename_i h3
      by_cases h4 : l = i
      · subst h4; exact Classical.not_not.1 h3
      · exact ih h l (by omega) (by omega)
theorem rowL_lt [NeZero p] {w : List (List (Fin p))} {i : Nat} (h : i < w.length) : rowL w i = w[i] := by
  unfold rowL
  rw [List.getD_eq_getElem?_getD, List.getElem?_eq_getElem h]
  rfl
theorem rowL_set [NeZero p] {w : List (List (Fin p))} {i k : Nat} {r : List (Fin p)} (h : i < w.length) : rowL (w.set i r) k = if k = i then r else rowL w k := by
  unfold rowL
  rw [List.getD_eq_getElem?_getD, List.getD_eq_getElem?_getD, List.getElem?_set]
  split
  · rename_i h1
    subst h1
    simp
  · rename_i h1
    rw [if_neg (fun h => h1 h.symm)]
theorem swapL_length [NeZero p] (i r : Nat) (w : List (List (Fin p))) : (swapL i r w).length = w.length := by simp [swapL]
theorem rowL_swapL [NeZero p] {w : List (List (Fin p))} {i r k : Nat} (hi : i < w.length) (hr : r < w.length) : rowL (swapL i r w) k = if k = r then rowL w i else if k = i then rowL w r else rowL w k := by
  unfold swapL
  rw [rowL_set (by simpa using hr), rowL_set hi]
theorem en_swapL [NeZero p] {w : List (List (Fin p))} {i r : Nat} (hi : i < w.length) (hr : r < w.length) (hir : i ≠ r) (a b : Nat) : en (swapL i r w) a b = swapR i r (en w) a b := by
  unfold en
  rw [rowL_swapL hi hr]
  unfold swapR
  by_cases h1 : a = r
  · subst h1
    rw [if_pos rfl, if_neg (fun h => hir h.symm), if_pos rfl]
  · rw [if_neg h1]
    by_cases h2 : a = i
    · rw [if_pos h2, if_pos h2]
    · rw [if_neg h2, if_neg h2, if_neg h1]
/-- All rows are of length c. -/
def Rect [NeZero p] (c : Nat) (w : List (List (Fin p))) : Prop := ∀ r ∈ w, r.length = c
theorem Rect.row [NeZero p] {c : Nat} {w : List (List (Fin p))} (h : Rect c w) {i : Nat} (hi : i < w.length) : (rowL w i).length = c := by
  rw [rowL_lt hi]
  exact h _ (List.getElem_mem hi)
theorem Rect.of [NeZero p] {c : Nat} {w : List (List (Fin p))} (h : ∀ i, i < w.length → (rowL w i).length = c) : Rect c w := by
  intro r hr
  obtain ⟨i, hi, rfl⟩ := List.getElem_of_mem hr
  rw [← rowL_lt hi]
  exact h i hi
theorem Rect.swap [NeZero p] {c : Nat} {w : List (List (Fin p))} (h : Rect c w) {i r : Nat} (hi : i < w.length) (hr : r < w.length) : Rect c (swapL i r w) := by
  refine Rect.of (fun k hk => ?_)
  rw [swapL_length] at hk
  rw [rowL_swapL hi hr]
  split
  · exact h.row hi
  · split
    · exact h.row hr
    · exact h.row hk
theorem clearL_length [NeZero p] (r k : Nat) (w : List (List (Fin p))) : (clearL r k w).length = w.length := by simp [clearL]
theorem rowL_clearL [NeZero p] {w : List (List (Fin p))} {r k i : Nat} (hi : i < w.length) : rowL (clearL r k w) i = (List.range (rowL w i).length).map fun j => clearX r k (en w) i j := by
  rw [rowL_lt (by rw [clearL_length]; exact hi)]
  simp [clearL]
theorem Rect.clear [NeZero p] {c : Nat} {w : List (List (Fin p))} (h : Rect c w) (r k : Nat) : Rect c (clearL r k w) := by
  refine Rect.of (fun i hi => ?_)
  rw [clearL_length] at hi
  rw [rowL_clearL hi, List.length_map, List.length_range]
  exact h.row hi
theorem en_ge [NeZero p] {c : Nat} {w : List (List (Fin p))} (h : Rect c w) (i j : Nat) (hj : c ≤ j) : en w i j = 0 := by
  unfold en
  by_cases hi : i < w.length
  · exact cf_ge (by rw [h.row hi]; exact hj)
  · unfold rowL
    rw [List.getD_eq_getElem?_getD, List.getElem?_eq_none (by omega)]
    exact cf_nil j
theorem en_clearL [NeZero p] {c : Nat} {w : List (List (Fin p))} (h : Rect c w) {r k i : Nat} (hi : i < w.length) (j : Nat) : en (clearL r k w) i j = clearX r k (en w) i j := by
  unfold en
  rw [rowL_clearL hi, cf_map_range, h.row hi]
  split
  · rfl
  · rename_i hj
    show (0 : Fin p) = clearX r k (en w) i j
    unfold clearX
    rw [en_ge h r j (by omega), en_ge h i j (by omega)]
    split <;> grind
/-- What holds after the first k columns. -/
structure GJ [NeZero p] (n c k : Nat) (m : Nat → Nat → Fin p) (w : List (List (Fin p))) (pv : List Nat) (d : Fin p) : Prop where
  len : w.length = n
  rect : Rect c w
  ops : ∃ f, Ops n f m (en w) ∧ f * d = 1
  few : pv.length ≤ n
  lt : ∀ t, t < pv.length → pv.getD t 0 < k
  mono : ∀ t u, t < u → u < pv.length → pv.getD t 0 < pv.getD u 0
  unit : ∀ t i, t < pv.length → i < n → en w i (pv.getD t 0) = if i = t then 1 else 0
  zero : ∀ i j, pv.length ≤ i → i < n → j < k → en w i j = 0
theorem getD_snoc_lt {l : List Nat} {k t : Nat} (h : t < l.length) : (l ++ [k]).getD t 0 = l.getD t 0 := by
  rw [List.getD_eq_getElem?_getD, List.getD_eq_getElem?_getD, List.getElem?_append_left h]
theorem getD_snoc_eq (l : List Nat) (k : Nat) : (l ++ [k]).getD l.length 0 = k := by
  rw [List.getD_eq_getElem?_getD, List.getElem?_append_right (Nat.le_refl _)]
  simp
theorem GJ.step [NeZero p] (hp : IsPr p) {n c k : Nat} {m : Nat → Nat → Fin p} {w : List (List (Fin p))} {pv : List Nat} {d : Fin p} (h : GJ n c k m w pv d) :
    GJ n c (k + 1) m (stepL k (w, pv, d)).1 (stepL k (w, pv, d)).2.1 (stepL k (w, pv, d)).2.2 := by
  unfold stepL
  dsimp only
  split
  · rename_i hf
    show GJ n c (k + 1) m w pv d
    rw [h.len] at hf
    have hz := findP_none hf
    refine ⟨h.len, h.rect, h.ops, h.few, fun t ht => by have := h.lt t ht; omega, h.mono, h.unit, fun i j h1 h2 h3 => ?_⟩
    by_cases hj : j = k
    · subst hj
      exact hz i h1 (by omega)
    · exact h.zero i j h1 h2 (by omega)
  · rename_i i hf
    rw [h.len] at hf
    obtain ⟨h1, h2, h3, _⟩ := findP_some hf
    have hr : pv.length < n := by omega
    have hi : i < n := by omega
    -- behind the exchange
    obtain ⟨w1, hw1⟩ : ∃ w1, (if i = pv.length then w else swapL i pv.length w) = w1 := ⟨_, rfl⟩
    obtain ⟨d1, hd1⟩ : ∃ d1, (if i = pv.length then d else -d) = d1 := ⟨_, rfl⟩
    rw [hw1, hd1]
    obtain ⟨f, hops, hfd⟩ := h.ops
    have hlen1 : w1.length = n := by
      rw [← hw1]
      split
      · exact h.len
      · rw [swapL_length]; exact h.len
    have hrect1 : Rect c w1 := by
      rw [← hw1]
      split
      · exact h.rect
      · exact h.rect.swap (by rw [h.len]; exact hi) (by rw [h.len]; exact hr)
    have hen1 : ∀ a b, en w1 a b = if i = pv.length then en w a b else swapR i pv.length (en w) a b := by
      intro a b
      rw [← hw1]
      split
      · rfl
      · rename_i hne
        exact en_swapL (by rw [h.len]; exact hi) (by rw [h.len]; exact hr) hne a b
    have hops1 : ∃ f1, Ops n f1 m (en w1) ∧ f1 * d1 = 1 := by
      rw [← hd1]
      by_cases hne : i = pv.length
      · refine ⟨f, hops.congr (fun a b _ => ?_), by rw [if_pos hne]; exact hfd⟩
        rw [hen1, if_pos hne]
      · refine ⟨-f, (hops.swap i pv.length hi hr hne).congr (fun a b _ => ?_), by rw [if_neg hne]; grind⟩
        rw [hen1, if_neg hne]
    have hpiv : en w1 pv.length k ≠ 0 := by
      rw [hen1]
      by_cases hne : i = pv.length
      · rw [if_pos hne, ← hne]; exact h3
      · rw [if_neg hne]
        unfold swapR
        rw [if_neg (fun h => hne h.symm), if_pos rfl]
        exact h3
    have hunit1 : ∀ t a, t < pv.length → a < n → en w1 a (pv.getD t 0) = if a = t then 1 else 0 := by
      intro t a ht ha
      rw [hen1]
      by_cases hne : i = pv.length
      · rw [if_pos hne]; exact h.unit t a ht ha
      · rw [if_neg hne]
        unfold swapR
        by_cases e1 : a = i
        · rw [if_pos e1, h.unit t _ ht hr, if_neg (by omega), if_neg (by omega)]
        · rw [if_neg e1]
          by_cases e2 : a = pv.length
          · rw [if_pos e2, h.unit t i ht hi, if_neg (by omega), if_neg (by omega)]
          · rw [if_neg e2]; exact h.unit t a ht ha
    have hzero1 : ∀ a j, pv.length ≤ a → a < n → j < k → en w1 a j = 0 := by
      intro a j ha1 ha2 hj
      rw [hen1]
      by_cases hne : i = pv.length
      · rw [if_pos hne]; exact h.zero a j ha1 ha2 hj
      · rw [if_neg hne]
        unfold swapR
        split
        · exact h.zero _ j (Nat.le_refl _) hr hj
        · split
          · exact h.zero i j (by omega) hi hj
          · exact h.zero a j ha1 ha2 hj
    obtain ⟨f1, hops1, hfd1⟩ := hops1
    have hnew : ∀ a j, a < n → en (clearL pv.length k w1) a j = clearX pv.length k (en w1) a j := fun a j ha => en_clearL hrect1 (by rw [hlen1]; exact ha) j
    have hmi := mul_inv hp hpiv
    refine ⟨by rw [clearL_length]; exact hlen1, hrect1.clear _ _, ⟨inv (en w1 pv.length k) * f1, (hops1.clear hp hr hpiv).congr (fun a j ha => (hnew a j ha).symm), by grind⟩, by simp; omega, ?_, ?_, ?_, ?_⟩
    · intro t ht
      rw [List.length_append, List.length_singleton] at ht
      by_cases e : t < pv.length
      · rw [getD_snoc_lt e]; have := h.lt t e; omega
      · have : t = pv.length := by omega
        subst this
        rw [getD_snoc_eq]; omega
    · intro t u htu hu
      rw [List.length_append, List.length_singleton] at hu
      by_cases e : u < pv.length
      · rw [getD_snoc_lt e, getD_snoc_lt (by omega)]; exact h.mono t u htu e
      · have : u = pv.length := by omega
        subst this
        rw [getD_snoc_eq, getD_snoc_lt htu]
        exact h.lt t htu
    · intro t a ht ha
      rw [List.length_append, List.length_singleton] at ht
      by_cases e : t < pv.length
      · rw [getD_snoc_lt e, hnew a _ ha]
        unfold clearX
        rw [hunit1 t pv.length e hr, if_neg (show ¬ pv.length = t by omega)]
        by_cases e2 : a = pv.length
        · rw [if_pos e2, if_neg (by omega)]; grind
        · rw [if_neg e2, hunit1 t a e ha]; grind
      · have : t = pv.length := by omega
        subst this
        rw [getD_snoc_eq, hnew a k ha]
        unfold clearX
        by_cases e2 : a = pv.length
        · rw [if_pos e2, if_pos e2]; exact hmi
        · rw [if_neg e2, if_neg e2]; grind
    · intro a j ha1 ha2 hj
      rw [List.length_append, List.length_singleton] at ha1
      rw [hnew a j ha2]
      unfold clearX
      rw [if_neg (by omega)]
      by_cases e : j = k
      · subst e; grind
      · rw [hzero1 a j (by omega) ha2 (by omega), hzero1 pv.length j (Nat.le_refl _) hr (by omega)]
        grind
end
end Go.Proofs.YtjpaichcaaacbaaDoorNum
end
section
namespace Go.Proofs.YtjpaichcaaacbaaDoorNum
section
variable {p : Nat}
def elems [NeZero p] : List (Fin p) := (List.range p).map el
theorem GJ.pv_ge [NeZero p] {n c k : Nat} {m : Nat → Nat → Fin p} {w : List (List (Fin p))} {pv : List Nat} {d : Fin p} (h : GJ n c k m w pv d) : ∀ t, t < pv.length → t ≤ pv.getD t 0 := by
  intro t
  induction t with
  | zero => intro _; exact Nat.zero_le _
  | succ t ih =>
    intro ht
    have h1 := ih (by omega)
    have h2 := h.mono t (t + 1) (by omega) ht
    omega
/-- As many pivots as columns: the pivots are the columns, one by one. -/
theorem GJ.pv_all [NeZero p] {n c k : Nat} {m : Nat → Nat → Fin p} {w : List (List (Fin p))} {pv : List Nat} {d : Fin p} (h : GJ n c k m w pv d) (hk : pv.length = k) : ∀ t, t < k → pv.getD t 0 = t := by
  have key : ∀ e t, t + e + 1 = k → pv.getD t 0 + e < k := by
    intro e
    induction e with
    | zero => intro t ht; have := h.lt t (by omega); omega
    | succ e ih =>
      intro t ht
      have h1 := ih (t + 1) (by omega)
      have h2 := h.mono t (t + 1) (by omega) (by omega)
      omega
  intro t ht
  have h1 := key (k - 1 - t) t (by omega)
  have h2 := h.pv_ge t (by omega)
  omega
theorem GJ.is_id [NeZero p] {n c : Nat} {m : Nat → Nat → Fin p} {w : List (List (Fin p))} {pv : List Nat} {d : Fin p} (h : GJ n c n m w pv d) (hk : pv.length = n) : ∀ i j, i < n → j < n → en w i j = idX i j := by
  intro i j hi hj
  have h1 := h.unit j i (by omega) hi
  rw [h.pv_all hk j hj] at h1
  exact h1
theorem GJ.inverse [NeZero p] (hp : IsPr p) {n c : Nat} {m : Nat → Nat → Fin p} {w : List (List (Fin p))} {pv : List Nat} {d : Fin p} (h : GJ n c n m w pv d) (hk : pv.length = n) (hu : ∀ i j, i < n → j < n → m i (n + j) = idX i j) :
    (∀ i j, i < n → j < n → mulX n (fun a b => en w a (n + b)) m i j = idX i j) ∧ (∀ i j, i < n → j < n → mulX n m (fun a b => en w a (n + b)) i j = idX i j) := by
  obtain ⟨f, hops, _⟩ := h.ops
  obtain ⟨q, r, e, rq, qr⟩ := hops.inverse hp
  have hid := h.is_id hk
  have hx : ∀ i j, i < n → j < n → en w i (n + j) = q i j := by
    intro i j hi hj
    rw [e i (n + j) hi]
    have e1 : mulX n q m i (n + j) = mulX n q idX i j := by
      unfold mulX
      exact sumF_congr (fun l hl => by rw [hu l j hl hj])
    rw [e1, mulX_id n q hj]
  have qm : ∀ i j, i < n → j < n → mulX n q m i j = idX i j := fun i j hi hj => (e i j hi).symm.trans (hid i j hi hj)
  -- m = r
  have hmr : ∀ i j, i < n → j < n → m i j = r i j := by
    intro i j hi hj
    have h1 : mulX n (mulX n r q) m i j = m i j := by
      rw [mulX_congr (a' := idX) (b' := m) (fun l hl => rq i l hi hl) (fun _ _ => rfl), id_mulX n m hi]
    have h3 : mulX n r (mulX n q m) i j = r i j := by
      rw [mulX_congr (a' := r) (b' := idX) (fun _ _ => rfl) (fun l hl => qm l j hl hj), mulX_id n r hj]
    rw [← h1, mulX_assoc, h3]
  constructor
  · intro i j hi hj
    rw [mulX_congr (a' := q) (b' := m) (fun l hl => hx i l hi hl) (fun _ _ => rfl)]
    exact qm i j hi hj
  · intro i j hi hj
    rw [mulX_congr (a' := r) (b' := q) (fun l hl => hmr i l hi hl) (fun l hl => hx l j hl hj)]
    exact rq i j hi hj
end
end Go.Proofs.YtjpaichcaaacbaaDoorNum
end
section
namespace Go.Proofs.YtjpaichcaaacbaaDoorNum
section
variable {p : Nat} [NeZero p]
/-- One row's part of a coefficient. -/
def part (f : List (Fin p)) (k j : Nat) : Fin p := if k ≤ j then cf f (j - k) else 0
end
end Go.Proofs.YtjpaichcaaacbaaDoorNum
end
namespace Go.Proofs.YtjpaichcaaacbaaDoorNum
end Go.Proofs.YtjpaichcaaacbaaDoorNum
section
namespace Go.Proofs.YtjpaichcaaacbaaDoorNum
section
variable {p : Nat} [NeZero p]
abbrev Pt (p : Nat) := Fin p × Fin p
def fits (f : List (Fin p)) (q : Pt p) : Bool := decide (peval f q.1 = q.2)
def errs (f : List (Fin p)) (l : List (Pt p)) : List (Pt p) := l.filter (fun q => !fits f q)
/-- A polynomial with at most deg + 1 coefficients and at most 'wrong' errors. -/
structure Good (f : List (Fin p)) (l : List (Pt p)) (deg wrong : Nat) : Prop where
  len : f.length ≤ deg + 1
  few : (errs f l).length ≤ wrong
theorem filter_both {α : Type} (l : List α) (a b : α → Bool) : l.length ≤ (l.filter (fun x => a x && b x)).length + (l.filter (fun x => !a x)).length + (l.filter (fun x => !b x)).length := by
  induction l with
  | nil => simp
  | cons x l ih =>
    rw [List.filter_cons, List.filter_cons, List.filter_cons]
    cases a x <;> cases b x <;> simp <;> omega
theorem Good.unique (hp : IsPr p) {f g : List (Fin p)} {l : List (Pt p)} {deg wrong : Nat} (hf : Good f l deg wrong) (hg : Good g l deg wrong) (hnd : (l.map Prod.fst).Nodup) (hn : deg + 1 + 2 * wrong ≤ l.length) (i : Nat) : cf f i = cf g i := by
  have h1 := filter_both l (fits f) (fits g)
  have h2 := hf.few
  have h3 := hg.few
  unfold errs at h2 h3
  refine eq_of_values hp (n := deg + 1) hf.len hg.len (xs := (l.filter (fun q => fits f q && fits g q)).map Prod.fst) (List.Nodup.sublist (List.Sublist.map _ (List.filter_sublist)) hnd) (by rw [List.length_map]; omega) (fun x hx => ?_) i
  obtain ⟨⟨a, y⟩, h4, rfl⟩ := List.mem_map.mp hx
  obtain ⟨_, h5⟩ := List.mem_filter.mp h4
  rw [Bool.and_eq_true] at h5
  exact (of_decide_eq_true h5.1).trans (of_decide_eq_true h5.2).symm
structure Monic (e : List (Fin p)) (n : Nat) : Prop where
  len : e.length = n + 1
  top : cf e n = 1
theorem Monic.tr (hp : IsPr p) {e : List (Fin p)} {n : Nat} (h : Monic e n) : Tr e := .inr (by rw [h.len, Nat.add_sub_cancel, h.top]; exact one_ne hp)
theorem Monic.next (hp : IsPr p) {e : List (Fin p)} {n : Nat} (h : Monic e n) (x : Fin p) : Monic (pmul e [-x, 1]) (n + 1) where
  len := by
    rw [pmul_length hp (h.tr hp) (.inr (by simpa [cf] using one_ne hp)) (fun c => by have := h.len; rw [c] at this; simp at this) (by simp), h.len]; rfl
  top := by
    rw [cf_pmul, conv_top (m := n) (k := 1) (fun i hi => cf_ge (by rw [h.len]; omega)) (fun i hi => cf_ge (by simp; omega)), h.top, cf_cons_succ, cf_cons_zero]; grind
end
end Go.Proofs.YtjpaichcaaacbaaDoorNum
end
namespace Go.Proofs
end Go.Proofs

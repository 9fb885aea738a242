/- Polynomials over Fin p as lists of coefficients: sums, products, division, values, zeros. No Go, no program. -/
import Derived.Test.YtjkggiemnfigbaaNum
namespace Go.Proofs.YtjkggiemnfigbaaNum

/-! ### Sums -/
theorem sumF_rev {p : Nat} [NeZero p] (n : Nat) (f : Nat → Fin p) : sumF n f = sumF n (fun i => f (n - 1 - i)) := by
  induction n with
  | zero => rfl
  | succ n ih =>
    rw [sumF_head n (fun i => f (n + 1 - 1 - i))]
    have h : sumF n (fun i => f (n + 1 - 1 - (i + 1))) = sumF n f := by
      rw [ih]
      exact sumF_congr (fun i hi => by congr 1; omega)
    rw [h]
    simp only [sumF]
    have e : n + 1 - 1 - 0 = n := by omega
    rw [e]
    grind
theorem sumF_ext {p : Nat} [NeZero p] {m n : Nat} {f : Nat → Fin p} (hmn : m ≤ n) (h : ∀ i, m ≤ i → i < n → f i = 0) : sumF n f = sumF m f := by
  obtain ⟨d, rfl⟩ : ∃ d, n = m + d := ⟨n - m, by omega⟩
  clear hmn
  induction d with
  | zero => rfl
  | succ d ih =>
    have e : sumF (m + (d + 1)) f = sumF (m + d) f + f (m + d) := rfl
    rw [e, ih (fun i h1 h2 => h i h1 (by omega)), h (m + d) (by omega) (by omega)]
    grind
theorem sumF_mulr {p : Nat} [NeZero p] (n : Nat) (c : Fin p) (f : Nat → Fin p) : sumF n (fun i => f i * c) = sumF n f * c := by
  induction n with
  | zero => simp only [sumF]; grind
  | succ n ih => simp only [sumF]; rw [ih]; grind
theorem sumF_sub {p : Nat} [NeZero p] (n : Nat) (f g : Nat → Fin p) : sumF n (fun i => f i - g i) = sumF n f - sumF n g := by
  induction n with
  | zero => simp only [sumF]; grind
  | succ n ih => simp only [sumF]; rw [ih]; grind
theorem sumF_one {p : Nat} [NeZero p] {n j : Nat} {f : Nat → Fin p} (hj : j < n) (h : ∀ i, i < n → i ≠ j → f i = 0) : sumF n f = f j := by
  induction n with
  | zero => omega
  | succ n ih =>
    simp only [sumF]
    by_cases e : j = n
    · subst e
      rw [sumF_congr (g := fun _ => 0) (fun i hi => h i (by omega) (by omega)), sumF_zero]
      grind
    · rw [ih (by omega) (fun i hi hne => h i (by omega) hne), h n (by omega) (fun h => e h.symm)]
      grind
theorem sumF_comm {p : Nat} [NeZero p] (m n : Nat) (f : Nat → Nat → Fin p) : sumF m (fun i => sumF n (fun j => f i j)) = sumF n (fun j => sumF m (fun i => f i j)) := by
  induction m with
  | zero => simp only [sumF]; rw [sumF_zero]
  | succ m ih => simp only [sumF]; rw [ih, ← sumF_add]

/-! ### The product of sequences -/
def conv {p : Nat} [NeZero p] (f g : Nat → Fin p) (n : Nat) : Fin p := sumF (n + 1) (fun i => f i * g (n - i))
theorem conv_comm {p : Nat} [NeZero p] (f g : Nat → Fin p) (n : Nat) : conv f g n = conv g f n := by
  unfold conv
  rw [sumF_rev]
  refine sumF_congr (fun i hi => ?_)
  have e1 : n + 1 - 1 - i = n - i := by omega
  have e2 : n - (n - i) = i := by omega
  rw [e1, e2]
  grind
theorem conv_zero {p : Nat} [NeZero p] (f g : Nat → Fin p) : conv f g 0 = f 0 * g 0 := by
  unfold conv
  simp only [sumF]
  grind
theorem conv_head {p : Nat} [NeZero p] (f g : Nat → Fin p) (n : Nat) : conv f g (n + 1) = f 0 * g (n + 1) + conv (fun i => f (i + 1)) g n := by
  unfold conv
  rw [sumF_head (n + 1)]
  congr 1
  exact sumF_congr (fun i hi => by
    have e : n + 1 - (i + 1) = n - i := by omega
    rw [e])
theorem conv_addl {p : Nat} [NeZero p] (f g h : Nat → Fin p) (n : Nat) : conv (fun i => f i + g i) h n = conv f h n + conv g h n := by
  unfold conv
  rw [← sumF_add]
  exact sumF_congr (fun i hi => by grind)
theorem conv_smul {p : Nat} [NeZero p] (c : Fin p) (f h : Nat → Fin p) (n : Nat) : conv (fun i => c * f i) h n = c * conv f h n := by
  unfold conv
  rw [← sumF_mul]
  exact sumF_congr (fun i hi => by grind)
theorem conv_congr {p : Nat} [NeZero p] {f f' g g' : Nat → Fin p} {n : Nat} (hf : ∀ i, i ≤ n → f i = f' i) (hg : ∀ i, i ≤ n → g i = g' i) : conv f g n = conv f' g' n := by
  unfold conv
  exact sumF_congr (fun i hi => by rw [hf i (by omega), hg (n - i) (by omega)])
theorem conv_addr {p : Nat} [NeZero p] (f g h : Nat → Fin p) (n : Nat) : conv f (fun i => g i + h i) n = conv f g n + conv f h n := by
  rw [conv_comm, conv_addl, conv_comm g f, conv_comm h f]
theorem conv_assoc {p : Nat} [NeZero p] (n : Nat) : ∀ f g h : Nat → Fin p, conv (conv f g) h n = conv f (conv g h) n := by
  induction n with
  | zero => intro f g h; simp only [conv_zero]; grind
  | succ n ih =>
    intro f g h
    rw [conv_head, conv_head f]
    have e : conv (fun i => conv f g (i + 1)) h n = conv (fun i => f 0 * g (i + 1) + conv (fun j => f (j + 1)) g i) h n :=
      conv_congr (fun i _ => conv_head f g i) (fun _ _ => rfl)
    rw [e, conv_addl (fun i => f 0 * g (i + 1)), ih, conv_smul, conv_head g h n, conv_zero]
    grind
theorem conv_support {p : Nat} [NeZero p] {f g : Nat → Fin p} {m k : Nat} (hf : ∀ i, m ≤ i → f i = 0) (hg : ∀ i, k ≤ i → g i = 0) (n : Nat) (hn : m + k ≤ n + 1) : conv f g n = 0 := by
  unfold conv
  rw [sumF_congr (g := fun _ => 0) (fun i hi => ?_), sumF_zero]
  by_cases h : m ≤ i
  · rw [hf i h]; grind
  · rw [hg (n - i) (by omega)]; grind
theorem conv_top {p : Nat} [NeZero p] {f g : Nat → Fin p} {m k : Nat} (hf : ∀ i, m < i → f i = 0) (hg : ∀ i, k < i → g i = 0) : conv f g (m + k) = f m * g k := by
  unfold conv
  rw [sumF_one (j := m) (by omega) (fun i hi hne => ?_)]
  · have e : m + k - m = k := by omega
    rw [e]
  · by_cases h : m < i
    · rw [hf i h]; grind
    · rw [hg (m + k - i) (by omega)]; grind

/-! ### Values -/
def evF {p : Nat} [NeZero p] (n : Nat) (f : Nat → Fin p) (x : Fin p) : Fin p := sumF n (fun i => f i * x ^ i)
theorem evF_head {p : Nat} [NeZero p] (n : Nat) (f : Nat → Fin p) (x : Fin p) : evF (n + 1) f x = f 0 + x * evF n (fun i => f (i + 1)) x := by
  unfold evF
  rw [sumF_head, ← sumF_mul]
  have e : f 0 * x ^ 0 = f 0 := by grind
  rw [e]
  congr 1
  exact sumF_congr (fun i hi => by rw [pw_succ]; grind)
theorem evF_ext {p : Nat} [NeZero p] {m n : Nat} {f : Nat → Fin p} (x : Fin p) (hmn : m ≤ n) (h : ∀ i, m ≤ i → f i = 0) : evF n f x = evF m f x :=
  sumF_ext hmn (fun i h1 _ => by rw [h i h1]; grind)
theorem evF_add {p : Nat} [NeZero p] (n : Nat) (f g : Nat → Fin p) (x : Fin p) : evF n (fun i => f i + g i) x = evF n f x + evF n g x := by
  unfold evF
  rw [← sumF_add]
  exact sumF_congr (fun i hi => by grind)
theorem evF_smul {p : Nat} [NeZero p] (n : Nat) (c : Fin p) (f : Nat → Fin p) (x : Fin p) : evF n (fun i => c * f i) x = c * evF n f x := by
  unfold evF
  rw [← sumF_mul]
  exact sumF_congr (fun i hi => by grind)
theorem evF_congr {p : Nat} [NeZero p] {n : Nat} {f g : Nat → Fin p} (x : Fin p) (h : ∀ i, i < n → f i = g i) : evF n f x = evF n g x :=
  sumF_congr (fun i hi => by rw [h i hi])
theorem evF_conv {p : Nat} [NeZero p] (m : Nat) : ∀ (f g : Nat → Fin p) (k N : Nat) (x : Fin p), (∀ i, m ≤ i → f i = 0) → (∀ i, k ≤ i → g i = 0) → m + k ≤ N + 1 → k ≤ N → evF N (conv f g) x = evF m f x * evF k g x := by
  induction m with
  | zero =>
    intro f g k N x hf hg hN hk
    have e : evF N (conv f g) x = 0 := by
      unfold evF
      rw [sumF_congr (g := fun _ => 0) (fun i hi => ?_), sumF_zero]
      rw [conv_support (m := 0) (k := 0 + i + 1) (f := f) (g := fun j => if j ≤ i then g j else 0) hf (fun j hj => by rw [if_neg (by omega)]) i (by omega) |> (fun h => (conv_congr (fun _ _ => rfl) (fun j hj => by rw [if_pos hj])).symm.trans h)]
      grind
    rw [e]
    unfold evF
    simp only [sumF]
    grind
  | succ m ih =>
    intro f g k N x hf hg hN hk
    rcases Nat.eq_zero_or_pos N with h0 | h0
    · have : k = 0 := by omega
      subst this
      subst h0
      unfold evF
      simp only [sumF]
      grind
    · obtain ⟨M, rfl⟩ : ∃ M, N = M + 1 := ⟨N - 1, by omega⟩
      rw [evF_head, evF_head m f]
      have e : evF M (fun i => conv f g (i + 1)) x = evF M (fun i => f 0 * g (i + 1) + conv (fun j => f (j + 1)) g i) x := evF_congr x (fun i _ => conv_head f g i)
      rw [e, evF_add M (fun i => f 0 * g (i + 1)), evF_smul]
      have hg1 : evF (M + 1) g x = evF k g x := evF_ext x hk hg
      rw [evF_head] at hg1
      rcases Nat.lt_or_ge M k with h1 | h1
      · -- k = M + 1, then m = 0
        have hm : m = 0 := by omega
        subst hm
        have hz : evF M (conv (fun j => f (j + 1)) g) x = 0 := by
          unfold evF
          rw [sumF_congr (g := fun _ => 0) (fun i hi => ?_), sumF_zero]
          rw [conv_congr (f' := fun _ => 0) (g' := g) (fun j _ => hf (j + 1) (by omega)) (fun _ _ => rfl)]
          unfold conv
          rw [sumF_congr (g := fun _ => 0) (fun j _ => by grind), sumF_zero]
          grind
        rw [hz, conv_zero]
        unfold evF at *
        simp only [sumF]
        grind
      · rw [ih (fun i => f (i + 1)) g k M x (fun i hi => hf (i + 1) (by omega)) hg (by omega) h1, conv_zero]
        grind

/-! ### Lists of coefficients -/
def cf {p : Nat} [NeZero p] (l : List (Fin p)) (i : Nat) : Fin p := l.getD i 0
theorem cf_ge {p : Nat} [NeZero p] {l : List (Fin p)} {i : Nat} (h : l.length ≤ i) : cf l i = 0 := by
  unfold cf
  rw [List.getD_eq_getElem?_getD, List.getElem?_eq_none h]
  rfl
theorem cf_lt {p : Nat} [NeZero p] {l : List (Fin p)} {i : Nat} (h : i < l.length) : cf l i = l[i] := by
  unfold cf
  rw [List.getD_eq_getElem?_getD, List.getElem?_eq_getElem h]
  rfl
theorem cf_ext {p : Nat} [NeZero p] {l l' : List (Fin p)} (hl : l.length = l'.length) (h : ∀ i, cf l i = cf l' i) : l = l' := by
  apply List.ext_getElem hl
  intro i h1 h2
  rw [← cf_lt h1, ← cf_lt h2]
  exact h i
/-- No zero at the end. -/
def Tr {p : Nat} [NeZero p] (l : List (Fin p)) : Prop := l = [] ∨ cf l (l.length - 1) ≠ 0
theorem Tr.len {p : Nat} [NeZero p] {l l' : List (Fin p)} (h : Tr l) (e : ∀ i, cf l i = cf l' i) : l.length ≤ l'.length := by
  rcases h with h | h
  · subst h; exact Nat.zero_le _
  · rcases Nat.lt_or_ge l'.length l.length with h1 | h1
    · exact absurd ((e _).trans (cf_ge (by omega))) h
    · exact h1
theorem Tr.eq {p : Nat} [NeZero p] {l l' : List (Fin p)} (h : Tr l) (h' : Tr l') (e : ∀ i, cf l i = cf l' i) : l = l' :=
  cf_ext (Nat.le_antisymm (h.len e) (h'.len (fun i => (e i).symm))) e
/-- The list without its zeros at the end. -/
def ptrim {p : Nat} [NeZero p] : List (Fin p) → List (Fin p)
  | [] => []
  | a :: l => match ptrim l with
    | [] => if a = 0 then [] else [a]
    | b :: r => a :: b :: r
theorem cf_cons_succ {p : Nat} [NeZero p] (a : Fin p) (l : List (Fin p)) (i : Nat) : cf (a :: l) (i + 1) = cf l i := by simp [cf]
theorem cf_cons_zero {p : Nat} [NeZero p] (a : Fin p) (l : List (Fin p)) : cf (a :: l) 0 = a := by simp [cf]
theorem cf_nil {p : Nat} [NeZero p] (i : Nat) : cf ([] : List (Fin p)) i = 0 := by simp [cf]
theorem cf_ptrim {p : Nat} [NeZero p] (l : List (Fin p)) : ∀ i, cf (ptrim l) i = cf l i := by
  induction l with
  | nil => intro i; rfl
  | cons a l ih =>
    intro i
    unfold ptrim
    split
    · rename_i h
      rw [h] at ih
      cases i with
      | zero =>
        rw [cf_cons_zero]
        split
        · rename_i ha; rw [cf_nil, ha]
        · rw [cf_cons_zero]
      | succ i =>
        rw [cf_cons_succ, ← ih i, cf_nil]
        split
        · rw [cf_nil]
        · rw [cf_cons_succ, cf_nil]
    · rename_i b r h
      rw [h] at ih
      cases i with
      | zero => rw [cf_cons_zero, cf_cons_zero]
      | succ i => rw [cf_cons_succ, cf_cons_succ, ih i]
theorem tr_ptrim {p : Nat} [NeZero p] (l : List (Fin p)) : Tr (ptrim l) := by
  induction l with
  | nil => exact .inl rfl
  | cons a l ih =>
    unfold ptrim
    split
    · split
      · exact .inl rfl
      · rename_i ha
        right
        simpa [cf] using ha
    · rename_i b r h
      rw [h] at ih
      rcases ih with ih | ih
      · cases ih
      · right
        have e : (a :: b :: r).length - 1 = (b :: r).length - 1 + 1 := by simp
        rw [e, cf_cons_succ]
        exact ih
theorem ptrim_of {p : Nat} [NeZero p] {l : List (Fin p)} (h : Tr l) : ptrim l = l := (tr_ptrim l).eq h (cf_ptrim l)
theorem ptrim_congr {p : Nat} [NeZero p] {l l' : List (Fin p)} (h : ∀ i, cf l i = cf l' i) : ptrim l = ptrim l' :=
  (tr_ptrim l).eq (tr_ptrim l') (fun i => by rw [cf_ptrim, cf_ptrim, h i])
theorem ptrim_len {p : Nat} [NeZero p] (l : List (Fin p)) : (ptrim l).length ≤ l.length := (tr_ptrim l).len (cf_ptrim l)

/-- The polynomial of given coefficients. -/
def mkp {p : Nat} [NeZero p] (n : Nat) (f : Nat → Fin p) : List (Fin p) := ptrim ((List.range n).map f)
theorem cf_map_range {p : Nat} [NeZero p] (n : Nat) (f : Nat → Fin p) (i : Nat) : cf ((List.range n).map f) i = if i < n then f i else 0 := by
  unfold cf
  rw [List.getD_eq_getElem?_getD, List.getElem?_map]
  split
  · rename_i h
    rw [List.getElem?_eq_getElem (by simpa using h)]
    simp
  · rename_i h
    rw [List.getElem?_eq_none (by simpa using h)]
    rfl
theorem cf_mkp {p : Nat} [NeZero p] (n : Nat) (f : Nat → Fin p) (i : Nat) : cf (mkp n f) i = if i < n then f i else 0 := by
  unfold mkp
  rw [cf_ptrim, cf_map_range]
theorem cf_mkp_all {p : Nat} [NeZero p] {n : Nat} {f : Nat → Fin p} (h : ∀ i, n ≤ i → f i = 0) (i : Nat) : cf (mkp n f) i = f i := by
  rw [cf_mkp]
  split
  · rfl
  · rename_i h1
    exact (h i (by omega)).symm
theorem tr_mkp {p : Nat} [NeZero p] (n : Nat) (f : Nat → Fin p) : Tr (mkp n f) := tr_ptrim _
theorem mkp_len {p : Nat} [NeZero p] (n : Nat) (f : Nat → Fin p) : (mkp n f).length ≤ n := by
  have := ptrim_len ((List.range n).map f)
  simpa [mkp] using this

def padd {p : Nat} [NeZero p] (a b : List (Fin p)) : List (Fin p) := mkp (max a.length b.length) (fun i => cf a i + cf b i)
def pscale {p : Nat} [NeZero p] (k : Fin p) (a : List (Fin p)) : List (Fin p) := mkp a.length (fun i => k * cf a i)
def psub {p : Nat} [NeZero p] (a b : List (Fin p)) : List (Fin p) := padd a (pscale (-1) b)
def pmul {p : Nat} [NeZero p] (a b : List (Fin p)) : List (Fin p) := mkp (a.length + b.length) (conv (cf a) (cf b))
def peval {p : Nat} [NeZero p] (a : List (Fin p)) (x : Fin p) : Fin p := evF a.length (cf a) x
theorem cf_padd {p : Nat} [NeZero p] (a b : List (Fin p)) (i : Nat) : cf (padd a b) i = cf a i + cf b i :=
  cf_mkp_all (fun i hi => by rw [cf_ge (by omega), cf_ge (by omega)]; grind) i
theorem cf_pscale {p : Nat} [NeZero p] (k : Fin p) (a : List (Fin p)) (i : Nat) : cf (pscale k a) i = k * cf a i :=
  cf_mkp_all (fun i hi => by rw [cf_ge hi]; grind) i
theorem cf_psub {p : Nat} [NeZero p] (a b : List (Fin p)) (i : Nat) : cf (psub a b) i = cf a i - cf b i := by
  unfold psub
  rw [cf_padd, cf_pscale]
  grind
theorem cf_pmul {p : Nat} [NeZero p] (a b : List (Fin p)) (i : Nat) : cf (pmul a b) i = conv (cf a) (cf b) i :=
  cf_mkp_all (fun i hi => conv_support (m := a.length) (k := b.length) (fun j hj => cf_ge hj) (fun j hj => cf_ge hj) i (by omega)) i
theorem tr_padd {p : Nat} [NeZero p] (a b : List (Fin p)) : Tr (padd a b) := tr_mkp _ _
theorem tr_pscale {p : Nat} [NeZero p] (k : Fin p) (a : List (Fin p)) : Tr (pscale k a) := tr_mkp _ _
theorem tr_psub {p : Nat} [NeZero p] (a b : List (Fin p)) : Tr (psub a b) := tr_mkp _ _
theorem tr_pmul {p : Nat} [NeZero p] (a b : List (Fin p)) : Tr (pmul a b) := tr_mkp _ _
theorem padd_len {p : Nat} [NeZero p] (a b : List (Fin p)) : (padd a b).length ≤ max a.length b.length := mkp_len _ _
theorem pscale_len {p : Nat} [NeZero p] (k : Fin p) (a : List (Fin p)) : (pscale k a).length ≤ a.length := mkp_len _ _
theorem psub_len {p : Nat} [NeZero p] (a b : List (Fin p)) : (psub a b).length ≤ max a.length b.length := by
  have h1 := padd_len a (pscale (-1) b)
  have h2 := pscale_len (-1) b
  unfold psub
  omega
theorem pmul_len {p : Nat} [NeZero p] (a b : List (Fin p)) : (pmul a b).length ≤ a.length + b.length - 1 := by
  rcases Nat.lt_or_ge (a.length + b.length - 1) (pmul a b).length with h | h
  · exfalso
    rcases tr_pmul a b with h1 | h1
    · rw [h1] at h; simp at h
    · apply h1
      rw [cf_pmul]
      exact conv_support (m := a.length) (k := b.length) (fun j hj => cf_ge hj) (fun j hj => cf_ge hj) _ (by omega)
  · exact h

/-! ### The ring -/
theorem padd_assoc {p : Nat} [NeZero p] (a b c : List (Fin p)) : padd (padd a b) c = padd a (padd b c) :=
  (tr_padd _ _).eq (tr_padd _ _) (fun i => by simp only [cf_padd]; grind)
theorem padd_comm {p : Nat} [NeZero p] (a b : List (Fin p)) : padd a b = padd b a :=
  (tr_padd _ _).eq (tr_padd _ _) (fun i => by simp only [cf_padd]; grind)
theorem pmul_comm {p : Nat} [NeZero p] (a b : List (Fin p)) : pmul a b = pmul b a :=
  (tr_pmul _ _).eq (tr_pmul _ _) (fun i => by rw [cf_pmul, cf_pmul, conv_comm])
theorem pmul_assoc {p : Nat} [NeZero p] (a b c : List (Fin p)) : pmul (pmul a b) c = pmul a (pmul b c) :=
  (tr_pmul _ _).eq (tr_pmul _ _) (fun i => by
    rw [cf_pmul, cf_pmul, conv_congr (fun j _ => cf_pmul a b j) (fun _ _ => rfl), conv_assoc, conv_congr (fun _ _ => rfl) (fun j _ => (cf_pmul b c j).symm)])
theorem pmul_padd {p : Nat} [NeZero p] (a b c : List (Fin p)) : pmul a (padd b c) = padd (pmul a b) (pmul a c) :=
  (tr_pmul _ _).eq (tr_padd _ _) (fun i => by
    rw [cf_pmul, cf_padd, cf_pmul, cf_pmul, conv_congr (fun _ _ => rfl) (fun j _ => cf_padd b c j), conv_addr])
theorem padd_psub {p : Nat} [NeZero p] (a b : List (Fin p)) : padd (psub a b) b = ptrim a :=
  (tr_padd _ _).eq (tr_ptrim _) (fun i => by rw [cf_padd, cf_psub, cf_ptrim]; grind)
theorem psub_self {p : Nat} [NeZero p] (a : List (Fin p)) : psub a a = [] :=
  (tr_psub _ _).eq (.inl rfl) (fun i => by rw [cf_psub, cf_nil]; grind)
/-- Degrees add up. -/
theorem pmul_length {p : Nat} [NeZero p] (hp : IsPr p) {a b : List (Fin p)} (ha : Tr a) (hb : Tr b) (ha0 : a ≠ []) (hb0 : b ≠ []) : (pmul a b).length = a.length + b.length - 1 := by
  have h1 := pmul_len a b
  have la : 0 < a.length := List.length_pos_iff.2 ha0
  have lb : 0 < b.length := List.length_pos_iff.2 hb0
  rcases Nat.lt_or_ge (pmul a b).length (a.length + b.length - 1) with h | h
  · exfalso
    have h2 : cf (pmul a b) (a.length - 1 + (b.length - 1)) = 0 := cf_ge (by omega)
    rw [cf_pmul, conv_top (fun i hi => cf_ge (by omega)) (fun i hi => cf_ge (by omega))] at h2
    rcases no_zero_div hp h2 with h3 | h3
    · exact (ha.resolve_left ha0) h3
    · exact (hb.resolve_left hb0) h3
  · omega

/-! ### Values of polynomials -/
theorem peval_eq {p : Nat} [NeZero p] (a : List (Fin p)) (x : Fin p) {n : Nat} (h : a.length ≤ n) : evF n (cf a) x = peval a x := evF_ext x h (fun _ hi => cf_ge hi)
theorem peval_padd {p : Nat} [NeZero p] (a b : List (Fin p)) (x : Fin p) : peval (padd a b) x = peval a x + peval b x := by
  have hl := padd_len a b
  rw [← peval_eq (padd a b) x hl, evF_congr x (fun i _ => cf_padd a b i), evF_add, peval_eq a x (by omega), peval_eq b x (by omega)]
theorem peval_pscale {p : Nat} [NeZero p] (k : Fin p) (a : List (Fin p)) (x : Fin p) : peval (pscale k a) x = k * peval a x := by
  have hl := pscale_len k a
  rw [← peval_eq (pscale k a) x hl, evF_congr x (fun i _ => cf_pscale k a i), evF_smul]
  rfl
theorem peval_psub {p : Nat} [NeZero p] (a b : List (Fin p)) (x : Fin p) : peval (psub a b) x = peval a x - peval b x := by
  unfold psub
  rw [peval_padd, peval_pscale]
  grind
theorem peval_pmul {p : Nat} [NeZero p] (a b : List (Fin p)) (x : Fin p) : peval (pmul a b) x = peval a x * peval b x := by
  have hl := pmul_len a b
  rw [← peval_eq (pmul a b) x (n := a.length + b.length) (by omega), evF_congr x (fun i _ => cf_pmul a b i)]
  exact evF_conv a.length (cf a) (cf b) b.length (a.length + b.length) x (fun i hi => cf_ge hi) (fun i hi => cf_ge hi) (by omega) (by omega)
theorem peval_ptrim {p : Nat} [NeZero p] (a : List (Fin p)) (x : Fin p) : peval (ptrim a) x = peval a x := by
  rw [← peval_eq (ptrim a) x (ptrim_len a), evF_congr x (fun i _ => cf_ptrim a i)]
  rfl
theorem peval_cons {p : Nat} [NeZero p] (c : Fin p) (l : List (Fin p)) (x : Fin p) : peval (c :: l) x = c + x * peval l x := by
  unfold peval
  rw [List.length_cons, evF_head, cf_cons_zero]
  congr 2
theorem peval_nil {p : Nat} [NeZero p] (x : Fin p) : peval ([] : List (Fin p)) x = 0 := rfl
theorem peval_const {p : Nat} [NeZero p] {l : List (Fin p)} (h : l.length ≤ 1) (x : Fin p) : peval l x = cf l 0 := by
  match l, h with
  | [], _ => rw [peval_nil, cf_nil]
  | [a], _ => rw [peval_cons, peval_nil, cf_cons_zero]; grind

/-! ### Division -/
/-- a = q b + r, and r is of smaller degree than b. -/
structure IsDiv {p : Nat} [NeZero p] (a b q r : List (Fin p)) : Prop where
  tq : Tr q
  tr : Tr r
  less : r.length < b.length
  eq : ∀ i, cf a i = conv (cf q) (cf b) i + cf r i
theorem conv_subl {p : Nat} [NeZero p] (f g h : Nat → Fin p) (n : Nat) : conv (fun i => f i - g i) h n = conv f h n - conv g h n := by
  unfold conv
  rw [← sumF_sub]
  exact sumF_congr (fun i hi => by grind)
theorem IsDiv.unique {p : Nat} [NeZero p] (hp : IsPr p) {a b q r q' r' : List (Fin p)} (hb : Tr b) (h : IsDiv a b q r) (h' : IsDiv a b q' r') : q = q' ∧ r = r' := by
  have hb0 : b ≠ [] := by
    rintro rfl
    have := h.less
    simp at this
  -- (q - q') b = r' - r
  have key : ∀ i, conv (cf (psub q q')) (cf b) i = cf (psub r' r) i := by
    intro i
    rw [conv_congr (fun j _ => cf_psub q q' j) (fun _ _ => rfl), conv_subl, cf_psub]
    have h1 := h.eq i
    have h2 := h'.eq i
    grind
  have hq : psub q q' = [] := by
    by_cases hne : psub q q' = []
    · exact hne
    · exfalso
      have h1 := pmul_length hp (tr_psub q q') hb hne hb0
      have h2 : pmul (psub q q') b = psub r' r := (tr_pmul _ _).eq (tr_psub _ _) (fun i => by rw [cf_pmul, key])
      have h3 := psub_len r' r
      rw [h2] at h1
      have h4 : 0 < (psub q q').length := List.length_pos_iff.2 hne
      have := h.less
      have := h'.less
      omega
  have hqq : q = q' := h.tq.eq h'.tq (fun i => by
    have := cf_psub q q' i
    rw [hq, cf_nil] at this
    grind)
  refine ⟨hqq, h.tr.eq h'.tr (fun i => ?_)⟩
  have h1 := h.eq i
  have h2 := h'.eq i
  rw [hqq] at h1
  grind

/-! ### Zeros -/
/-- Division by x - c. -/
def synth {p : Nat} [NeZero p] (c : Fin p) : List (Fin p) → List (Fin p)
  | [] => []
  | _ :: l => peval l c :: synth c l
theorem synth_len {p : Nat} [NeZero p] (c : Fin p) (l : List (Fin p)) : (synth c l).length = l.length := by
  induction l with
  | nil => rfl
  | cons a l ih => simp [synth, ih]
theorem synth_eval {p : Nat} [NeZero p] (c : Fin p) (l : List (Fin p)) (x : Fin p) : peval l x = (x - c) * peval (synth c l) x + peval l c := by
  induction l with
  | nil => simp only [synth, peval_nil]; grind
  | cons a l ih =>
    simp only [synth]
    rw [peval_cons, peval_cons, peval_cons, ih]
    grind
theorem synth_last {p : Nat} [NeZero p] (c : Fin p) (l : List (Fin p)) : cf (synth c l) (l.length - 1) = 0 := by
  induction l with
  | nil => rfl
  | cons a l ih =>
    simp only [synth]
    cases l with
    | nil => simp [cf, synth, peval_nil]
    | cons b l =>
      have e : (a :: b :: l).length - 1 = (b :: l).length - 1 + 1 := by simp
      rw [e, cf_cons_succ]
      exact ih
theorem peval_take {p : Nat} [NeZero p] {l : List (Fin p)} (h : cf l (l.length - 1) = 0) (x : Fin p) : peval (l.take (l.length - 1)) x = peval l x := by
  unfold peval
  have e : evF l.length (cf l) x = evF (l.length - 1) (cf l) x := by
    rcases Nat.eq_zero_or_pos l.length with h0 | h0
    · rw [h0]
    · exact sumF_ext (by omega) (fun i h1 h2 => by
        have : i = l.length - 1 := by omega
        rw [this, h]
        grind)
  rw [e, List.length_take, Nat.min_eq_left (by omega)]
  refine evF_congr x (fun i hi => ?_)
  rw [cf_lt (by rw [List.length_take]; omega), cf_lt (by omega), List.getElem_take]
/-- All coefficients zero, or fewer zeros than coefficients. -/
theorem zeros_lt {p : Nat} [NeZero p] (hp : IsPr p) : ∀ (n : Nat) (l : List (Fin p)), l.length = n → ∀ xs : List (Fin p), xs.Nodup → (∀ x ∈ xs, peval l x = 0) → n ≤ xs.length → ∀ x, peval l x = 0 := by
  intro n
  induction n with
  | zero =>
    intro l hl xs _ _ _ x
    rw [List.length_eq_zero_iff.1 hl]
    rfl
  | succ n ih =>
    intro l hl xs hnd hz hlen x
    match xs, hnd, hz, hlen with
    | c :: xs, hnd, hz, hlen =>
      have hc := hz c List.mem_cons_self
      have hs : ∀ y, peval l y = (y - c) * peval ((synth c l).take n) y := by
        intro y
        rw [synth_eval c l y, hc]
        have e : n = (synth c l).length - 1 := by rw [synth_len]; omega
        have h1 : cf (synth c l) ((synth c l).length - 1) = 0 := by rw [synth_len]; exact synth_last c l
        have h2 := peval_take h1 y
        rw [← e] at h2
        rw [h2]
        grind
      have hz2 : ∀ y ∈ xs, peval ((synth c l).take n) y = 0 := by
        intro y hy
        have h1 := hz y (List.mem_cons_of_mem _ hy)
        rw [hs y] at h1
        rcases no_zero_div hp h1 with h2 | h2
        · exfalso
          have : y = c := by grind
          subst this
          exact (List.nodup_cons.1 hnd).1 hy
        · exact h2
      have h3 := ih ((synth c l).take n) (by rw [List.length_take, synth_len]; omega) xs (List.nodup_cons.1 hnd).2 hz2 (by simp at hlen; omega) x
      rw [hs x, h3]
      grind
/-- A polynomial that is zero at as many points as it has coefficients is zero. -/
theorem zero_of_values {p : Nat} [NeZero p] (hp : IsPr p) : ∀ (n : Nat) (l : List (Fin p)), l.length = n → ∀ xs : List (Fin p), xs.Nodup → (∀ x ∈ xs, peval l x = 0) → n ≤ xs.length → ∀ i, cf l i = 0 := by
  intro n
  induction n with
  | zero =>
    intro l hl xs _ _ _ i
    rw [List.length_eq_zero_iff.1 hl, cf_nil]
  | succ n ih =>
    intro l hl xs hnd hz hlen i
    match l, hl with
    | a :: l, hl =>
      have hall := zeros_lt hp (n + 1) (a :: l) hl xs hnd hz hlen
      have ha : a = 0 := by
        have := hall 0
        rw [peval_cons] at this
        grind
      -- the rest is zero at every point but 0 perhaps: at all points of xs without 0, and there are enough, or xs holds 0
      have hl' : l.length = n := by simpa using hl
      have hz2 : ∀ x, x ≠ 0 → peval l x = 0 := by
        intro x hx
        have h1 := hall x
        rw [peval_cons, ha] at h1
        rcases no_zero_div hp (a := x) (b := peval l x) (by grind) with h2 | h2
        · exact absurd h2 hx
        · exact h2
      have hnd2 : (xs.filter (fun x => x != 0)).Nodup := hnd.filter _
      have hcount : n ≤ (xs.filter (fun x => x != 0)).length := by
        have key : ∀ ys : List (Fin p), ys.Nodup → ys.length ≤ (ys.filter (fun x => x != 0)).length + 1 := by
          intro ys
          induction ys with
          | nil => intro _; simp
          | cons y ys ihy =>
            intro h
            obtain ⟨h1, h2⟩ := List.nodup_cons.1 h
            by_cases hy : y = 0
            · have : ys.filter (fun x => x != 0) = ys := List.filter_eq_self.2 (fun z hz => by
                have : z ≠ 0 := by rintro rfl; exact h1 (hy ▸ hz)
                simpa using this)
              rw [List.filter_cons_of_neg (by simp [hy]), this]
              simp
            · rw [List.filter_cons_of_pos (by simpa using hy)]
              have := ihy h2
              simp only [List.length_cons]
              omega
        have := key xs hnd
        omega
      have h3 := ih l hl' _ hnd2 (fun x hx => hz2 x (by simpa using (List.mem_filter.1 hx).2)) hcount
      cases i with
      | zero => rw [cf_cons_zero]; exact ha
      | succ i => rw [cf_cons_succ]; exact h3 i
/-- Two polynomials with the same values at enough points are the same. -/
theorem eq_of_values {p : Nat} [NeZero p] (hp : IsPr p) {a b : List (Fin p)} {n : Nat} (ha : a.length ≤ n) (hb : b.length ≤ n) {xs : List (Fin p)} (hnd : xs.Nodup) (hn : n ≤ xs.length) (h : ∀ x ∈ xs, peval a x = peval b x) : ∀ i, cf a i = cf b i := by
  intro i
  have hl := psub_len a b
  have h1 := zero_of_values hp _ (psub a b) rfl xs hnd (fun x hx => by rw [peval_psub, h x hx]; grind) (by omega) i
  rw [cf_psub] at h1
  grind
end Go.Proofs.YtjkggiemnfigbaaNum

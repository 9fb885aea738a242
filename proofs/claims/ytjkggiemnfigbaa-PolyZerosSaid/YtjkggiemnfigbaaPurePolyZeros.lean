/- A nonzero polynomial has at most as many zeros as its degree; a product of factors x - c is zero exactly at these c. -/
import Derived.Test.YtjkggiemnfigbaaSPolyZeros
import Derived.Test.YtjkggiemnfigbaaFPC
namespace Go.Proofs.Ytjkggiemnfigbaa.polyZeros
open Go.RowKit Go.Proofs.YtjkggiemnfigbaaW.PrintWords Go.Proofs.YtjkggiemnfigbaaW.PrintMore Go.Proofs.Ytjkggiemnfigbaa.PF Go.Proofs.Ytjkggiemnfigbaa.PQ Go.Proofs.Ytjkggiemnfigbaa.PC Go.Proofs.Ytjkggiemnfigbaa.PTZ Go.Proofs.YtjkggiemnfigbaaNum Go.Proofs.Ytjkggiemnfigbaa.FEv Go.Proofs.Ytjkggiemnfigbaa.FPoly
section
variable {q : Nat} [NeZero q]
/-- The product of the first i factors. -/
structure Made (b : List (Fin q)) (i : Nat) (m : List (Fin q)) : Prop where
  tr : Tr m
  len : m.length = i + 1
  zero : ∀ x, peval m x = 0 ↔ ∃ j, j < i ∧ cf b j = x
theorem Made.one (hq : Sup q) (b : List (Fin q)) : Made b 0 [1] where
  tr := .inr (by simpa [cf] using one_ne hq)
  len := rfl
  zero x := by
    rw [peval_cons, peval_nil]
    constructor
    · intro h; exact absurd (show (1 : Fin q) = 0 by grind) (one_ne hq)
    · rintro ⟨j, h, _⟩; omega
theorem Made.next (hq : Sup q) {b m : List (Fin q)} {i : Nat} (h : Made b i m) : Made b (i + 1) (pmul m [-(cf b i), 1]) where
  tr := tr_pmul _ _
  len := by
    rw [pmul_length hq.pr h.tr (tr_lin hq _) (fun e => by have := h.len; rw [e] at this; simp at this) (by simp), h.len]
    rfl
  zero x := by
    rw [peval_pmul, peval_lin]
    constructor
    · intro e
      rcases no_zero_div hq.pr e with e | e
      · obtain ⟨j, h1, h2⟩ := (h.zero x).mp e
        exact ⟨j, by omega, h2⟩
      · exact ⟨i, by omega, by grind⟩
    · rintro ⟨j, h1, h2⟩
      by_cases e : j = i
      · subst e; rw [h2]; grind
      · rw [(h.zero x).mpr ⟨j, by omega, h2⟩]; grind
theorem l2_ev (hq : Sup q) {a b m : List (Fin q)} (hb : b.length ≤ 12) (hm : Made b b.length m) (z n : Int) (x : Fin q) (u0 : Int) (u1 u2 u3 : List Int) (u4 u5 : Int)
    (hr : Ev (fun k => privitylaw04_PolyZeros.l1 k q (a.map V) (b.map V) (m.map V) z (IntKind.u64.wrap (n + 1)) u0 u1 u2 u3 u4 u5) true) : ∀ (d i : Nat) (is : Bool), i + d = b.length → (is = true ↔ ∃ j, j < i ∧ cf b j = x) →
    Ev (fun k => privitylaw04_PolyZeros.l2 k q (a.map V) (b.map V) (m.map V) z n (V x) is (i : Int) u0 u1 u2 u3 u4 u5) true
  | 0, i, is, hi, h => by
    have hl := hm.len
    refine Ev.step (fun k => by rw [privitylaw04_PolyZeros.l2, if_neg (by rw [len_map]; omega)]) ?_
    refine Ev.bind (eval_ev hq m x (by omega)) (Ev.neg ?_ hr)
    have e : (V (peval m x) == 0) = is := by
      rw [Bool.eq_iff_iff, h, beq_iff_eq, V_eq_zero, hm.zero x, show i = b.length by omega]
    rw [e]
    simp
  | d + 1, i, is, hi, h => by
    have e : wrap64 ((i : Int) + 1) = ((i + 1 : Nat) : Int) := by rw [wrap_in (by omega) (by omega)]; omega
    cases his : is
    · refine Ev.step (fun k => by rw [privitylaw04_PolyZeros.l2, if_pos (by rw [len_map]; omega), if_neg (by decide), if_pos (by omega), rd_map, e]) ?_
      refine l2_ev hq hb hm z n x u0 u1 u2 u3 u4 u5 hr d (i + 1) _ (by omega) ?_
      rw [beq_iff_eq, V_inj]
      constructor
      · intro h2; exact ⟨i, by omega, h2⟩
      · rintro ⟨j, h1, h2⟩
        by_cases c : j = i
        · rw [← c]; exact h2
        · exact absurd (h.mpr ⟨j, by omega, h2⟩) (by rw [his]; decide)
    · refine Ev.step (fun k => by rw [privitylaw04_PolyZeros.l2, if_pos (by rw [len_map]; omega), if_pos rfl, e]) ?_
      refine l2_ev hq hb hm z n x u0 u1 u2 u3 u4 u5 hr d (i + 1) true (by omega) ?_
      obtain ⟨j, h1, h2⟩ := h.mp his
      exact ⟨fun _ => ⟨j, by omega, h2⟩, fun _ => rfl⟩
theorem end_ev (hq : Sup q) {a b m : List (Fin q)} (ha : a.length ≤ 12) (hb : b.length ≤ 12) (hm : Made b b.length m) (n : Int) (u0 : Int) (u1 u2 u3 : List Int) (u4 u5 : Int) (zs : List (Fin q)) (hz : zs.Nodup) (hv : ∀ z ∈ zs, peval a z = 0) :
    Ev (fun k => privitylaw04_PolyZeros.j2 k q (a.map V) (b.map V) (m.map V) (zs.length : Int) n false u0 u1 u2 u3 u4 u5) true := by
  have hl := hm.len
  have ht : ptrim m = m := ptrim_of hm.tr
  have la := ptrim_len a
  have hd : Ev (fun k => (poly_Degree.f k (m.map V)).bind fun t => some (t == ((b.map V).length : Int))) true := by
    refine Ev.bind (degree_ev (by omega)) (Ev.eq ?_)
    rw [ht, len_map, beq_iff_eq]
    omega
  refine Ev.step (fun k => by rw [privitylaw04_PolyZeros.j2, if_neg (by decide)]) ?_
  refine Ev.bind awake_ev (Ev.pos rfl (Ev.bind (degree_ev (by omega)) ?_))
  by_cases c : (((ptrim a).length : Int) - 1) < 0
  · exact Ev.pos c hd
  · refine Ev.neg c (Ev.bind (degree_ev (by omega)) (Ev.pos ?_ hd))
    rcases Nat.lt_or_ge zs.length (ptrim a).length with h | h
    · omega
    · have h0 := zero_of_values hq.pr (ptrim a).length (ptrim a) rfl zs hz (fun z h => by rw [peval_ptrim]; exact hv z h) h
      rcases tr_ptrim a with e | e
      · rw [e] at c; simp at c
      · exact absurd (h0 _) e
theorem point (hq : Sup q) (x4 : Int) (h4 : 0 ≤ x4) (n : Nat) (hn : n < 60) : Int.tmod (IntKind.u64.wrap (Int.tmod x4 q + (n : Int))) q = V ((E x4 : Fin q) + el n) := by
  have hl := hq.le
  obtain ⟨v0, v1⟩ := V64 hq (E x4 : Fin q)
  rw [tmod_V (p := q) h4, w64_in (by omega) (by omega), tmod_V (p := q) (by omega), V_inj]
  have e : (E (V (E x4 : Fin q) + (n : Int)) : Fin q) = el ((E x4 : Fin q).val + n) := by
    unfold E V
    congr 1
  rw [e, el_add, el_of]
theorem l1_ev (hq : Sup q) {a b m : List (Fin q)} (ha : a.length ≤ 12) (hb : b.length ≤ 12) (hm : Made b b.length m) (u0 : Int) (u1 u2 u3 : List Int) (x4 u5 : Int) (h4 : 0 ≤ x4) : ∀ (d n : Nat) (zs : List (Fin q)), n + d = min 60 q → zs.Nodup → zs.length ≤ n → (∀ z ∈ zs, peval a z = 0 ∧ ∃ j, j < n ∧ z = (E x4 : Fin q) + el j) →
    Ev (fun k => privitylaw04_PolyZeros.l1 k q (a.map V) (b.map V) (m.map V) (zs.length : Int) (n : Int) u0 u1 u2 u3 x4 u5) true
  | 0, n, zs, hn, hz, hzl, hv => by
    have h := end_ev hq ha hb hm (n : Int) u0 u1 u2 u3 x4 u5 zs hz (fun z h => (hv z h).1)
    by_cases c : (n : Int) < 60
    · refine Ev.step (fun k => by rw [privitylaw04_PolyZeros.l1, if_pos c]) ?_
      rw [decide_eq_false (by omega)]
      exact h
    · exact Ev.step (fun k => by rw [privitylaw04_PolyZeros.l1, if_neg c]) h
  | d + 1, n, zs, hn, hz, hzl, hv => by
    have hl := hq.le
    have ew : IntKind.u64.wrap ((n : Int) + 1) = ((n + 1 : Nat) : Int) := by rw [w64_in (by omega) (by omega)]; omega
    refine Ev.step (fun k => by rw [privitylaw04_PolyZeros.l1, if_pos (by omega)]) ?_
    rw [decide_eq_true (show (n : Int) < (q : Int) by omega)]
    refine Ev.step (fun k => by rw [privitylaw04_PolyZeros.j2, if_pos rfl, if_neg (by omega), point hq x4 h4 n (by omega)]) ?_
    refine Ev.bind (eval_ev hq a _ (by omega)) ?_
    by_cases c : peval a ((E x4 : Fin q) + el n) = 0
    · refine Ev.pos (by rw [c, V_zero]) ?_
      have h := l1_ev hq ha hb hm u0 u1 u2 u3 x4 u5 h4 d (n + 1) (((E x4 : Fin q) + el n) :: zs) (by omega)
        (List.nodup_cons.mpr ⟨fun hin => by
          obtain ⟨j, h1, h2⟩ := (hv _ hin).2
          have h3 : (el n : Fin q) = el j := by grind
          rw [el_eq_iff, Nat.mod_eq_of_lt (by omega), Nat.mod_eq_of_lt (by omega)] at h3
          omega, hz⟩) (by simp; omega) (fun z hin => by
          rcases List.mem_cons.mp hin with e | e
          · subst e; exact ⟨c, n, by omega, rfl⟩
          · obtain ⟨h1, j, h2, h3⟩ := hv z e
            exact ⟨h1, j, by omega, h3⟩)
      rw [← ew] at h
      refine Ev.step (fun k => by rw [privitylaw04_PolyZeros.j3]) ?_
      rw [show wrap64 ((zs.length : Int) + 1) = (((((E x4 : Fin q) + el n) :: zs).length : Nat) : Int) by rw [wrap_in (by omega) (by omega), List.length_cons]; omega]
      exact l2_ev hq hb hm _ _ _ u0 u1 u2 u3 x4 u5 h b.length 0 false (by omega) (by simp)
    · refine Ev.neg (fun e => c (V_eq_zero.mp e)) ?_
      have h := l1_ev hq ha hb hm u0 u1 u2 u3 x4 u5 h4 d (n + 1) zs (by omega) hz (by omega) (fun z hin => by
          obtain ⟨h1, j, h2, h3⟩ := hv z hin
          exact ⟨h1, j, by omega, h3⟩)
      rw [← ew] at h
      refine Ev.step (fun k => by rw [privitylaw04_PolyZeros.j3]) ?_
      exact l2_ev hq hb hm _ _ _ u0 u1 u2 u3 x4 u5 h b.length 0 false (by omega) (by simp)
theorem l0_ev' (hq : Sup q) {a b : List (Fin q)} (ha : a.length ≤ 12) (hb : b.length ≤ 12) (u0 : Int) (u1 u2 u3 : List Int) (x4 u5 : Int) (h4 : 0 ≤ x4) : ∀ (d i : Nat) (m : List (Fin q)), i + d = b.length → Made b i m →
    Ev (fun k => privitylaw04_PolyZeros.l0 k q (a.map V) (b.map V) (m.map V) (i : Int) u0 u1 u2 u3 x4 u5) true
  | 0, i, m, hi, hm => by
    have e : i = b.length := by omega
    subst e
    refine Ev.step (fun k => by rw [privitylaw04_PolyZeros.l0, if_neg (by rw [len_map]; omega)]) ?_
    exact l1_ev hq ha hb hm u0 u1 u2 u3 x4 u5 h4 (min 60 q) 0 [] (by omega) List.nodup_nil (by simp) (fun z h => by cases h)
  | d + 1, i, m, hi, hm => by
    have hl := hq.le
    have hml := hm.len
    refine Ev.step (fun k => by rw [privitylaw04_PolyZeros.l0, if_pos (by rw [len_map]; omega), if_pos (by omega), if_neg (by omega), rd_map, neg_mod hq, show ([V (-(cf b i)), 1] : List Int) = [-(cf b i), (1 : Fin q)].map V by simp [V_one hq], wrap_in (by omega) (by omega)]) ?_
    exact Ev.bind (mul_evP hq m _ (by omega) (by simp)) (l0_ev' hq ha hb u0 u1 u2 u3 x4 u5 h4 d (i + 1) _ (by omega) (hm.next hq))
end
theorem Pure.proved : Pure := by
  intro ⟨x0, l1, l2, l3, x4, x5⟩ ⟨h0, ⟨_, h1⟩, ⟨_, h2⟩, ⟨_, h3⟩, h4, h5⟩
  apply Ev.rounds
  obtain ⟨q, hz, a, b, c, hq, ha, hb, hc, e⟩ := fit_ex x0 x4 x5 l1 l2 l3 h0 h1 h2 h3
  unfold privitylaw04_PolyZeros.f
  refine Ev.bind e ?_
  dsimp only
  by_cases h : ((a.map V).length : Int) = 0
  · exact Ev.pos h (Ev.bind awake_ev (Ev.now _))
  · refine Ev.neg h ?_
    have h6 := l0_ev' hq ha hb x0 l1 l2 l3 x4 x5 (wf_u64 h4).1 b.length 0 [1] (by omega) (Made.one hq b)
    rw [show ([1] : List (Fin q)).map V = [1] by simp [V_one hq]] at h6
    exact h6
end Go.Proofs.Ytjkggiemnfigbaa.polyZeros

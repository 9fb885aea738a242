/- The laws of the polynomials: what 'fit' and 'awake' come to; the reference's Words and Equal. -/
import Derived.Test.YtjkggiemnfigbaaFDiv
import Derived.Test.YtjkggiemnfigbaaPCx
namespace Go.Proofs.Ytjkggiemnfigbaa.FPoly
open Go.RowKit Go.Proofs.YtjkggiemnfigbaaW.PrintWords Go.Proofs.YtjkggiemnfigbaaW.PrintMore Go.Proofs.Ytjkggiemnfigbaa.PF Go.Proofs.Ytjkggiemnfigbaa.PQ Go.Proofs.Ytjkggiemnfigbaa.PC Go.Proofs.YtjkggiemnfigbaaNum Go.Proofs.Ytjkggiemnfigbaa.FEv
variable {q : Nat}
theorem neg_mod [NeZero q] (hq : Sup q) (x : Fin q) : Int.tmod (IntKind.u64.wrap ((q : Int) - V x)) q = V (-x) := by
  have hl := hq.le
  obtain ⟨h0, h1⟩ := V64 hq x
  have h2 := V_lt x
  rw [w64_in (by omega) (by omega), Int.tmod_eq_emod_of_nonneg (by omega)]
  by_cases h : x = 0
  · subst h
    have e : -(0 : Fin q) = 0 := by grind
    rw [e, V_zero, Int.sub_zero, Int.emod_self]
  · have := V_lt (-x)
    have h3 := V_neg h
    have := V_nonneg (-x)
    rw [← h3]
    exact Int.emod_eq_of_lt (by omega) (by omega)
theorem peval_congr [NeZero q] {a b : List (Fin q)} (h : ∀ i, cf a i = cf b i) (x : Fin q) : peval a x = peval b x := by
  rw [← peval_ptrim a, ← peval_ptrim b, ptrim_congr h]
theorem one_ne [NeZero q] (hq : Sup q) : (1 : Fin q) ≠ 0 := fun h => by
  have := V_one hq
  rw [h, V_zero] at this
  omega
theorem isDiv_peval [NeZero q] {a b Q R : List (Fin q)} (h : IsDiv a b Q R) (x : Fin q) : peval a x = peval Q x * peval b x + peval R x := by
  rw [← peval_pmul, ← peval_padd]
  exact peval_congr (fun i => by rw [h.eq i, cf_padd, cf_pmul]) x
theorem tr_lin [NeZero q] (hq : Sup q) (c : Fin q) : Tr [c, 1] := .inr (by simpa [cf] using one_ne hq)
theorem peval_lin [NeZero q] (c x : Fin q) : peval [c, 1] x = c + x := by
  rw [peval_cons, peval_cons, peval_nil]
  grind
theorem rd_nat (l : List Int) (i : Nat) (h : i < l.length) : rd l (i : Int) = l[i] := by
  unfold rd
  rw [Int.toNat_natCast, List.getD_eq_getElem?_getD, List.getElem?_eq_getElem h]
  rfl
theorem words_l0 [NeZero q] (l : List Int) (hw : ∀ x ∈ l, 0 ≤ x) (m : Nat) (hm : m < 1099511627776) : ∀ (d i : Nat), i + d = min l.length m →
    Ev (fun k => privityref04_Words.l0 k q l m (((l.take i).map (E : Int → Fin q)).map V) (i : Int)) (((l.take m).map (E : Int → Fin q)).map V)
  | 0, i, hi => by
    have e : l.take i = l.take m := by
      rcases Nat.lt_or_ge l.length m with h | h
      · rw [List.take_of_length_le (by omega), List.take_of_length_le (by omega)]
      · rw [show i = m by omega]
    refine Ev.step (fun k => by rw [privityref04_Words.l0]) ?_
    rw [e]
    by_cases c : (i : Int) < (l.length : Int)
    · exact Ev.pos c (Ev.neg (by omega) (Ev.now _))
    · exact Ev.neg c (Ev.now _)
  | d + 1, i, hi => by
    have h0 : i < l.length := by omega
    have hq0 : q ≠ 0 := NeZero.ne q
    have hlen : (((l.take i).map (E : Int → Fin q)).map V).length < 17592186044416 := by rw [len_map, List.length_map, List.length_take]; omega
    refine Ev.step (fun k => by rw [privityref04_Words.l0, if_pos (by omega), if_pos (by omega), if_pos (by omega), if_neg (by omega), if_pos hlen, rd_nat _ _ h0, tmod_V (p := q) (hw _ (List.getElem_mem h0)), wrap_in (by omega) (by omega)]) ?_
    have h := words_l0 l hw m hm d (i + 1) (by omega)
    rw [List.take_succ_eq_append_getElem h0, List.map_append, List.map_append] at h
    exact h
theorem words_ev [NeZero q] (l : List Int) (hw : ∀ x ∈ l, 0 ≤ x) (m : Nat) (hm : m < 1099511627776) : Ev (fun k => privityref04_Words.f k q l m) (((l.take m).map (E : Int → Fin q)).map V) := by
  unfold privityref04_Words.f
  have h := words_l0 (q := q) l hw m hm (min l.length m) 0 (by omega)
  exact h
theorem equal_l0 (l : List Int) (hl : l.length < 1099511627776) : ∀ (d i : Nat), i + d = l.length → Ev (fun k => privityref04_Equal.l0 k l l (i : Int)) true
  | 0, i, hi => Ev.step (fun k => by rw [privityref04_Equal.l0, if_neg (by omega)]) (Ev.now _)
  | d + 1, i, hi => by
    refine Ev.step (fun k => by rw [privityref04_Equal.l0, if_pos (by omega), if_pos (by omega), if_pos (by omega), if_pos rfl, wrap_in (by omega) (by omega)]) ?_
    exact equal_l0 l hl d (i + 1) (by omega)
theorem equal_ev {l l' : List Int} (hl : l.length < 1099511627776) (e : l = l') : Ev (fun k => privityref04_Equal.f k l l') true := by
  subst e
  unfold privityref04_Equal.f
  exact Ev.pos rfl (equal_l0 l hl l.length 0 (by omega))
theorem eqV_ev [NeZero q] {a b : List (Fin q)} (hl : a.length < 1099511627776) (e : a = b) : Ev (fun k => privityref04_Equal.f k (a.map V) (b.map V)) true :=
  equal_ev (by rw [len_map]; exact hl) (by rw [e])
theorem poly_mul_eq [NeZero q] (hq : Sup q) (a b : List (Fin q)) (ha : a.length < 274877906944) (hb : b.length < 274877906944) : poly_Mul.f q (a.map V) (b.map V) = some ((pmul a b).map V) := X.polyOp_eq hq X.opMul a b ha hb
theorem poly_add_eq [NeZero q] (hq : Sup q) (a b : List (Fin q)) (ha : a.length < 274877906944) (hb : b.length < 274877906944) : poly_Add.f q (a.map V) (b.map V) = some ((padd a b).map V) := X.polyOp_eq hq X.opAdd a b ha hb
theorem mul_evP [NeZero q] (hq : Sup q) (a b : List (Fin q)) (ha : a.length < 274877906944) (hb : b.length < 274877906944) : Ev (fun _ => poly_Mul.f q (a.map V) (b.map V)) ((pmul a b).map V) := ⟨0, fun _ _ => poly_mul_eq hq a b ha hb⟩
theorem add_evP [NeZero q] (hq : Sup q) (a b : List (Fin q)) (ha : a.length < 274877906944) (hb : b.length < 274877906944) : Ev (fun _ => poly_Add.f q (a.map V) (b.map V)) ((padd a b).map V) := ⟨0, fun _ _ => poly_add_eq hq a b ha hb⟩
theorem awake_ev : Ev (fun k => privitylaw04_awake.f k) true := Ev.of (fun k => privitylaw04_awake.mono k) (k := 80) (by decide +kernel)
/-- What the laws' inputs come to: a prime and three lists of at most twelve elements. -/
theorem fit_ex (x0 x4 x5 : Int) (l1 l2 l3 : List Int) (h0 : (Lit.int .u64 x0).wf = true) (h1 : ∀ x ∈ l1, (Lit.int .u64 x).wf = true) (h2 : ∀ x ∈ l2, (Lit.int .u64 x).wf = true) (h3 : ∀ x ∈ l3, (Lit.int .u64 x).wf = true) :
    ∃ (q : Nat) (_ : NeZero q) (a b c : List (Fin q)), Sup q ∧ a.length ≤ 12 ∧ b.length ≤ 12 ∧ c.length ≤ 12 ∧ Ev (fun k => privitylaw04_fit.f k x0 l1 l2 l3 x4 x5) ((q : Int), a.map V, b.map V, c.map V) := by
  obtain ⟨p, hp, e⟩ := Fit_ex x0 (wf_u64 h0).1
  have hz := hp.ne
  have hw : ∀ (l : List Int), (∀ x ∈ l, (Lit.int .u64 x).wf = true) → ((l.take 12).map (E : Int → Fin p)).length ≤ 12 ∧ Ev (fun k => privityref04_Words.f k p l 12) (((l.take 12).map (E : Int → Fin p)).map V) := fun l h =>
    ⟨by rw [List.length_map, List.length_take]; omega, words_ev l (fun x hx => (wf_u64 (h x hx)).1) 12 (by omega)⟩
  obtain ⟨a1, a2⟩ := hw l1 h1
  obtain ⟨b1, b2⟩ := hw l2 h2
  obtain ⟨c1, c2⟩ := hw l3 h3
  refine ⟨p, hz, _, _, _, hp, a1, b1, c1, ?_⟩
  unfold privitylaw04_fit.f
  rw [e]
  simp only [Option.bind_some]
  exact Ev.bind a2 (Ev.bind b2 (Ev.bind c2 (Ev.now _)))
end Go.Proofs.Ytjkggiemnfigbaa.FPoly

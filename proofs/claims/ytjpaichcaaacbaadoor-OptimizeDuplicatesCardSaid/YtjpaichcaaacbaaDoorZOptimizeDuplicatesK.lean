/- Part K of: The statement OptimizeDuplicates: the law answers true whatever its arguments; no condition. -/
import Derived.Test.YtjpaichcaaacbaaDoorZOptimizeDuplicatesJ
section
set_option linter.unusedVariables false
set_option linter.unusedSimpArgs false
set_option linter.unusedSectionVars false
set_option maxHeartbeats 8000000
namespace Go.Proofs.YtjpaichcaaacbaaDoor.HL
open Go Go.Proofs.YtjpaichcaaacbaaDoorNum Go.Proofs.YtjpaichcaaacbaaDoor.FEv
/-- A circuit in memory. -/
structure Circ (H : HH) (A : Option Addr) (n : Nat) (gs : List Gate) (A' : Option Addr) (n' : Nat) (outs : List Int) : Prop where
  g : Gs H A n gs
  o : Outs H A' n' outs
  nn : ∀ g ∈ gs, 0 ≤ g.k
  lg : gs.length ≤ 100000
  lo : outs.length ≤ 100000
theorem Circ.ext {H H' : HH} {A A' : Option Addr} {n n' : Nat} {gs : List Gate} {outs : List Int} (h : Circ H A n gs A' n' outs) (X : Ext H H') : Circ H' A n gs A' n' outs := ⟨h.g.ext X, h.o.ext X, h.nn, h.lg, h.lo⟩
/-- The certificate is valid. -/
structure CK (P : Int) (gs : List Gate) (outs : List Int) (P' : Int) (gs' : List Gate) (outs' : List Int) (tt : List Int) : Prop where
  v : validB P gs outs = true
  v' : validB P' gs' outs' = true
  p : P = P'
  len : tt.length = gs.length
  olen : outs.length = outs'.length
  rng : ∀ i, i < tt.length → -1 ≤ tt.getD i 0 ∧ tt.getD i 0 < (gs'.length : Int)
  inl : (inG gs gs.length).length = (inG gs' gs'.length).length
  ins : ∀ i, i < (inG gs gs.length).length → tt.getD ((inG gs gs.length).getD i 0) 0 = (((inG gs' gs'.length).getD i 0 : Nat) : Int) ∧ gs.getD ((inG gs gs.length).getD i 0) gate0 = gs'.getD ((inG gs' gs'.length).getD i 0) gate0
  cor : ∀ i, i < gs.length → (gs.getD i gate0).kind ≠ 1 → 0 ≤ tt.getD i 0 → corrB (gs.getD i gate0) (gs'.getD (tt.getD i 0).toNat gate0) tt = true
  out : ∀ i, i < outs.length → tt.getD (outs.getD i 0).toNat 0 = outs'.getD i 0
theorem inG_get {gs : List Gate} {i : Nat} (h : i < (inG gs gs.length).length) : (inG gs gs.length).getD i 0 < gs.length ∧ (gs.getD ((inG gs gs.length).getD i 0) gate0).kind = 1 := by
  have e : (inG gs gs.length).getD i 0 = (inG gs gs.length)[i] := by simp [h]
  exact inG_mem (by rw [e]; exact List.getElem_mem _)
theorem VOK.outA {P : Int} {gs : List Gate} {outs : List Int} (h : VOK P gs outs) {i : Nat} (hi : i < outs.length) : 0 ≤ outs.getD i 0 ∧ outs.getD i 0 < (gs.length : Int) := by
  have e : outs.getD i 0 = outs[i] := by simp [hi]
  exact h.outs _ (by rw [e]; exact List.getElem_mem _)
theorem GOK.sideA {P : Int} {i : Nat} {g : Gate} (h : GOK P i g) (hs : sA g.kind = true) : 0 ≤ g.a ∧ g.a < i := by
  unfold sA at hs
  simp only [Bool.or_eq_true, beq_iff_eq] at hs
  by_cases h5 : g.kind = 5
  · exact (h.sc h5).2
  · have := h.two (by omega); exact ⟨this.1, this.2.1⟩
theorem GOK.sideB {P : Int} {i : Nat} {g : Gate} (h : GOK P i g) (hs : sB g.kind = true) : 0 ≤ g.b ∧ g.b < i := by
  unfold sB at hs
  simp only [Bool.or_eq_true, beq_iff_eq] at hs
  have := h.two (by omega); exact ⟨this.2.2.1, this.2.2.2⟩
theorem all_succ {Q : Nat → Prop} {j : Nat} (h : ∀ t, t < j → Q t) (hj : Q j) : ∀ t, t < j + 1 → Q t := fun t ht => by
  rcases Nat.lt_or_ge t j with h1 | h1
  · exact h t h1
  · obtain rfl : t = j := by omega
    exact hj
section
variable {base : Nat} {H : HH} {K : Value → HH → Prop} {A A' B B' T : Option Addr} {n n' c c' m m' d d' nt ct : Nat} {P P' : Int} {gs gs' : List Gate} {outs outs' : List Int} {tt : List Int}
theorem h_check (hG : Gl H) (h1 : Circ H A n gs A' n' outs) (h2 : Circ H B m gs' B' m' outs') (ht : Outs H T nt tt)
    (hk1 : CK P gs outs P' gs' outs' tt → ∀ H', Ext H H' → K (.bool true) H') (hk2 : ¬ CK P gs outs P' gs' outs' tt → ∀ H', Ext H H' → K (.bool false) H') :
    HCall Tryd.prog base 33 #[.agg #[.int .u64 P, .slice A n c, .slice A' n' c'], .agg #[.int .u64 P', .slice B m d, .slice B' m' d'], .agg #[.slice T nt ct]] H K := by
  refine optimize_CheckCertificate.spec ?_
  unfold optimize_CheckCertificate.sh
  refine h_cbox (fun xb H1 X1 cb => ⟨_, rfl, h_cbox (fun yb H2 X2 db => ⟨_, rfl, h_tbox (fun tb H3 X3 tk => ⟨_, rfl, ?_⟩)⟩)⟩)
  have X13 := X1.trans (X2.trans X3)
  have cb3 := (cb.ext X2).ext X3
  have db3 := db.ext X3
  refine ⟨_, _, _, _, _, _, _, cb3.all, h_valid (hG.ext X13) (h1.g.ext X13) (h1.o.ext X13) (fun H4 X4 => ⟨_, rfl, ?_⟩)⟩
  cases hv1 : validB P gs outs with
  | false =>
    rw [if_neg (by decide)]
    exact hk2 (fun h => by rw [h.v] at hv1; cases hv1) H4 (X13.trans X4)
  | true =>
  rw [if_pos (by decide)]
  have X14 := X13.trans X4
  refine ⟨_, _, _, _, _, _, _, (db3.ext X4).all, h_valid (hG.ext X14) (h2.g.ext X14) (h2.o.ext X14) (fun H5 X5 => ⟨_, rfl, ?_⟩)⟩
  have X15 := X14.trans X5
  have hk1' : CK P gs outs P' gs' outs' tt → ∀ H', Ext H5 H' → K (.bool true) H' := fun h H' X => hk1 h H' (X15.trans X)
  have hk2' : ¬ CK P gs outs P' gs' outs' tt → ∀ H', Ext H5 H' → K (.bool false) H' := fun h H' X => hk2 h H' (X15.trans X)
  clear hk1 hk2
  cases hv2 : validB P' gs' outs' with
  | false =>
    rw [if_neg (by decide)]
    exact hk2' (fun h => by rw [h.v'] at hv2; cases hv2) H5 (.refl _)
  | true =>
  rw [if_pos (by decide)]
  have cb5 := (cb3.ext X4).ext X5
  have db5 := (db3.ext X4).ext X5
  have tk5 := (tk.ext X4).ext X5
  have c1 := h1.ext X15
  have c2 := h2.ext X15
  have t5 := ht.ext X15
  have v1 := validB_iff.1 hv1
  have v2 := validB_iff.1 hv2
  obtain rfl := h1.g.1
  obtain rfl := h1.o.1
  obtain rfl := h2.g.1
  obtain rfl := h2.o.1
  obtain rfl := ht.1
  have lg := h1.lg
  have lg' := h2.lg
  have lo := h1.lo
  clear h1 h2 ht hG cb cb3 db db3 tk X1 X2 X3 X4 X5 X13 X14 X15
  refine ⟨_, fc0 xb, _, cb5.qp, _, fc0 yb, _, db5.qp, ?_⟩
  by_cases eP : P = P'
  rotate_left
  · rw [if_neg (by simpa using eP)]
    exact hk2' (fun h => eP h.p) H5 (.refl _)
  rw [if_pos (by simpa using eP)]
  refine ⟨_, ft0 tb, _, _, _, tk5.to, _, fc1 xb, _, _, _, cb5.qgs, ?_⟩
  by_cases eL : tt.length = gs.length
  rotate_left
  · rw [if_neg (by rw [Bool.not_eq_false, bne_iff_ne]; omega)]
    exact hk2' (fun h => eL h.len) H5 (.refl _)
  rw [if_pos (by rw [eL]; simp)]
  refine ⟨_, fc2 xb, _, _, _, cb5.qouts, _, fc2 yb, _, _, _, db5.qouts, ?_⟩
  by_cases eO : outs.length = outs'.length
  rotate_left
  · rw [if_pos (by rw [bne_iff_ne]; omega)]
    exact hk2' (fun h => eO h.olen) H5 (.refl _)
  rw [if_neg (by rw [eO]; simp)]
  refine ⟨_, ft0 tb, _, _, _, tk5.to, ?_⟩
  refine optimize_CheckCertificate.loop0 (fun r y H' => H' = H5 ∧ ∃ j : Nat, y = j ∧ j ≤ tt.length ∧ r = tt.length - j ∧ ∀ t, t < j → -1 ≤ tt.getD t 0 ∧ tt.getD t 0 < (gs'.length : Int)) tt.length ⟨rfl, 0, rfl, Nat.zero_le _, rfl, fun t h => by omega⟩ ?_
  rintro r y fr H6 ⟨rfl, j, rfl, hj, rfl, hrng⟩
  unfold optimize_CheckCertificate.B0
  by_cases hlt : j < tt.length
  · rw [if_pos (decide_eq_true (by omega))]
    obtain ⟨a, q1, q2⟩ := t5.at ct (i := j) hlt
    refine ⟨a, q1, _, q2, ?_⟩
    by_cases e1 : tt.getD j 0 < -1
    · rw [if_neg (by simpa using e1)]
      exact hk2' (fun h => by have := h.rng j hlt; omega) H6 (.refl _)
    rw [if_pos (by simpa using e1)]
    refine ⟨_, fc1 yb, _, _, _, db5.qgs, ?_⟩
    by_cases e2 : tt.getD j 0 ≥ (gs'.length : Int)
    · rw [if_pos (decide_eq_true e2)]
      exact hk2' (fun h => by have := h.rng j hlt; omega) H6 (.refl _)
    rw [if_neg (fun h => e2 (of_decide_eq_true h))]
    exact ⟨tt.length - j - 1, by omega, _, rfl, rfl, j + 1, nxt (n := 1000000) (by omega) (by decide), by omega, by omega, all_succ hrng ⟨by omega, by omega⟩⟩
  rw [if_neg (fun h => hlt (by have := of_decide_eq_true h; omega))]
  obtain rfl : j = tt.length := by omega
  clear hlt hj
  refine ⟨_, _, _, _, _, _, _, cb5.all, _, _, _, _, _, _, _, db5.all, h_inputs c1.g lg (fun Ax cx H7 X7 rx => ⟨_, _, _, rfl, (db5.ext X7).all, h_inputs (c2.g.ext X7) lg' (fun Ay cy H8 X8 ry => ⟨_, _, _, rfl, ?_⟩)⟩)⟩
  by_cases eI : (inG gs gs.length).length = (inG gs' gs'.length).length
  rotate_left
  · rw [if_pos (by rw [bne_iff_ne]; omega)]
    exact hk2' (fun h => eI h.inl) H8 (X7.trans X8)
  rw [if_neg (by rw [eI]; simp)]
  have X68 := X7.trans X8
  have cb8 := cb5.ext X68
  have db8 := db5.ext X68
  have tk8 := tk5.ext X68
  have d1 := c1.ext X68
  have d2 := c2.ext X68
  have t8 := t5.ext X68
  have rx8 := rx.ext X8
  have hk1 : CK P gs outs P' gs' outs' tt → ∀ H', Ext H8 H' → K (.bool true) H' := fun h H' X => hk1' h H' (X68.trans X)
  have hk2 : ¬ CK P gs outs P' gs' outs' tt → ∀ H', Ext H8 H' → K (.bool false) H' := fun h H' X => hk2' h H' (X68.trans X)
  clear cb5 db5 tk5 c1 c2 t5 rx hk1' hk2' X7 X8 X68
  have il := inG_le gs gs.length
  refine optimize_CheckCertificate.loop1 (fun r y H' => H' = H8 ∧ ∃ j : Nat, y = j ∧ j ≤ (inG gs gs.length).length ∧ r = (inG gs gs.length).length - j ∧ ∀ i, i < j → tt.getD ((inG gs gs.length).getD i 0) 0 = (((inG gs' gs'.length).getD i 0 : Nat) : Int) ∧ gs.getD ((inG gs gs.length).getD i 0) gate0 = gs'.getD ((inG gs' gs'.length).getD i 0) gate0) (inG gs gs.length).length ⟨rfl, 0, rfl, Nat.zero_le _, rfl, fun t h => by omega⟩ ?_
  rintro r y fr H9 ⟨rfl, j, rfl, hj, rfl, hins⟩
  unfold optimize_CheckCertificate.B1
  by_cases hlt : j < (inG gs gs.length).length
  · rw [if_pos (decide_eq_true (by omega))]
    obtain ⟨ia, ik⟩ := inG_get hlt
    obtain ⟨ja, jk⟩ := inG_get (gs := gs') (i := j) (by omega)
    obtain ⟨a1, q1, q2⟩ := rx8.at cx (i := j) hlt
    obtain ⟨a2, q3, q4⟩ := ry.at cy (i := j) (by omega)
    rw [zs_get] at q2 q4
    obtain ⟨a3, q5, q6⟩ := t8.at ct (i := (inG gs gs.length).getD j 0) (by omega)
    obtain ⟨a4, q7, q8⟩ := d1.g.at c ia
    obtain ⟨a5, q9, q10⟩ := d2.g.at d ja
    refine ⟨_, ft0 tb, _, _, _, tk8.to, a1, q1, _, q2, a3, q5, _, q6, a2, q3, _, q4, ?_⟩
    by_cases e1 : tt.getD ((inG gs gs.length).getD j 0) 0 = (((inG gs' gs'.length).getD j 0 : Nat) : Int)
    rotate_left
    · rw [if_neg (by rw [Bool.not_eq_false, bne_iff_ne]; exact e1)]
      exact hk2 (fun h => e1 (h.ins j hlt).1) H9 (.refl _)
    rw [if_pos (by rw [e1]; simp)]
    refine ⟨_, fc1 xb, _, _, _, cb8.qgs, a1, q1, _, q2, a4, q7, _, _, _, _, _, q8.all, _, fc1 yb, _, _, _, db8.qgs, a2, q3, _, q4, a5, q9, _, _, _, _, _, q10.all, _, aq_neqg _ _, ?_⟩
    by_cases e2 : gs.getD ((inG gs gs.length).getD j 0) gate0 = gs'.getD ((inG gs' gs'.length).getD j 0) gate0
    rotate_left
    · rw [if_pos (decide_eq_true e2)]
      exact hk2 (fun h => e2 (h.ins j hlt).2) H9 (.refl _)
    rw [if_neg (fun h => (of_decide_eq_true h) e2)]
    exact ⟨(inG gs gs.length).length - j - 1, by omega, _, rfl, rfl, j + 1, nxt (n := 1000000) (by omega) (by decide), by omega, by omega, all_succ hins ⟨e1, e2⟩⟩
  rw [if_neg (fun h => hlt (by have := of_decide_eq_true h; omega))]
  obtain rfl : j = (inG gs gs.length).length := by omega
  clear hlt hj rx8 ry
  refine ⟨_, fc1 xb, _, _, _, cb8.qgs, ?_⟩
  refine optimize_CheckCertificate.loop2 (fun r y H' => Ext H9 H' ∧ ∃ j : Nat, y = j ∧ j ≤ gs.length ∧ r = gs.length - j ∧ ∀ i, i < j → (gs.getD i gate0).kind ≠ 1 → 0 ≤ tt.getD i 0 → corrB (gs.getD i gate0) (gs'.getD (tt.getD i 0).toNat gate0) tt = true) gs.length ⟨.refl _, 0, rfl, Nat.zero_le _, rfl, fun t h => by omega⟩ ?_
  rintro r y fr H10 ⟨X10, j, rfl, hj, rfl, hcor⟩
  unfold optimize_CheckCertificate.B2
  by_cases hlt : j < gs.length
  · rw [if_pos (decide_eq_true (by omega))]
    have nx : IntKind.i64.wrap ((j : Int) + 1) = ((j + 1 : Nat) : Int) := nxt (n := 1000000) (by omega) (by decide)
    obtain ⟨a1, q1, q2⟩ := (d1.g.ext X10).at c hlt
    refine ⟨a1, q1, _, _, _, _, _, q2.all, h_gvar (fun ad H11 X11 ga => ?_)⟩
    have X911 := X10.trans X11
    obtain ⟨a3, q5, q6⟩ := (t8.ext X911).at ct (i := j) (by omega)
    refine ⟨_, ft0 tb, _, _, _, (tk8.ext X911).to, a3, q5, _, q6, _, fg0 ad, _, ga.kind, ?_⟩
    by_cases e1 : (gs.getD j gate0).kind = 1
    · rw [if_neg (by rw [e1]; decide)]
      exact ⟨gs.length - j - 1, by omega, _, rfl, X911, j + 1, nx, by omega, by omega, all_succ hcor (fun h => absurd e1 h)⟩
    rw [if_pos (by rw [bne_iff_ne]; exact e1)]
    by_cases e2 : tt.getD j 0 ≥ 0
    rotate_left
    · rw [if_neg (fun h => e2 (of_decide_eq_true h))]
      exact ⟨gs.length - j - 1, by omega, _, rfl, X911, j + 1, nx, by omega, by omega, all_succ hcor (fun _ h => absurd h e2)⟩
    rw [if_pos (decide_eq_true e2)]
    have hr := hrng j (by omega)
    obtain ⟨a4, q7, q8⟩ := (d2.g.ext X911).ix d e2 hr.2
    have gok := v1.gok d1.nn hlt
    refine ⟨_, _, _, _, _, ga.all, _, fc1 yb, _, _, _, (db8.ext X911).qgs, a4, q7, _, _, _, _, _, q8.all, _, ft0 tb, _, _, _, (tk8.ext X911).to, h_alike (g := gs.getD j gate0) (h := gs'.getD (tt.getD j 0).toNat gate0) (t8.ext X911) (fun hs => by have := gok.sideA hs; omega) (fun hs => by have := gok.sideB hs; omega) (fun H12 X12 => ⟨_, rfl, ?_⟩)⟩
    cases e3 : corrB (gs.getD j gate0) (gs'.getD (tt.getD j 0).toNat gate0) tt with
    | false =>
      rw [if_pos (by decide)]
      exact hk2 (fun h => by rw [h.cor j hlt e1 e2] at e3; cases e3) H12 (X911.trans X12)
    | true =>
      rw [if_neg (by decide)]
      exact ⟨gs.length - j - 1, by omega, _, rfl, X911.trans X12, j + 1, nx, by omega, by omega, all_succ hcor (fun _ _ => e3)⟩
  rw [if_neg (fun h => hlt (by have := of_decide_eq_true h; omega))]
  obtain rfl : j = gs.length := by omega
  clear hlt hj
  refine ⟨_, fc2 xb, _, _, _, (cb8.ext X10).qouts, ?_⟩
  refine optimize_CheckCertificate.loop3 (fun r y H' => H' = H10 ∧ ∃ j : Nat, y = j ∧ j ≤ outs.length ∧ r = outs.length - j ∧ ∀ i, i < j → tt.getD (outs.getD i 0).toNat 0 = outs'.getD i 0) outs.length ⟨rfl, 0, rfl, Nat.zero_le _, rfl, fun t h => by omega⟩ ?_
  rintro r y fr H11 ⟨rfl, j, rfl, hj, rfl, hout⟩
  unfold optimize_CheckCertificate.B3
  by_cases hlt : j < outs.length
  · rw [if_pos (decide_eq_true (by omega))]
    have ho := v1.outA hlt
    have ho' := v2.outA (i := j) (by omega)
    obtain ⟨a1, q1, q2⟩ := (d1.o.ext X10).at c' hlt
    obtain ⟨a2, q3, q4⟩ := (t8.ext X10).ix ct ho.1 (by omega)
    obtain ⟨a3, q5, q6⟩ := (d2.o.ext X10).at d' (i := j) (by omega)
    refine ⟨a1, q1, _, q2, _, ft0 tb, _, _, _, (tk8.ext X10).to, a2, q3, _, q4, ?_⟩
    by_cases e1 : tt.getD (outs.getD j 0).toNat 0 < 0
    · rw [if_neg (by simpa using e1)]
      exact hk2 (fun h => by have := h.out j hlt; omega) H11 X10
    rw [if_pos (by simpa using e1)]
    refine ⟨_, ft0 tb, _, _, _, (tk8.ext X10).to, a2, q3, _, q4, _, fc2 yb, _, _, _, (db8.ext X10).qouts, a3, q5, _, q6, ?_⟩
    by_cases e2 : tt.getD (outs.getD j 0).toNat 0 = outs'.getD j 0
    rotate_left
    · rw [if_pos (by rw [bne_iff_ne]; exact e2)]
      exact hk2 (fun h => e2 (h.out j hlt)) H11 X10
    rw [if_neg (by rw [e2]; simp)]
    exact ⟨outs.length - j - 1, by omega, _, rfl, rfl, j + 1, nxt (n := 1000000) (by omega) (by decide), by omega, by omega, all_succ hout e2⟩
  rw [if_neg (fun h => hlt (by have := of_decide_eq_true h; omega))]
  obtain rfl : j = outs.length := by omega
  exact hk1 ⟨hv1, hv2, eP, eL, eO, hrng, eI, hins, hcor, hout⟩ H11 X10
end
end Go.Proofs.YtjpaichcaaacbaaDoor.HL
end
namespace Go.Proofs.YtjpaichcaaacbaaDoor.HL
end Go.Proofs.YtjpaichcaaacbaaDoor.HL
section
set_option linter.unusedVariables false
set_option linter.unusedSimpArgs false
set_option linter.unusedSectionVars false
set_option maxHeartbeats 4000000
namespace Go.Proofs.YtjpaichcaaacbaaDoor.HL
open Go Go.Proofs.YtjpaichcaaacbaaDoorNum Go.Proofs.YtjpaichcaaacbaaDoor.FEv
/-- What identifies equivalent gates. -/
structure Key where
  kind : Int
  a : Int
  b : Int
  k : Int
deriving DecidableEq
def keyF (f : Nat → Nat) (g : Gate) : Key :=
  if cm g.kind = true ∧ (f g.a.toNat : Int) > (f g.b.toNat : Int) then ⟨g.kind, (f g.b.toNat : Int), (f g.a.toNat : Int), g.k⟩
  else ⟨g.kind, if sA g.kind = true then (f g.a.toNat : Int) else 0, if sB g.kind = true then (f g.b.toNat : Int) else 0, g.k⟩
/-- The operands come earlier. -/
def WF (gs : List Gate) : Prop := ∀ t, t < gs.length → (sA (gs.getD t gate0).kind = true → 0 ≤ (gs.getD t gate0).a ∧ (gs.getD t gate0).a < t) ∧ (sB (gs.getD t gate0).kind = true → 0 ≤ (gs.getD t gate0).b ∧ (gs.getD t gate0).b < t)
theorem VOK.wf {P : Int} {gs : List Gate} {outs : List Int} (h : VOK P gs outs) (hnn : ∀ g ∈ gs, 0 ≤ g.k) : WF gs := fun t ht => ⟨(h.gok hnn ht).sideA, (h.gok hnn ht).sideB⟩
def isKey (gs : List Gate) (f : Nat → Nat) (x : Key) (t : Nat) : Bool := (gs.getD t gate0).kind != 1 && decide (keyF f (gs.getD t gate0) = x)
def repG (gs : List Gate) (f : Nat → Nat) (i : Nat) : Nat := if (gs.getD i gate0).kind = 1 then i else ((List.range i).find? (isKey gs f (keyF f (gs.getD i gate0)))).getD i
/-- The representatives of the first gates. -/
def fL (gs : List Gate) : Nat → List Nat
  | 0 => []
  | i + 1 => fL gs i ++ [repG gs (fun k => (fL gs i).getD k 0) i]
def fN (gs : List Gate) (k : Nat) : Nat := (fL gs (k + 1)).getD k 0
theorem fL_len (gs : List Gate) : ∀ i, (fL gs i).length = i
  | 0 => rfl
  | i + 1 => by rw [fL, List.length_append, fL_len gs i]; rfl
theorem getD_app_lt {α : Type} {l l' : List α} {d : α} {k : Nat} (h : k < l.length) : (l ++ l').getD k d = l.getD k d := by
  rw [List.getD_eq_getElem?_getD, List.getD_eq_getElem?_getD, List.getElem?_append_left h]
theorem getD_app_len {α : Type} {l : List α} {x d : α} {k : Nat} (h : k = l.length) : (l ++ [x]).getD k d = x := by
  subst h
  rw [List.getD_eq_getElem?_getD, List.getElem?_append_right (Nat.le_refl _), Nat.sub_self]; rfl
theorem fL_get (gs : List Gate) {k : Nat} : ∀ {i : Nat}, k < i → (fL gs i).getD k 0 = fN gs k
  | 0, h => by omega
  | i + 1, h => by
    rcases Nat.lt_or_ge k i with h1 | h1
    · rw [fL, getD_app_lt (by rw [fL_len]; exact h1)]; exact fL_get gs h1
    · obtain rfl : k = i := by omega
      rfl
theorem keyF_congr {f f' : Nat → Nat} {g : Gate} {t : Nat} (ha : sA g.kind = true → 0 ≤ g.a ∧ g.a < t) (hb : sB g.kind = true → 0 ≤ g.b ∧ g.b < t) (h : ∀ k, k < t → f k = f' k) : keyF f g = keyF f' g := by
  by_cases sb : sB g.kind = true
  · unfold keyF
    obtain ⟨y0, y1⟩ := hb sb
    obtain ⟨x0, x1⟩ := ha (sB_sA sb)
    rw [h _ (by omega), h _ (by omega)]
  · have hc : ¬ cm g.kind = true := fun h => sb (cm_sB h)
    have key : ∀ f : Nat → Nat, keyF f g = ⟨g.kind, if sA g.kind = true then (f g.a.toNat : Int) else 0, 0, g.k⟩ := fun f => by
      unfold keyF
      rw [if_neg (fun h => hc h.1), if_neg sb]
    rw [key f, key f']
    by_cases sa : sA g.kind = true
    · obtain ⟨x0, x1⟩ := ha sa
      rw [if_pos sa, if_pos sa, h _ (by omega)]
    · rw [if_neg sa, if_neg sa]
theorem find_congr {α : Type} {p q : α → Bool} {l : List α} (h : ∀ x ∈ l, p x = q x) : l.find? p = l.find? q := by
  induction l with
  | nil => rfl
  | cons x l ih =>
    rw [List.find?_cons, List.find?_cons, h x (List.mem_cons_self ..), ih (fun y hy => h y (List.mem_cons_of_mem _ hy))]
/-- What the map of the keys met holds, over the final representatives. -/
def met (gs : List Gate) (i : Nat) (x : Key) : Option Nat := (List.range i).find? (isKey gs (fN gs) x)
section
variable {gs : List Gate} (W : WF gs)
include W
theorem fN_eq {i : Nat} (hi : i < gs.length) : fN gs i = if (gs.getD i gate0).kind = 1 then i else (met gs i (keyF (fN gs) (gs.getD i gate0))).getD i := by
  have e : fN gs i = repG gs (fun k => (fL gs i).getD k 0) i := by unfold fN; rw [fL]; exact getD_app_len (fL_len gs i).symm
  rw [e]
  unfold repG met
  have hk : ∀ k, k < i → (fL gs i).getD k 0 = fN gs k := fun k h => fL_get gs h
  have key : ∀ t, t ≤ i → keyF (fun k => (fL gs i).getD k 0) (gs.getD t gate0) = keyF (fN gs) (gs.getD t gate0) := fun t ht => keyF_congr (W t (by omega)).1 (W t (by omega)).2 (fun k h => hk k (by omega))
  rw [key i (Nat.le_refl _)]
  split
  · rfl
  · congr 1
    refine find_congr (fun t ht => ?_)
    unfold isKey
    rw [key t (by have := List.mem_range.1 ht; omega)]
theorem met_succ (i : Nat) (x : Key) : met gs (i + 1) x = (met gs i x).or (if isKey gs (fN gs) x i = true then some i else none) := by
  unfold met
  rw [List.range_succ, List.find?_append, List.find?_singleton]
theorem met_spec {i t : Nat} {x : Key} (h : met gs i x = some t) : t < i ∧ (gs.getD t gate0).kind ≠ 1 ∧ keyF (fN gs) (gs.getD t gate0) = x ∧ ∀ t', t' < t → isKey gs (fN gs) x t' = false := by
  unfold met at h
  rw [List.find?_range_eq_some] at h
  obtain ⟨h1, h2, h3⟩ := h
  unfold isKey at h1
  rw [Bool.and_eq_true, bne_iff_ne, decide_eq_true_eq] at h1
  exact ⟨List.mem_range.1 h2, h1.1, h1.2, fun t' ht => by have := h3 t' ht; simpa using this⟩
theorem met_none {i : Nat} {x : Key} (h : met gs i x = none) : ∀ t, t < i → isKey gs (fN gs) x t = false := by
  unfold met at h
  rw [List.find?_eq_none] at h
  intro t ht
  have := h t (List.mem_range.2 ht)
  simpa using this
theorem fN_le {i : Nat} (hi : i < gs.length) : fN gs i ≤ i := by
  rw [fN_eq W hi]
  split
  · exact Nat.le_refl _
  · cases h : met gs i (keyF (fN gs) (gs.getD i gate0)) with
    | none => exact Nat.le_refl _
    | some t => have := (met_spec W h).1; exact Nat.le_of_lt this
theorem fN_in {i : Nat} (hi : i < gs.length) (h : (gs.getD i gate0).kind = 1) : fN gs i = i := by rw [fN_eq W hi, if_pos h]
/-- A gate that is no input is represented by the first with its key. -/
theorem fN_key {i : Nat} (hi : i < gs.length) (h : (gs.getD i gate0).kind ≠ 1) : (gs.getD (fN gs i) gate0).kind ≠ 1 ∧ keyF (fN gs) (gs.getD (fN gs i) gate0) = keyF (fN gs) (gs.getD i gate0) ∧ ∀ t, t < fN gs i → isKey gs (fN gs) (keyF (fN gs) (gs.getD i gate0)) t = false := by
  have e := fN_eq W hi
  rw [if_neg h] at e
  cases hm : met gs i (keyF (fN gs) (gs.getD i gate0)) with
  | none =>
    rw [hm] at e
    have e : fN gs i = i := e
    rw [e]
    exact ⟨h, rfl, met_none W hm⟩
  | some t =>
    rw [hm] at e
    have e : fN gs i = t := e
    obtain ⟨h1, h2, h3, h4⟩ := met_spec W hm
    rw [e]
    exact ⟨h2, h3, h4⟩
theorem fN_same {i j : Nat} (hi : i < gs.length) (hj : j < gs.length) (h1 : (gs.getD i gate0).kind ≠ 1) (h2 : (gs.getD j gate0).kind ≠ 1) (h : keyF (fN gs) (gs.getD i gate0) = keyF (fN gs) (gs.getD j gate0)) : fN gs i = fN gs j := by
  obtain ⟨a1, a2, a3⟩ := fN_key W hi h1
  obtain ⟨b1, b2, b3⟩ := fN_key W hj h2
  rcases Nat.lt_trichotomy (fN gs i) (fN gs j) with hlt | heq | hgt
  · have := b3 _ hlt
    unfold isKey at this
    rw [a2, h, decide_eq_true rfl, bne_iff_ne.2 a1] at this
    cases this
  · exact heq
  · have := a3 _ hgt
    unfold isKey at this
    rw [b2, h, decide_eq_true rfl, bne_iff_ne.2 b1] at this
    cases this
theorem fN_fN {i : Nat} (hi : i < gs.length) : fN gs (fN gs i) = fN gs i := by
  by_cases h : (gs.getD i gate0).kind = 1
  · rw [fN_in W hi h, fN_in W hi h]
  · obtain ⟨a1, a2, a3⟩ := fN_key W hi h
    exact fN_same W (by have := fN_le W hi; omega) hi a1 h a2
end
def onB (nd : Nat → Bool) (j : Nat) : Nat → Bool := fun t => t == j || nd t
/-- A gate is met, from behind. -/
def ndStep (gs : List Gate) (nd : Nat → Bool) (i : Nat) : Nat → Bool :=
  let n1 := if (gs.getD i gate0).kind = 1 then onB nd i else nd
  if n1 i = false then n1 else
  let n2 := if sA (gs.getD i gate0).kind = true then onB n1 (fN gs (gs.getD i gate0).a.toNat) else n1
  if sB (gs.getD i gate0).kind = true then onB n2 (fN gs (gs.getD i gate0).b.toNat) else n2
def ndOut (gs : List Gate) (outs : List Int) (j : Nat) : Nat → Bool := fun t => (outs.take j).any fun o => fN gs o.toNat == t
/-- The last m gates are met. -/
def ndBack (gs : List Gate) (outs : List Int) : Nat → Nat → Bool
  | 0 => ndOut gs outs outs.length
  | m + 1 => ndStep gs (ndBack gs outs m) (gs.length - 1 - m)
def ndAll (gs : List Gate) (outs : List Int) : Nat → Bool := ndBack gs outs gs.length
def mapG (gs : List Gate) (tl : List Int) (g : Gate) : Gate := ⟨g.kind, g.frm, if sA g.kind = true then tl.getD (fN gs g.a.toNat) 0 else g.a, if sB g.kind = true then tl.getD (fN gs g.b.toNat) 0 else g.b, g.k⟩
def cL (gs : List Gate) (nd : Nat → Bool) : Nat → List Int × List Gate
  | 0 => ([], [])
  | i + 1 =>
    let r := cL gs nd i
    if nd (fN gs i) = false then (r.1 ++ [-1], r.2)
    else if fN gs i ≠ i then (r.1 ++ [r.1.getD (fN gs i) 0], r.2)
    else (r.1 ++ [(r.2.length : Int)], r.2 ++ [mapG gs r.1 (gs.getD i gate0)])
theorem cL_len (gs : List Gate) (nd : Nat → Bool) : ∀ i, (cL gs nd i).1.length = i
  | 0 => rfl
  | i + 1 => by
    have := cL_len gs nd i
    unfold cL
    dsimp only
    split
    · simp [this]
    · split
      · simp [this]
      · simp [this]
def optT (gs : List Gate) (outs : List Int) : List Int := (cL gs (ndAll gs outs) gs.length).1
def optG (gs : List Gate) (outs : List Int) : List Gate := (cL gs (ndAll gs outs) gs.length).2
def optO (gs : List Gate) (outs : List Int) : List Int := outs.map fun o => (optT gs outs).getD o.toNat 0
end Go.Proofs.YtjpaichcaaacbaaDoor.HL
end
section
set_option linter.unusedVariables false
set_option linter.unusedSimpArgs false
set_option linter.unusedSectionVars false
set_option maxHeartbeats 4000000
namespace Go.Proofs.YtjpaichcaaacbaaDoor.HL
open Go Go.Proofs.YtjpaichcaaacbaaDoorNum Go.Proofs.YtjpaichcaaacbaaDoor.FEv
theorem keyF_sw {f : Nat → Nat} {g : Gate} (hc : cm g.kind = true) (hg : (f g.a.toNat : Int) > (f g.b.toNat : Int)) : keyF f g = ⟨g.kind, (f g.b.toNat : Int), (f g.a.toNat : Int), g.k⟩ := by
  unfold keyF; exact if_pos ⟨hc, hg⟩
theorem keyF_two {f : Nat → Nat} {g : Gate} (hs : sB g.kind = true) (hn : ¬ (cm g.kind = true ∧ (f g.a.toNat : Int) > (f g.b.toNat : Int))) : keyF f g = ⟨g.kind, (f g.a.toNat : Int), (f g.b.toNat : Int), g.k⟩ := by
  have e : keyF f g = ⟨g.kind, if sA g.kind = true then (f g.a.toNat : Int) else 0, if sB g.kind = true then (f g.b.toNat : Int) else 0, g.k⟩ := by unfold keyF; exact if_neg hn
  rw [e, if_pos (sB_sA hs), if_pos hs]
theorem keyF_one {f : Nat → Nat} {g : Gate} (ha : sA g.kind = true) (hs : sB g.kind = false) : keyF f g = ⟨g.kind, (f g.a.toNat : Int), 0, g.k⟩ := by
  have hc : ¬ (cm g.kind = true ∧ (f g.a.toNat : Int) > (f g.b.toNat : Int)) := fun h => by rw [cm_sB h.1] at hs; cases hs
  have e : keyF f g = ⟨g.kind, if sA g.kind = true then (f g.a.toNat : Int) else 0, if sB g.kind = true then (f g.b.toNat : Int) else 0, g.k⟩ := by unfold keyF; exact if_neg hc
  rw [e, if_pos ha, if_neg (by rw [hs]; decide)]
def nd1 (gs : List Gate) (nd : Nat → Bool) (i : Nat) : Nat → Bool := if (gs.getD i gate0).kind = 1 then onB nd i else nd
def nd2 (gs : List Gate) (nd : Nat → Bool) (i : Nat) : Nat → Bool := if sA (gs.getD i gate0).kind = true then onB (nd1 gs nd i) (fN gs (gs.getD i gate0).a.toNat) else nd1 gs nd i
theorem ndStep_eq (gs : List Gate) (nd : Nat → Bool) (i : Nat) : ndStep gs nd i = if nd1 gs nd i i = false then nd1 gs nd i else if sB (gs.getD i gate0).kind = true then onB (nd2 gs nd i) (fN gs (gs.getD i gate0).b.toNat) else nd2 gs nd i := rfl
section
end
section
variable {gs : List Gate} {nd : Nat → Bool}
def tN (gs : List Gate) (nd : Nat → Bool) (k : Nat) : Int := (cL gs nd (k + 1)).1.getD k 0
def pos (gs : List Gate) (nd : Nat → Bool) (i : Nat) : Nat := (cL gs nd i).2.length
def kept (gs : List Gate) (nd : Nat → Bool) (i : Nat) : Prop := nd i = true ∧ fN gs i = i
theorem cL_eq (gs : List Gate) (nd : Nat → Bool) (i : Nat) : cL gs nd (i + 1) = if nd (fN gs i) = false then ((cL gs nd i).1 ++ [-1], (cL gs nd i).2) else if fN gs i ≠ i then ((cL gs nd i).1 ++ [(cL gs nd i).1.getD (fN gs i) 0], (cL gs nd i).2) else ((cL gs nd i).1 ++ [((cL gs nd i).2.length : Int)], (cL gs nd i).2 ++ [mapG gs (cL gs nd i).1 (gs.getD i gate0)]) := rfl
theorem cL_succ1 (i : Nat) : ∃ x, (cL gs nd (i + 1)).1 = (cL gs nd i).1 ++ [x] := by
  rw [cL_eq]
  split
  · exact ⟨_, rfl⟩
  · split
    · exact ⟨_, rfl⟩
    · exact ⟨_, rfl⟩
theorem cL_get {k : Nat} : ∀ {i : Nat}, k < i → (cL gs nd i).1.getD k 0 = tN gs nd k
  | 0, h => by omega
  | i + 1, h => by
    rcases Nat.lt_or_ge k i with h1 | h1
    · obtain ⟨x, e⟩ := cL_succ1 (gs := gs) (nd := nd) i
      rw [e, getD_app_lt (by rw [cL_len]; exact h1)]; exact cL_get h1
    · obtain rfl : k = i := by omega
      rfl
theorem cL_kept {i : Nat} (h : kept gs nd i) : (cL gs nd (i + 1)).2 = (cL gs nd i).2 ++ [mapG gs (cL gs nd i).1 (gs.getD i gate0)] := by
  obtain ⟨h1, h2⟩ := h
  have e : cL gs nd (i + 1) = if nd (fN gs i) = false then ((cL gs nd i).1 ++ [-1], (cL gs nd i).2) else if fN gs i ≠ i then ((cL gs nd i).1 ++ [(cL gs nd i).1.getD (fN gs i) 0], (cL gs nd i).2) else ((cL gs nd i).1 ++ [((cL gs nd i).2.length : Int)], (cL gs nd i).2 ++ [mapG gs (cL gs nd i).1 (gs.getD i gate0)]) := rfl
  rw [e, h2, if_neg (by rw [h1]; decide), if_neg (by omega)]
theorem cL_drop {i : Nat} (h : ¬ kept gs nd i) : (cL gs nd (i + 1)).2 = (cL gs nd i).2 := by
  have e : cL gs nd (i + 1) = if nd (fN gs i) = false then ((cL gs nd i).1 ++ [-1], (cL gs nd i).2) else if fN gs i ≠ i then ((cL gs nd i).1 ++ [(cL gs nd i).1.getD (fN gs i) 0], (cL gs nd i).2) else ((cL gs nd i).1 ++ [((cL gs nd i).2.length : Int)], (cL gs nd i).2 ++ [mapG gs (cL gs nd i).1 (gs.getD i gate0)]) := rfl
  rw [e]
  by_cases h1 : nd (fN gs i) = false
  · rw [if_pos h1]
  · rw [if_neg h1]
    by_cases h2 : fN gs i = i
    · exact absurd ⟨by rw [h2] at h1; simpa using h1, h2⟩ h
    · rw [if_pos h2]
theorem tN_eq (W : WF gs) : ∀ (k : Nat), k < gs.length → tN gs nd k = if nd (fN gs k) = true then (pos gs nd (fN gs k) : Int) else -1 := by
  intro k
  induction k using Nat.strongRecOn with
  | _ k ih =>
  intro hk
  have e : cL gs nd (k + 1) = if nd (fN gs k) = false then ((cL gs nd k).1 ++ [-1], (cL gs nd k).2) else if fN gs k ≠ k then ((cL gs nd k).1 ++ [(cL gs nd k).1.getD (fN gs k) 0], (cL gs nd k).2) else ((cL gs nd k).1 ++ [((cL gs nd k).2.length : Int)], (cL gs nd k).2 ++ [mapG gs (cL gs nd k).1 (gs.getD k gate0)]) := rfl
  unfold tN
  rw [e]
  cases hn : nd (fN gs k) with
  | false =>
    rw [if_pos rfl, if_neg (by decide)]
    exact getD_app_len (cL_len _ _ _).symm
  | true =>
    rw [if_neg (by decide), if_pos rfl]
    by_cases h2 : fN gs k = k
    · rw [if_neg (by omega), h2]
      exact getD_app_len (cL_len _ _ _).symm
    · rw [if_pos h2]
      have hlt : fN gs k < k := by have := fN_le W hk; omega
      have := ih _ hlt (by omega)
      rw [fN_fN W hk, hn, if_pos rfl] at this
      rw [← this, ← cL_get hlt]
      exact getD_app_len (cL_len _ _ _).symm
end
end Go.Proofs.YtjpaichcaaacbaaDoor.HL
end
section
set_option linter.unusedVariables false
set_option linter.unusedSimpArgs false
set_option linter.unusedSectionVars false
set_option maxHeartbeats 8000000
namespace Go.Proofs.YtjpaichcaaacbaaDoor.HL
open Go Go.Proofs.YtjpaichcaaacbaaDoorNum Go.Proofs.YtjpaichcaaacbaaDoor.FEv Go.Proofs.YtjpaichcaaacbaaDoorW.PrintWords
theorem h_doM {α : Type} {P : Program} {base : Nat} {H : HH} {s : Sem α} {K : α → HH → Prop} {b : Nat} {o o' : Obj} {v : α} (hb : H b = some o) (hbase : base ≤ b)
    (hr : ∀ W : World, Sat H W → ∃ W', s.run P W = .ok v W' ∧ W'.os = W.os ∧ W'.tape = W.tape ∧ W'.output = W.output ∧ W'.heap.size = W.heap.size ∧ (∀ k, k ≠ b → W'.heap[k]? = W.heap[k]?) ∧ W'.heap[b]? = some o')
    (h : K v (upd H b o')) : HRun P base s H K := fun W hs hb' => by
  obtain ⟨W', h1, h2, h3, h4, h5, h6, h7⟩ := hr W hs
  refine ⟨v, W', _, h1, h, ⟨h2, h3, h4, by omega, fun k hk hn => h6 k (fun e => ?_), fun k o hk => ?_, fun k hk hn => ?_⟩⟩
  · subst e
    rcases hn with hn | hn
    · omega
    · rw [hb] at hn; cases hn
  · by_cases e : k = b
    · subst e; rw [upd_self] at hk; cases hk; exact h7
    · rw [upd_ne _ e] at hk; rw [h6 k e]; exact hs k o hk
  · rw [upd_ne _ (fun e => by subst e; rw [hb] at hn; cases hn)]; exact hn
theorem run_objM {P : Program} {b : Nat} {es : Array MapEntry} {c : Nat} {W : World} (h : W.heap[b]? = some (.map es c)) : (getObj b).run P W = .ok (.map es c) W := by simp [getObj, Sem.run, h]
theorem run_setobjM {P : Program} {b : Nat} {es : Array MapEntry} {c : Nat} {o : Obj} {W : World} (h : W.heap[b]? = some (.map es c)) : (setObj b o).run P W = .ok () { W with heap := W.heap.setIfInBounds b o } := by simp [setObj, Sem.run, h]
abbrev tKey : Nat := 82
abbrev tMet : Nat := 80
theorem unMet : Tryd.prog.underlying tMet = some (.map tKey 3) := by kernel_rfl
def kv (x : Key) : List Value := [.int .i64 x.kind, .int .i64 x.a, .int .i64 x.b, .int .u64 x.k]
theorem eq_key (g g' : Key) (W : World) : (Op.equalIn (9999 + 1) tKey (.agg (kv g).toArray) (.agg (kv g').toArray)).run Tryd.prog W = .ok (g.kind == g'.kind && (g.a == g'.a && (g.b == g'.b && g.k == g'.k))) W := by
  refine eqA_of Tryd.underlying82 (by kernel_rfl) ?_
  refine eqf_cons rfl (a := .int .i64 g.kind) (b := .int .i64 g'.kind) (by kernel_rfl) (by kernel_rfl) (run_equalIn_int _ _ _ _ .i64 _ _ (by kernel_rfl)) ?_
  refine eqf_cons rfl (a := .int .i64 g.a) (b := .int .i64 g'.a) (by kernel_rfl) (by kernel_rfl) (run_equalIn_int _ _ _ _ .i64 _ _ (by kernel_rfl)) ?_
  refine eqf_cons rfl (a := .int .i64 g.b) (b := .int .i64 g'.b) (by kernel_rfl) (by kernel_rfl) (run_equalIn_int _ _ _ _ .i64 _ _ (by kernel_rfl)) ?_
  exact eqf_last rfl (a := .int .u64 g.k) (b := .int .u64 g'.k) (by kernel_rfl) (by kernel_rfl) (run_equalIn_int _ _ _ _ .u64 _ _ (by kernel_rfl))
theorem key_eq (g g' : Key) : (g.kind == g'.kind && (g.a == g'.a && (g.b == g'.b && g.k == g'.k))) = decide (g = g') := by
  obtain ⟨a, b, c, d⟩ := g
  obtain ⟨a', b', c', d'⟩ := g'
  simp only [Key.mk.injEq, Bool.decide_and]
  rfl
theorem run_eqkey (g g' : Key) (W : World) : (Op.equal tKey (.agg (kv g).toArray) (.agg (kv g').toArray)).run Tryd.prog W = .ok (decide (g = g')) W := by
  have := eq_key g g' W
  rw [key_eq] at this
  exact this
theorem run_ckey (e : Bool) (x : Key) (W : World) : (Instr.checkKey e 10000 tKey (.agg (kv x).toArray)).run Tryd.prog W = .ok () W := by
  cases e <;> kernel_rfl
/-- What a search finds. -/
def look (ml : List (Key × Nat)) (x : Key) : Option Nat := (ml.find? fun e => decide (x = e.1)).map (·.2)
def ents (ml : List (Key × Nat)) : List (Value × Value) := ml.map fun e => (Value.agg (kv e.1).toArray, Value.int .i64 (e.2 : Int))
theorem run_asking (x : Key) (W : World) : ∀ (es : List MapEntry) (ml : List (Key × Nat)) (i : Nat), es.map (fun e => (e.key, e.val)) = ents ml → ∃ r, (Instr.findAsking tKey (.agg (kv x).toArray) es i).run Tryd.prog W = .ok r W ∧ r.map (·.2) = (look ml x).map fun (k : Nat) => Value.int .i64 (k : Int)
  | [], [], i, _ => ⟨none, rfl, rfl⟩
  | [], y :: ys, i, h => by simp [ents] at h
  | e :: es, [], i, h => by simp [ents] at h
  | e :: es, y :: ys, i, h => by
    unfold ents at h
    simp only [List.map_cons, List.cons.injEq, Prod.mk.injEq] at h
    obtain ⟨⟨h1, h2⟩, h3⟩ := h
    obtain ⟨r, ih1, ih2⟩ := run_asking x W es ys (i + 1) h3
    unfold Instr.findAsking
    rw [h1]
    by_cases hxy : x = y.1
    · refine ⟨some (i, e.val), ?_, ?_⟩
      · simp [run_eqkey, hxy]
      · unfold look
        rw [List.find?_cons, decide_eq_true hxy, h2]; rfl
    · refine ⟨r, ?_, ?_⟩
      · simp [run_eqkey, hxy, ih1]
      · rw [ih2]
        unfold look
        rw [List.find?_cons, decide_eq_false hxy]
theorem run_findK (x : Key) (W : World) (es : List MapEntry) (ml : List (Key × Nat)) (h : es.map (fun e => (e.key, e.val)) = ents ml) : ∃ r, (Instr.findKey tKey (.agg (kv x).toArray) es).run Tryd.prog W = .ok r W ∧ r.map (·.2) = (look ml x).map fun (k : Nat) => Value.int .i64 (k : Int) := by
  unfold Instr.findKey
  match es, ml, h with
  | [], [], _ => exact ⟨none, by simp [run_under Tryd.underlying82, Instr.findNow], rfl⟩
  | [], y :: ys, h => simp [ents] at h
  | e :: es, [], h => simp [ents] at h
  | e :: es, y :: ys, h =>
    obtain ⟨r, h1, h2⟩ := run_asking x W (e :: es) (y :: ys) 0 h
    refine ⟨r, ?_, h2⟩
    simp [run_under Tryd.underlying82, Instr.findNow, Instr.sameNow, h1]
def MapK (H : HH) (b : Nat) (ml : List (Key × Nat)) : Prop := ∃ (es : Array MapEntry) (clock : Nat), H b = some (.map es clock) ∧ es.toList.map (fun e => (e.key, e.val)) = ents ml
section
variable {base : Nat} {H : HH} {b : Nat} {ml : List (Key × Nat)}
theorem zeroInt : (Tryd.prog.info? 3).bind (·.zero) = some (.int .i64 0) := by kernel_rfl
theorem MapK.look (h : MapK H b ml) (x : Key) : QRun Tryd.prog (Instr.lookup tMet (.map (some b)) (.agg (kv x).toArray) true) H (.tuple #[.int .i64 (((HL.look ml x).getD 0 : Nat) : Int), .bool (HL.look ml x).isSome]) := fun W hs => by
  obtain ⟨es, clock, h1, h2⟩ := h
  obtain ⟨r, hr1, hr2⟩ := run_findK x W es.toList ml h2
  have hg := run_objM (P := Tryd.prog) (hs _ _ h1)
  obtain ⟨i, hi, hz⟩ := Option.bind_eq_some_iff.1 zeroInt
  unfold Instr.lookup
  cases hl : HL.look ml x with
  | none =>
    rw [hl] at hr2
    cases r with
    | none => simp [run_under unMet, hg, run_ckey, hr1, zeroValue, run_ti hi, hz]
    | some q => cases hr2
  | some k =>
    rw [hl] at hr2
    cases r with
    | none => cases hr2
    | some q =>
      obtain ⟨q1, q2⟩ := q
      have e : q2 = .int .i64 (k : Int) := by simpa using hr2
      subst e
      simp [run_under unMet, hg, run_ckey, hr1]
theorem MapK.add (h : MapK H b ml) (hbase : base ≤ b) {x : Key} (hx : HL.look ml x = none) (k : Nat) {K : Unit → HH → Prop} (hk : ∀ H', MapK H' b (ml ++ [(x, k)]) → (∀ k, k ≠ b → H' k = H k) → K () H') : HRun Tryd.prog base (Instr.mapUpdate tMet (.map (some b)) (.agg (kv x).toArray) (.int .i64 (k : Int))) H K := by
  obtain ⟨es, clock, h1, h2⟩ := h
  refine h_doM (o' := .map (es.push { key := .agg (kv x).toArray, val := .int .i64 (k : Int), born := clock }) (clock + 1)) h1 hbase (fun W hs => ⟨{ W with heap := W.heap.setIfInBounds b (.map (es.push { key := .agg (kv x).toArray, val := .int .i64 (k : Int), born := clock }) (clock + 1)) }, ?_, rfl, rfl, rfl, ?_, ?_, ?_⟩) (hk _ ⟨_, _, upd_self _ _ _, ?_⟩ (fun k hk => upd_ne _ hk))
  · have hg := run_objM (P := Tryd.prog) (hs _ _ h1)
    obtain ⟨r, hr1, hr2⟩ := run_findK x W es.toList ml h2
    rw [hx] at hr2
    cases r with
    | some q => cases hr2
    | none =>
      unfold Instr.mapUpdate
      simp [run_under unMet, hg, run_ckey, hr1, run_setobjM (hs _ _ h1)]
  · simp
  · intro k hk
    rw [Array.getElem?_setIfInBounds, if_neg (fun e => hk e.symm)]
  · have := (Array.getElem?_eq_some_iff.1 (hs _ _ h1)).1
    rw [Array.getElem?_setIfInBounds, if_pos rfl, if_pos this]
  · simp [h2, ents]
theorem h_mkMet {K : Value → HH → Prop} (hk : ∀ b H', base ≤ b → H b = none → Ext H H' → MapK H' b [] → K (.map (some b)) H') : HRun Tryd.prog base (Instr.makeMap tMet none) H K :=
  h_new (o := .map #[] 0) (f := fun b => .map (some b)) (fun W => rfl) (fun b hb hbase => hk b _ hbase hb (Ext.upd hb _) ⟨_, _, upd_self _ _ _, rfl⟩)
end
end Go.Proofs.YtjpaichcaaacbaaDoor.HL
end
section
set_option linter.unusedVariables false
set_option linter.unusedSimpArgs false
set_option linter.unusedSectionVars false
set_option maxHeartbeats 8000000
namespace Go.Proofs.YtjpaichcaaacbaaDoor.HL
open Go Go.Proofs.YtjpaichcaaacbaaDoorNum Go.Proofs.YtjpaichcaaacbaaDoor.FEv
theorem fL_snoc (gs : List Gate) (i : Nat) : fL gs (i + 1) = fL gs i ++ [fN gs i] := by
  have e : fN gs i = repG gs (fun k => (fL gs i).getD k 0) i := by unfold fN; rw [fL]; exact getD_app_len (fL_len gs i).symm
  rw [fL, e]
theorem look_snoc (ml : List (Key × Nat)) (x y : Key) (k : Nat) : look (ml ++ [(x, k)]) y = (look ml y).or (if y = x then some k else none) := by
  unfold look
  rw [List.find?_append, List.find?_singleton]
  by_cases e : y = x
  · rw [if_pos e, if_pos (decide_eq_true e)]
    cases ml.find? (fun e => decide (y = e.1)) <;> rfl
  · rw [if_neg e, if_neg (fun h => e (of_decide_eq_true h))]
    cases ml.find? (fun e => decide (y = e.1)) <;> rfl
theorem info82 : (Tryd.prog.info? tKey).map (·.size) = some 4 := by kernel_rfl
theorem fk (b j : Nat) (h : j < 4) : AQ Tryd.prog (Instr.fieldAt tKey (.pointer (some ⟨b, 0, none⟩)) j) (.pointer (some ⟨b, j, none⟩)) := by
  match j, h with
  | 0, _ => have := aq_fld (P := Tryd.prog) (s := tKey) (f := 0) (off := 0) (sz := 1) (by kernel_rfl) (by decide) ⟨b, 0, none⟩; rwa [add0] at this
  | 1, _ => have := aq_fld (P := Tryd.prog) (s := tKey) (f := 1) (off := 1) (sz := 1) (by kernel_rfl) (by decide) ⟨b, 0, none⟩; rwa [add0] at this
  | 2, _ => have := aq_fld (P := Tryd.prog) (s := tKey) (f := 2) (off := 2) (sz := 1) (by kernel_rfl) (by decide) ⟨b, 0, none⟩; rwa [add0] at this
  | 3, _ => have := aq_fld (P := Tryd.prog) (s := tKey) (f := 3) (off := 3) (sz := 1) (by kernel_rfl) (by decide) ⟨b, 0, none⟩; rwa [add0] at this
/-- The variable that holds a key. -/
structure KV (base : Nat) (F H : HH) (b : Nat) (x : Key) : Prop where
  ext : Ext F H
  new : F b = none
  own : base ≤ b
  at_ : H b = some (.cells (kv x).toArray tKey (0, 0))
section
variable {base : Nat} {F H H' : HH} {b : Nat} {x : Key} {K : Unit → HH → Prop}
theorem KV.qa (h : KV base F H b x) : QRun Tryd.prog (Instr.loadAt 3 (.pointer (some ⟨b, 1, none⟩))) H (.int .i64 x.a) := q_ld sc3 (by rw [cellH_blk h.at_]; rfl)
theorem KV.qb (h : KV base F H b x) : QRun Tryd.prog (Instr.loadAt 3 (.pointer (some ⟨b, 2, none⟩))) H (.int .i64 x.b) := q_ld sc3 (by rw [cellH_blk h.at_]; rfl)
theorem KV.all (h : KV base F H b x) : QRun Tryd.prog (Instr.loadAt tKey (.pointer (some ⟨b, 0, none⟩))) H (.agg #[.int .i64 x.kind, .int .i64 x.a, .int .i64 x.b, .int .u64 x.k]) :=
  q_lda (cs := kv x) (by kernel_rfl) info82 (fun j u hu => by
    rw [add0, cellH_blk h.at_, ← Array.getElem?_toList]
    exact hu)
theorem KV.sta (h : KV base F H b x) (v : Int) (hK : ∀ H', KV base F H' b ⟨x.kind, v, x.b, x.k⟩ → K () H') : HRun Tryd.prog base (Instr.storeAt 3 (.pointer (some ⟨b, 1, none⟩)) (.int .i64 v)) H K :=
  h_st info3 rfl h.at_ h.own (show 1 < 4 by decide) (hK _ ⟨ext_same h.ext h.new (fun k hk => upd_ne _ hk), h.new, h.own, upd_self _ _ _⟩)
theorem KV.stb (h : KV base F H b x) (v : Int) (hK : ∀ H', KV base F H' b ⟨x.kind, x.a, v, x.k⟩ → K () H') : HRun Tryd.prog base (Instr.storeAt 3 (.pointer (some ⟨b, 2, none⟩)) (.int .i64 v)) H K :=
  h_st info3 rfl h.at_ h.own (show 2 < 4 by decide) (hK _ ⟨ext_same h.ext h.new (fun k hk => upd_ne _ hk), h.new, h.own, upd_self _ _ _⟩)
theorem h_kvar {old : Value} {C : Addr → HH → Prop} (hk : ∀ b H', KV base H H' b x → C ⟨b, 0, none⟩ H') :
    HRun Tryd.prog base (Instr.alloc tKey true old) H fun v H1 => ∃ a : Addr, v = .pointer (some a) ∧ HRun Tryd.prog base (Instr.storeAt tKey (.pointer (some a)) (.agg #[.int .i64 x.kind, .int .i64 x.a, .int .i64 x.b, .int .u64 x.k])) H1 fun _ H2 => C a H2 :=
  h_var (vs := kv x) (z := .agg (kv ⟨0, 0, 0, 0⟩).toArray) (by kernel_rfl) rfl info82 rfl (fun b H' he hbase hn hb => hk _ H' ⟨he, hn, hbase, hb⟩)
theorem MapK.ext {ml : List (Key × Nat)} (h : MapK H b ml) (X : Ext H H') : MapK H' b ml := by
  obtain ⟨es, cl, h1, h2⟩ := h
  exact ⟨es, cl, X _ _ h1, h2⟩
end
theorem OwnZ.nil' {base : Nat} {F H : HH} (X : Ext F H) : OwnZ base F H none 0 0 [] := ⟨Own.nil _ _ _ _, X, fun b hb => by simp [Value.ownBlock] at hb⟩
section
variable {base : Nat} {F H : HH} {K : Value → HH → Prop} {N0 : Value → Value → HH → Prop} {A Ao : Option Addr} {n c co mb : Nat} {gs : List Gate} {ml : List (Key × Nat)} {fr : Fr}
theorem fi_round (W : WF gs) (hg : Gs F A n gs) (hz : gs.length ≤ 100000) {i : Nat} (hi : i < gs.length) (M : MapK H mb ml) (hml : ∀ x, look ml x = met gs i x) (o : OwnZ base F H Ao i co (zs (fL gs i))) (hmb : base ≤ mb) (hF : F mb = none)
    (hN : ∀ A' c' H' ml', MapK H' mb ml' → (∀ x, look ml' x = met gs (i + 1) x) → OwnZ base F H' A' (i + 1) c' (zs (fL gs (i + 1))) → N0 (.slice A' (i + 1) c') (.int .i64 (IntKind.i64.wrap ((i : Int) + 1))) H') :
    optimize_firsts.B0 base (some mb) A gs.length c gs.length Ao i co i fr N0 H K := by
  unfold optimize_firsts.B0
  obtain rfl := hg.1
  rw [if_pos (decide_eq_true (by omega))]
  obtain ⟨a, q1, q2⟩ := (hg.ext o.ext).at c hi
  refine ⟨a, q1, _, _, _, _, _, q2.all, h_gvar (fun ad H1 X1 ga => ⟨_, fg0 ad, _, ga.kind, ?_⟩)⟩
  have M1 := M.ext X1
  have o1 := o.more X1
  have hsn := fL_snoc gs i
  have mapNe : ∀ {H' : HH} {ml' : List (Key × Nat)} {A' : Option Addr} {n' c' : Nat} {l : List Int}, MapK H' mb ml' → OwnZ base F H' A' n' c' l → (Value.slice A' n' c').ownBlock ≠ some mb := fun M' o' e => by
    obtain ⟨es, cl, h1, _⟩ := M'
    obtain ⟨_, cu, hc⟩ := o'.1.known e
    rw [h1] at hc; cases hc
  have push : ∀ {H' : HH} {ml' : List (Key × Nat)}, MapK H' mb ml' → (∀ x, look ml' x = met gs (i + 1) x) → OwnZ base F H' Ao i co (zs (fL gs i)) → HRun Tryd.prog base (Instr.buildSlice tInts 1 #[(0, .int .i64 (fN gs i : Int))]) H' fun v1 H1 => ∃ (A1 : Option Addr) (l1 c1 : Nat), v1 = .slice A1 l1 c1 ∧ HRun Tryd.prog base (Builtin.append_ #[tInts, tInts] tInts #[.slice Ao i co, .slice A1 l1 c1]) H1 fun v2 H2 => ∃ (A' : Option Addr) (l' c' : Nat), v2 = .slice A' l' c' ∧ N0 (.slice A' l' c') (.int .i64 (IntKind.i64.wrap ((i : Int) + 1))) H2 := fun {H'} {ml'} M' hm o' =>
    o'.push (by omega) _ (fun A2 c2 H2 o2 g2 => hN A2 c2 H2 ml' (by
      obtain ⟨es, cl, h1, h2⟩ := M'
      exact ⟨es, cl, g2.keep _ _ (mapNe ⟨es, cl, h1, h2⟩ o') h1, h2⟩) hm (by rw [hsn, zs_snoc]; exact o2))
  by_cases k1 : (gs.getD i gate0).kind = 1
  · rw [if_pos (by simpa using k1)]
    have e := fN_in W hi k1
    have := push M1 (fun x => by
      rw [met_succ W, hml]
      unfold isKey
      rw [show ((gs.getD i gate0).kind != 1) = false by rw [k1]; rfl, Bool.false_and]
      cases met gs i x <;> rfl) o1
    rw [e] at this
    exact this
  rw [if_neg (by simpa using k1)]
  obtain ⟨wa, wb⟩ := W i hi
  obtain ⟨g, hgd⟩ : ∃ g, g = gs.getD i gate0 := ⟨_, rfl⟩
  rw [← hgd] at ga wa wb k1
  refine ⟨_, fg0 ad, _, ga.kind, _, fg4 ad, _, ga.k, _, _, _, _, (show AQ Tryd.prog (Instr.build tKey #[(0, .int .i64 g.kind), (3, .int .u64 g.k)]) (.agg #[.int .i64 g.kind, .int .i64 0, .int .i64 0, .int .u64 g.k]) from fun W => by kernel_rfl), ?_⟩
  refine h_kvar (x := ⟨g.kind, 0, 0, g.k⟩) (fun kb H2 kx => ⟨_, fg0 ad, _, (ga.ext kx.ext).kind, h_sides g.kind ⟨_, _, rfl, ?_⟩⟩)
  have rd : ∀ {H' : HH} {z : Int}, Ext H1 H' → 0 ≤ z → z < i → ∃ a, AQ Tryd.prog (Instr.indexAt tInts (.slice Ao i co) (.int .i64 z)) (.pointer (some a)) ∧ QRun Tryd.prog (Instr.loadAt 3 (.pointer (some a))) H' (.int .i64 (fN gs z.toNat : Int)) := fun X h0 h1 => by
    obtain ⟨a, u1, u2⟩ := (o1.row.ext X).ix co h0 h1
    rw [zs_get, fL_get gs (by omega)] at u2
    exact ⟨a, u1, u2⟩
  -- behind the key
  have s2 : ∀ {H' : HH}, KV base H1 H' kb (keyF (fN gs) g) → optimize_firsts.R2 base N0 [.map (some mb), .slice Ao i co, .int .i64 (i : Int), .pointer (some ⟨kb, 0, none⟩), .slice A gs.length c, .int .i64 ((gs.length : Nat) : Int), .int .i64 (i : Int)] H' K := fun {H'} kx => by
    refine optimize_firsts.cut2 ?_
    unfold optimize_firsts.T2 optimize_firsts.S2
    have M' := M1.ext kx.ext
    have o' := o1.more kx.ext
    refine ⟨_, _, _, _, kx.all, _, _, M'.look _, ?_⟩
    have hl := hml (keyF (fN gs) g)
    have ef := fN_eq W hi
    rw [← hgd, if_neg k1, ← hl] at ef
    have ik : ∀ y, isKey gs (fN gs) y i = decide (keyF (fN gs) g = y) := fun y => by
      unfold isKey
      rw [← hgd, show (g.kind != 1) = true from bne_iff_ne.2 k1, Bool.true_and]
    cases hlk : look ml (keyF (fN gs) g) with
    | none =>
      rw [hlk] at ef
      rw [if_pos (by rfl)]
      refine ⟨_, _, _, _, kx.all, M'.add hmb hlk i (fun H3 M3 s3 => ?_)⟩
      refine optimize_firsts.cut3 ?_
      unfold optimize_firsts.T3 optimize_firsts.S3
      have o3 : OwnZ base F H3 Ao i co (zs (fL gs i)) := ⟨o'.1.move (fun g o hg ho => by rw [s3 g (fun e => mapNe M' o' (by rw [hg, e]))]; exact ho), ext_same o'.ext hF s3, o'.2.off⟩
      have := push M3 (fun y => by
        rw [look_snoc, met_succ W, hml, ik]
        by_cases e : y = keyF (fN gs) g
        · rw [if_pos e, if_pos (decide_eq_true e.symm)]
        · rw [if_neg e, if_neg (fun h => e (of_decide_eq_true h).symm)]) o3
      rw [show fN gs i = i from ef] at this
      exact this
    | some t =>
      rw [hlk] at ef
      rw [if_neg (show ¬ ((!(some t).isSome) = true) from fun h => by cases h)]
      refine optimize_firsts.cut3 ?_
      unfold optimize_firsts.T3 optimize_firsts.S3
      have := push M' (fun y => by
        rw [met_succ W, hml, ik]
        by_cases e : keyF (fN gs) g = y
        · subst e
          rw [hl] at hlk
          rw [hlk]; rfl
        · rw [if_neg (fun h => e (of_decide_eq_true h))]
          cases met gs i y <;> rfl) o'
      rw [show fN gs i = t from ef] at this
      exact this
  have s1 : ∀ {H' : HH}, KV base H1 H' kb ⟨g.kind, if sA g.kind = true then (fN gs g.a.toNat : Int) else 0, if sB g.kind = true then (fN gs g.b.toNat : Int) else 0, g.k⟩ → optimize_firsts.R1 base N0 [.map (some mb), .slice Ao i co, .int .i64 (i : Int), .pointer (some ad), .pointer (some ⟨kb, 0, none⟩), .slice A gs.length c, .int .i64 ((gs.length : Nat) : Int), .int .i64 (i : Int)] H' K := fun {H'} kx => by
    refine optimize_firsts.cut1 ?_
    unfold optimize_firsts.T1 optimize_firsts.S1
    refine ⟨_, fg0 ad, _, (ga.ext kx.ext).kind, h_either g.kind ⟨_, rfl, ?_⟩⟩
    cases hc : cm g.kind with
    | false =>
      rw [if_neg (by decide)]
      refine s2 ?_
      unfold keyF
      rw [if_neg (fun h => by rw [hc] at h; cases h.1)]
      exact kx
    | true =>
      rw [if_pos rfl]
      have sb := cm_sB hc
      have sa := sB_sA sb
      rw [if_pos sa, if_pos sb] at kx
      refine ⟨_, fk kb 1 (by decide), _, kx.qa, _, fk kb 2 (by decide), _, kx.qb, ?_⟩
      by_cases hgt : (fN gs g.a.toNat : Int) > (fN gs g.b.toNat : Int)
      · rw [if_pos (decide_eq_true hgt)]
        refine ⟨_, fk kb 2 (by decide), _, kx.qb, _, fk kb 1 (by decide), _, kx.qa, _, fk kb 1 (by decide), kx.sta _ (fun H5 k5 => ⟨_, fk kb 2 (by decide), k5.stb _ (fun H6 k6 => s2 ?_)⟩)⟩
        unfold keyF
        rw [if_pos ⟨hc, hgt⟩]
        exact k6
      · rw [if_neg (fun h => hgt (of_decide_eq_true h))]
        refine s2 ?_
        unfold keyF
        rw [if_neg (fun h => hgt h.2), if_pos sa, if_pos sb]
        exact kx
  have s0 : ∀ {H' : HH}, KV base H1 H' kb ⟨g.kind, if sA g.kind = true then (fN gs g.a.toNat : Int) else 0, 0, g.k⟩ → optimize_firsts.R0 base N0 [.map (some mb), .slice Ao i co, .int .i64 (i : Int), .pointer (some ad), .pointer (some ⟨kb, 0, none⟩), .bool (sB g.kind), .slice A gs.length c, .int .i64 ((gs.length : Nat) : Int), .int .i64 (i : Int)] H' K := fun {H'} kx => by
    refine optimize_firsts.cut0 ?_
    unfold optimize_firsts.T0 optimize_firsts.S0
    by_cases sb : sB g.kind = true
    · rw [if_pos sb]
      obtain ⟨y0, y1⟩ := wb sb
      obtain ⟨a6, t3, t4⟩ := rd kx.ext y0 y1
      refine ⟨_, fg3 ad, _, (ga.ext kx.ext).sb, a6, t3, _, t4, _, fk kb 2 (by decide), kx.stb _ (fun H5 k5 => s1 ?_)⟩
      rw [if_pos sb]
      exact k5
    · rw [if_neg sb]
      refine s1 ?_
      rw [if_neg sb]
      exact kx
  by_cases sa : sA g.kind = true
  · rw [if_pos sa]
    obtain ⟨x0, x1⟩ := wa sa
    obtain ⟨a5, t1, t2⟩ := rd kx.ext x0 x1
    refine ⟨_, fg2 ad, _, (ga.ext kx.ext).sa, a5, t1, _, t2, _, fk kb 1 (by decide), kx.sta _ (fun H5 k5 => s0 ?_)⟩
    rw [if_pos sa]
    exact k5
  · rw [if_neg sa]
    refine s0 ?_
    rw [if_neg sa]
    exact kx
end
section
variable {base : Nat} {H : HH} {K : Value → HH → Prop} {A A' : Option Addr} {n n' c c' : Nat} {P : Int} {gs : List Gate}
theorem h_firsts (W : WF gs) (hg : Gs H A n gs) (hz : gs.length ≤ 100000) (hk : ∀ A1 c1 H', Ext H H' → Outs H' A1 gs.length (zs (fL gs gs.length)) → K (.slice A1 gs.length c1) H') : HCall Tryd.prog base 48 #[.agg #[.int .u64 P, .slice A n c, .slice A' n' c']] H K := by
  refine optimize_firsts.spec ?_
  unfold optimize_firsts.sh
  obtain rfl := hg.1
  refine h_cbox (fun xb H1 X1 cb => ⟨_, rfl, h_mkMet (fun mb H2 hmb hn X2 M => ⟨_, rfl, _, fc1 xb, _, _, _, (cb.ext X2).qgs, ?_⟩)⟩)
  refine optimize_firsts.loop0 (fun r A1 l1 c1 y H' => ∃ j : Nat, y = j ∧ j ≤ gs.length ∧ r = gs.length - j ∧ l1 = j ∧ ∃ ml, MapK H' mb ml ∧ (∀ x, look ml x = met gs j x) ∧ OwnZ base H1 H' A1 j c1 (zs (fL gs j))) gs.length ⟨0, rfl, Nat.zero_le _, rfl, rfl, [], M, fun x => rfl, OwnZ.nil' X2⟩ ?_
  rintro r A1 l1 c1 y fr H3 ⟨j, rfl, hj, rfl, rfl, ml, M3, hml, o3⟩
  by_cases hlt : l1 < gs.length
  · refine fi_round W (hg.ext X1) hz hlt M3 hml o3 hmb hn (fun A4 c4 H4 ml' M4 hm4 o4 => ?_)
    exact ⟨gs.length - l1 - 1, by omega, _, _, _, _, rfl, rfl, l1 + 1, nxt (n := 1000000) (by omega) (by decide), by omega, by omega, rfl, ml', M4, hm4, o4⟩
  · unfold optimize_firsts.B0
    rw [if_neg (fun h => hlt (by have := of_decide_eq_true h; omega))]
    obtain rfl : l1 = gs.length := by omega
    exact hk _ _ _ (X1.trans o3.ext) o3.row
end
end Go.Proofs.YtjpaichcaaacbaaDoor.HL
end
section
set_option linter.unusedVariables false
set_option linter.unusedSimpArgs false
set_option linter.unusedSectionVars false
set_option maxHeartbeats 8000000
namespace Go.Proofs.YtjpaichcaaacbaaDoor.HL
open Go Go.Proofs.YtjpaichcaaacbaaDoorNum Go.Proofs.YtjpaichcaaacbaaDoor.FEv
section
variable {base : Nat} {F H H' : HH} {A : Option Addr} {n c : Nat} {l : List Int} {K : Unit → HH → Prop}
theorem OwnZ.put (o : OwnZ base F H A n c l) {j : Nat} (hj : j < n) (x : Int) (hk : ∀ g cur H', (Value.slice A n c).ownBlock = some g → H g = some (.cells cur 3 (0, 0)) → F g = none → OwnZ base F H' A n c (l.set j x) → (∀ k, k ≠ g → H' k = H k) → K () H') :
    ∃ a, AQ Tryd.prog (Instr.indexAt tInts (.slice A n c) (.int .i64 j)) (.pointer (some a)) ∧ HRun Tryd.prog base (Instr.storeAt 3 (.pointer (some a)) (.int .i64 x)) H K := by
  obtain ⟨g, cur, e1, hb, hg, hi, hc⟩ := Own.at o.1 hj
  subst e1
  have hn : F g = none := o.2.off g (by simp [Value.ownBlock])
  refine ⟨_, aq_own unInts info3 hj, h_st info3 rfl hg hb hi (hk g cur _ (by simp [Value.ownBlock]) hg hn ⟨?_, ext_same o.ext hn (fun k hk => upd_ne _ hk), o.2.off⟩ (fun k hk => upd_ne _ hk))⟩
  have := Own.put o.1 (by simp [Value.ownBlock]) hg j (.int .i64 x)
  rwa [show (is l).set j (.int .i64 x) = is (l.set j x) by simp [is, List.map_set]] at this
/-- A block changes that is not its own. -/
theorem OwnZ.same (o : OwnZ base F H A n c l) {g : Nat} (hF : F g = none) (hne : (Value.slice A n c).ownBlock ≠ some g) (s : ∀ k, k ≠ g → H' k = H k) : OwnZ base F H' A n c l :=
  ⟨o.1.move (fun k x hk hx => by rw [s k (fun e => hne (by rw [hk, e]))]; exact hx), ext_same o.ext hF s, o.2.off⟩
theorem OwnZ.tag (o : OwnZ base F H A n c l) {g : Nat} (hg : (Value.slice A n c).ownBlock = some g) : ∃ cur, H g = some (.cells cur 3 (0, 0)) := (o.1.known hg).2
theorem Rl.same {gs : List Gate} (o : Rl base F H A n c gs) {g : Nat} (hF : F g = none) (hne : (Value.slice A n c).ownBlock ≠ some g) (s : ∀ k, k ≠ g → H' k = H k) : Rl base F H' A n c gs :=
  ⟨ext_same o.ext hF s, o.own.move (fun k x hk hx => by rw [s k (fun e => hne (by rw [hk, e]))]; exact hx), o.off⟩
theorem Rl.tag {gs : List Gate} (o : Rl base F H A n c gs) {g : Nat} (hg : (Value.slice A n c).ownBlock = some g) : ∃ cur, H g = some (.cells cur tGate (0, 0)) := (o.own.known hg).2
theorem Rl.more {gs : List Gate} (o : Rl base F H A n c gs) (X : Ext H H') : Rl base F H' A n c gs := ⟨o.ext.trans X, o.own.ext X, o.off⟩
end
/-- The new circuit's box, its gates, the certificate's row. -/
structure S3 (base : Nat) (F H : HH) (ob : Nat) (P : Int) (Ag : Option Addr) (ng cg : Nat) (Ac : Option Addr) (n cc : Nat) (tl : List Int) (og : List Gate) : Prop where
  obF : F ob = none
  obB : base ≤ ob
  cb : CB H ob P Ag ng cg none 0 0
  ct : OwnZ base F H Ac n cc tl
  rl : Rl base F H Ag ng cg og
section
variable {base : Nat} {F H H' : HH} {ob : Nat} {P : Int} {Ag Ac : Option Addr} {ng cg n cc : Nat} {tl : List Int} {og : List Gate}
theorem S3.ext (h : S3 base F H ob P Ag ng cg Ac n cc tl og) : Ext F H := h.ct.ext
theorem S3.more (h : S3 base F H ob P Ag ng cg Ac n cc tl og) (X : Ext H H') : S3 base F H' ob P Ag ng cg Ac n cc tl og := ⟨h.obF, h.obB, h.cb.ext X, h.ct.more X, h.rl.more X⟩
theorem S3.ctob (h : S3 base F H ob P Ag ng cg Ac n cc tl og) : (Value.slice Ac n cc).ownBlock ≠ some ob := fun e => by
  obtain ⟨cu, hc⟩ := h.ct.tag e
  have := h.cb
  unfold CB at this
  rw [this] at hc
  exact absurd (cells_tag hc) (by decide)
theorem S3.rlob (h : S3 base F H ob P Ag ng cg Ac n cc tl og) : (Value.slice Ag ng cg).ownBlock ≠ some ob := fun e => by
  obtain ⟨cu, hc⟩ := h.rl.tag e
  have := h.cb
  unfold CB at this
  rw [this] at hc
  exact absurd (cells_tag hc) (by decide)
theorem S3.ctrl (h : S3 base F H ob P Ag ng cg Ac n cc tl og) {g : Nat} (h1 : (Value.slice Ac n cc).ownBlock = some g) : (Value.slice Ag ng cg).ownBlock ≠ some g := fun e => by
  obtain ⟨cu, hc⟩ := h.ct.tag h1
  obtain ⟨cu', hc'⟩ := h.rl.tag e
  rw [hc] at hc'
  exact absurd (cells_tag hc') (by decide)
/-- A block changes that is none of them. -/
theorem S3.same (h : S3 base F H ob P Ag ng cg Ac n cc tl og) {g : Nat} (hF : F g = none) (h1 : g ≠ ob) (h2 : (Value.slice Ac n cc).ownBlock ≠ some g) (h3 : (Value.slice Ag ng cg).ownBlock ≠ some g) (s : ∀ k, k ≠ g → H' k = H k) : S3 base F H' ob P Ag ng cg Ac n cc tl og :=
  ⟨h.obF, h.obB, by have := h.cb; unfold CB at this ⊢; rw [s ob (fun e => h1 e.symm)]; exact this, h.ct.same hF h2 s, h.rl.same hF h3 s⟩
theorem S3.putc (h : S3 base F H ob P Ag ng cg Ac n cc tl og) {j : Nat} (hj : j < n) (x : Int) {K : Unit → HH → Prop} (hk : ∀ g cur H', H g = some (.cells cur 3 (0, 0)) → S3 base F H' ob P Ag ng cg Ac n cc (tl.set j x) og → (∀ k, k ≠ g → H' k = H k) → K () H') :
    ∃ a, AQ Tryd.prog (Instr.indexAt tInts (.slice Ac n cc) (.int .i64 j)) (.pointer (some a)) ∧ HRun Tryd.prog base (Instr.storeAt 3 (.pointer (some a)) (.int .i64 x)) H K :=
  h.ct.put hj x (fun g cur H' hg1 hg hF o s => hk g cur H' hg ⟨h.obF, h.obB, by
    have := h.cb
    unfold CB at this ⊢
    rw [s ob (fun e => h.ctob (by rw [hg1, e]))]; exact this, o, h.rl.same hF (h.ctrl hg1) s⟩ s)
/-- A gate is added. -/
theorem S3.addg (h : S3 base F H ob P Ag ng cg Ac n cc tl og) (hl : ng ≤ 100000) (g : Gate) {K : Unit → HH → Prop} {ty : Nat} (hk : ∀ A' c' H', S3 base F H' ob P A' (ng + 1) c' Ac n cc tl (og ++ [g]) → K () H') :
    HRun Tryd.prog base (Instr.buildSlice tGates 1 #[(0, .agg (gv g).toArray)]) H fun v1 H1 => ∃ (A1 : Option Addr) (l1 c1 : Nat), v1 = .slice A1 l1 c1 ∧ HRun Tryd.prog base (Builtin.append_ #[tGates, tGates] ty #[.slice Ag ng cg, .slice A1 l1 c1]) H1 fun v2 H2 => ∃ (A2 : Option Addr) (l2 c2 : Nat), v2 = .slice A2 l2 c2 ∧
      ∃ a, AQ Tryd.prog (Instr.fieldAt tC (.pointer (some ⟨ob, 0, none⟩)) 1) (.pointer (some a)) ∧ HRun Tryd.prog base (Instr.storeAt tGates (.pointer (some a)) (.slice A2 l2 c2)) H2 K := by
  have hfill : Instr.fill (fun i => some (i * 5, 5)) (madeCells (Value.agg (gv gate0).toArray).cells (1 * 5)) [(0, .agg (gv g).toArray)] = some (gv g).toArray := by kernel_rfl
  refine h_lit (sz := 5) (z := .agg (gv gate0).toArray) (cs := (gv g).toArray) unGates (by kernel_rfl) (by decide) hfill (by decide) (fun gb hgb hbase => ⟨_, _, _, rfl, ?_⟩)
  have X1 : Ext H (upd H gb (.cells (gv g).toArray tGate)) := Ext.upd hgb _
  have h1 := h.more X1
  have hrd : Rd (upd H gb (.cells (gv g).toArray tGate)) (some ⟨gb, 0, none⟩) (gv g) := .inr ⟨_, rfl, fun i u hu => by
    rw [add0, cellH_blk (upd_self _ _ _), ← Array.getElem?_toList]; exact hu⟩
  generalize upd H gb (.cells (gv g).toArray tGate) = H1 at X1 h1 hrd ⊢
  refine h_app (m := 1) (ys := gv g) (z := .agg (gv gate0).toArray) unGates aq_gate0 rfl (by decide) h1.rl.own hrd rfl (fun u hu => gv_one hu) (fun e => by cases e) (by omega) (by decide) (fun A2 c2 H2 ho gr => ⟨_, _, _, rfl, _, fc1 ob, ?_⟩)
  have hfr : Frz F H1 (.slice Ag ng cg) := ⟨h1.ext, h1.rl.off⟩
  have hfr2 := hfr.grow gr
  have cb2 : CB H2 ob P Ag ng cg none 0 0 := gr.keep ob _ h1.rlob h1.cb
  have ct2 : OwnZ base F H2 Ac n cc tl := ⟨h1.ct.1.move (fun k x hk hx => gr.keep k x (fun e => h1.ctrl hk e) hx), hfr2.ext, h1.ct.2.off⟩
  refine cb_gates cb2 h.obB (fun H3 cb3 s3 => hk A2 c2 H3 ⟨h.obF, h.obB, cb3, ct2.same h.obF (fun e => ?_) s3, ⟨ext_same hfr2.ext h.obF s3, ?_, hfr2.off⟩⟩)
  · obtain ⟨cu, hc⟩ := ct2.tag e
    unfold CB at cb2
    rw [cb2] at hc
    exact absurd (cells_tag hc) (by decide)
  · have ho' : Own base H2 tGate 5 (.slice A2 (ng + 1) c2) (ng + 1) (gc (og ++ [g])) := by
      have : gc (og ++ [g]) = gc og ++ gv g := by simp [gc]
      rw [this]; exact ho
    refine ho'.move (fun k x hkx hx => by
      have hne : k ≠ ob := fun e => by
        obtain ⟨_, cu, hc⟩ := ho'.known hkx
        unfold CB at cb2
        rw [e, cb2] at hc
        exact absurd (cells_tag hc) (by decide)
      rw [s3 k hne]
      exact hx)
end
/-- A gate's own variable: a field changes. -/
theorem gb_set {base : Nat} {H : HH} {b j : Nat} {g g' : Gate} {v : Int} {K : Unit → HH → Prop} (hb : H b = some (.cells (gv g).toArray tGate (0, 0))) (hbase : base ≤ b) (hj : j < 5) (he : (gv g).toArray.setIfInBounds j (.int .i64 v) = (gv g').toArray)
    (hk : ∀ H', H' b = some (.cells (gv g').toArray tGate (0, 0)) → (∀ k, k ≠ b → H' k = H k) → K () H') : HRun Tryd.prog base (Instr.storeAt 3 (.pointer (some ⟨b, j, none⟩)) (.int .i64 v)) H K :=
  h_st info3 rfl hb hbase (by show j < (gv g).toArray.size; exact hj) (by rw [he]; exact hk _ (upd_self _ _ _) (fun k hk => upd_ne _ hk))
section
variable {base : Nat} {F H : HH} {K : Value → HH → Prop} {N1 : Value → HH → Prop} {A A' Af : Option Addr} {n' c c' cf' nb xb : Nat} {P : Int} {gs : List Gate} {outs : List Int} {nd : Nat → Bool} {x2 x3 : Addr} {fr : Fr}
theorem onB_self (nd : Nat → Bool) (j : Nat) : onB nd j j = true := by simp [onB]
theorem onB_ne (nd : Nat → Bool) {j t : Nat} (h : t ≠ j) : onB nd j t = nd t := by
  unfold onB
  rw [show (t == j) = false by simpa using h, Bool.false_or]
/-- Something more is needed. -/
theorem bb_on {m j : Nat} (h : BB base H nb m nd) (hj : j < m) (hF : F nb = none) (X : Ext F H) {K : Unit → HH → Prop} (hk : ∀ H', Ext F H' → BB base H' nb m (onB nd j) → (∀ k, k ≠ nb → H' k = H k) → K () H') : HRun Tryd.prog base (Instr.storeAt 4 (.pointer (some ⟨nb, j, none⟩)) (.bool true)) H K :=
  h.put hj true (onB_self nd j) (fun k _ hne => onB_ne nd hne) (fun H' h' s => hk H' (ext_same X hF s) h' s)
/-- A round of the search backwards. -/
theorem nd_round (W : WF gs) (hg : Gs F A gs.length gs) (cb : CB F xb P A gs.length c A' n' c') (hz : gs.length ≤ 100000) {i : Nat} (hi : i < gs.length) (X : Ext F H) (hF : F nb = none) (rf : Outs F Af gs.length (zs (fL gs gs.length))) (bb : BB base H nb gs.length nd)
    (hN : ∀ H', Ext F H' → BB base H' nb gs.length (ndStep gs nd i) → N1 (.int .i64 (IntKind.i64.wrap ((i : Int) - 1))) H') :
    optimize_Optimize.B1 base ⟨xb, 0, none⟩ x2 x3 Af gs.length cf' (some ⟨nb, 0, none⟩) gs.length gs.length i fr N1 H K := by
  unfold optimize_Optimize.B1
  rw [if_pos (decide_eq_true (by omega))]
  obtain ⟨a, q1, q2⟩ := (hg.ext X).at c hi
  refine ⟨_, fc1 xb, _, _, _, (cb.ext X).qgs, a, q1, _, _, _, _, _, q2.all, h_bare (fun gb H1 B => ?_)⟩
  obtain ⟨wa, wb⟩ := W i hi
  have hN : ∀ H' nd', nd' = ndStep gs nd i → Ext F H' → BB base H' nb gs.length nd' → N1 (.int .i64 (IntKind.i64.wrap ((i : Int) - 1))) H' := fun H' nd' e X b => hN H' X (e ▸ b)
  unfold ndStep at hN
  dsimp only at hN
  obtain ⟨g, hgd⟩ : ∃ g, g = gs.getD i gate0 := ⟨_, rfl⟩
  rw [← hgd] at B wa wb hN
  obtain ⟨n1, hn1⟩ : ∃ n1, n1 = if g.kind = 1 then onB nd i else nd := ⟨_, rfl⟩
  rw [← hn1] at hN
  obtain ⟨n2, hn2⟩ : ∃ n2, n2 = if sA g.kind = true then onB n1 (fN gs g.a.toNat) else n1 := ⟨_, rfl⟩
  rw [← hn2] at hN
  have X1 := X.trans B.ext
  have bb1 := bb.ext B.ext
  have hgn : gb ≠ nb := fun e => by
    obtain ⟨_, cu, hc⟩ := bb1.blk
    have := B.at_
    rw [e, hc] at this
    exact absurd (cells_tag this) (by decide)
  have keep : ∀ {H' : HH}, (∀ k, k ≠ nb → H' k = H1 k) → GAt H' ⟨gb, 0, none⟩ g := fun s => gat_blk (by rw [s gb hgn]; exact B.at_)
  have rd : ∀ {H' : HH} {z : Int}, Ext F H' → 0 ≤ z → z < i → ∃ a, AQ Tryd.prog (Instr.indexAt tInts (.slice Af gs.length cf') (.int .i64 z)) (.pointer (some a)) ∧ QRun Tryd.prog (Instr.loadAt 3 (.pointer (some a))) H' (.int .i64 (fN gs z.toNat : Int)) := fun X h0 h1 => by
    obtain ⟨a, u1, u2⟩ := (rf.ext X).ix cf' h0 (by omega)
    rw [zs_get, fL_get gs (by omega)] at u2
    exact ⟨a, u1, u2⟩
  have s1 : ∀ (H' : HH), n1 i = true → Ext F H' → BB base H' nb gs.length n2 → GAt H' ⟨gb, 0, none⟩ g →
      optimize_Optimize.R1 base N1 [.pointer (some ⟨xb, 0, none⟩), .pointer (some x2), .pointer (some x3), .slice Af gs.length cf', .slice (some ⟨nb, 0, none⟩) gs.length gs.length, .int .i64 (i : Int), .pointer (some ⟨gb, 0, none⟩), .bool (sB g.kind)] H' K := fun H' e2 X' b' ga => by
    refine optimize_Optimize.cut1 ?_
    unfold optimize_Optimize.T1 optimize_Optimize.S1
    by_cases sb : sB g.kind = true
    · rw [if_pos sb]
      obtain ⟨y0, y1⟩ := wb sb
      obtain ⟨a6, t3, t4⟩ := rd X' y0 y1
      have hf := fN_le W (i := g.b.toNat) (by omega)
      have hj : fN gs g.b.toNat < gs.length := by omega
      refine ⟨_, fg3 _, _, ga.sb, a6, t3, _, t4, _, (b'.at hj).1, bb_on b' hj hF X' (fun H3 X3 b3 s3 => hN H3 _ ?_ X3 b3)⟩
      rw [if_neg (by rw [e2]; decide), if_pos sb]
    · rw [if_neg sb]
      refine hN H' n2 ?_ X' b'
      rw [if_neg (by rw [e2]; decide), if_neg sb]
  have s0 : ∀ (H' : HH), Ext F H' → BB base H' nb gs.length n1 → (∀ k, k ≠ nb → H' k = H1 k) →
      optimize_Optimize.R0 base N1 [.pointer (some ⟨xb, 0, none⟩), .pointer (some x2), .pointer (some x3), .slice Af gs.length cf', .slice (some ⟨nb, 0, none⟩) gs.length gs.length, .int .i64 (i : Int), .pointer (some ⟨gb, 0, none⟩)] H' K := fun H' X' b' s' => by
    refine optimize_Optimize.cut0 ?_
    unfold optimize_Optimize.T0 optimize_Optimize.S0
    refine ⟨_, (b'.at hi).1, _, (b'.at hi).2, ?_⟩
    have ga := keep s'
    cases e2 : n1 i with
    | false =>
      rw [if_pos (by decide)]
      refine hN H' n1 ?_ X' b'
      rw [if_pos e2]
    | true =>
      rw [if_neg (by decide)]
      refine ⟨_, fg0 _, _, ga.kind, h_sides g.kind ⟨_, _, rfl, ?_⟩⟩
      by_cases sa : sA g.kind = true
      · rw [if_pos sa]
        obtain ⟨x0, x1⟩ := wa sa
        obtain ⟨a5, t1, t2⟩ := rd X' x0 x1
        have hf := fN_le W (i := g.a.toNat) (by omega)
        have hj : fN gs g.a.toNat < gs.length := by omega
        refine ⟨_, fg2 _, _, ga.sa, a5, t1, _, t2, _, (b'.at hj).1, bb_on b' hj hF X' (fun H3 X3 b3 s3 => s1 H3 e2 X3 (by rw [hn2, if_pos sa]; exact b3) (keep (fun k hk => by rw [s3 k hk, s' k hk])))⟩
      · rw [if_neg sa]
        exact s1 H' e2 X' (by rw [hn2, if_neg sa]; exact b') ga
  refine ⟨_, fg0 _, _, B.gat.kind, ?_⟩
  by_cases k1 : g.kind = 1
  · rw [if_pos (by simpa using k1)]
    refine ⟨_, (bb1.at hi).1, bb_on bb1 hi hF X1 (fun H3 X3 b3 s3 => s0 H3 X3 (by rw [hn1, if_pos k1]; exact b3) s3)⟩
  · rw [if_neg (by simpa using k1)]
    exact s0 H1 X1 (by rw [hn1, if_neg k1]; exact bb1) (fun k _ => rfl)
end
end Go.Proofs.YtjpaichcaaacbaaDoor.HL
end
section
set_option linter.unusedVariables false
set_option linter.unusedSimpArgs false
set_option linter.unusedSectionVars false
set_option maxHeartbeats 8000000
namespace Go.Proofs.YtjpaichcaaacbaaDoor.HL
open Go Go.Proofs.YtjpaichcaaacbaaDoorNum Go.Proofs.YtjpaichcaaacbaaDoor.FEv
theorem set_pad {l : List Int} {i n : Nat} (hl : l.length = i) (hi : i < n) (x : Int) : (l ++ List.replicate (n - i) 0).set i x = (l ++ [x]) ++ List.replicate (n - (i + 1)) 0 := by
  rw [List.set_append_right _ _ (by omega), hl, Nat.sub_self, show n - i = (n - (i + 1)) + 1 by omega, List.replicate_succ, List.set_cons_zero, List.append_assoc]; rfl
theorem set_pad2 {l r : List Int} {i : Nat} (hl : l.length = i) (y x : Int) : ((l ++ [y]) ++ r).set i x = (l ++ [x]) ++ r := by
  rw [List.set_append_left _ _ (by rw [List.length_append, List.length_singleton]; omega), List.set_append_right _ _ (by omega), hl, Nat.sub_self]; rfl
theorem get_pad {l r : List Int} {i k : Nat} (hl : l.length = i) (hk : k < i) (y : Int) : ((l ++ [y]) ++ r).getD k 0 = l.getD k 0 := by
  rw [getD_app_lt (by rw [List.length_append]; omega), getD_app_lt (by omega)]
section
variable {base : Nat} {F H : HH} {K : Value → HH → Prop} {N2 : Value → HH → Prop} {A A' Af Ag Ac : Option Addr} {n' c c' cf' nb xb ob tb ng cg cc : Nat} {P : Int} {gs : List Gate} {outs : List Int} {nd : Nat → Bool} {x2 x3 : Addr} {fr : Fr}
theorem oc_round (W : WF gs) (hg : Gs F A gs.length gs) (cb : CB F xb P A gs.length c A' n' c') (hz : gs.length ≤ 100000) {i : Nat} (hi : i < gs.length) (rf : Outs F Af gs.length (zs (fL gs gs.length))) (bb : BB base F nb gs.length nd) (tk : TB F tb Ac gs.length cc)
    (S : S3 base F H ob P Ag ng cg Ac gs.length cc ((cL gs nd i).1 ++ List.replicate (gs.length - i) 0) (cL gs nd i).2)
    (hN : ∀ A1 n1 c1 H', S3 base F H' ob P A1 n1 c1 Ac gs.length cc ((cL gs nd (i + 1)).1 ++ List.replicate (gs.length - (i + 1)) 0) (cL gs nd (i + 1)).2 → N2 (.int .i64 (IntKind.i64.wrap ((i : Int) + 1))) H')
    (hng : (cL gs nd i).2.length ≤ i) :
    optimize_Optimize.B2 base ⟨xb, 0, none⟩ x2 x3 Af gs.length cf' (some ⟨nb, 0, none⟩) gs.length gs.length ⟨ob, 0, none⟩ ⟨tb, 0, none⟩ A gs.length c gs.length i fr N2 H K := by
  unfold optimize_Optimize.B2
  rw [if_pos (decide_eq_true (by omega))]
  obtain ⟨a, q1, q2⟩ := (hg.ext S.ext).at c hi
  have hl := cL_len gs nd i
  have hrl := S.rl.len
  have ec : cL gs nd (i + 1) = if nd (fN gs i) = false then ((cL gs nd i).1 ++ [-1], (cL gs nd i).2) else if fN gs i ≠ i then ((cL gs nd i).1 ++ [(cL gs nd i).1.getD (fN gs i) 0], (cL gs nd i).2) else ((cL gs nd i).1 ++ [((cL gs nd i).2.length : Int)], (cL gs nd i).2 ++ [mapG gs (cL gs nd i).1 (gs.getD i gate0)]) := rfl
  rw [ec] at hN
  generalize (cL gs nd i).1 = tl at *
  generalize (cL gs nd i).2 = og at *
  obtain ⟨wa, wb⟩ := W i hi
  obtain ⟨g, hgd⟩ : ∃ g, g = gs.getD i gate0 := ⟨_, rfl⟩
  rw [← hgd] at q2 wa wb hN
  refine ⟨a, q1, _, _, _, _, _, q2.all, h_bare (g := g) (fun gb H1 B => ?_)⟩
  have S1 := S.more B.ext
  have gF : F gb = none := S.ext.none B.new
  have g_ob : gb ≠ ob := fun e => by
    have h1 := B.new
    have h2 := S.cb
    unfold CB at h2
    rw [e, h2] at h1; cases h1
  have g_ct : (Value.slice Ac gs.length cc).ownBlock ≠ some gb := fun e => by
    obtain ⟨cu, hc⟩ := S.ct.tag e
    rw [B.new] at hc; cases hc
  have g_rl : (Value.slice Ag ng cg).ownBlock ≠ some gb := fun e => by
    obtain ⟨cu, hc⟩ := S.rl.tag e
    rw [B.new] at hc; cases hc
  have gkeep : ∀ {H' H2 : HH} {g0 : Nat} {cur : Array Value} {g' : Gate}, H2 gb = some (.cells (gv g').toArray tGate (0, 0)) → H2 g0 = some (.cells cur 3 (0, 0)) → (∀ k, k ≠ g0 → H' k = H2 k) → H' gb = some (.cells (gv g').toArray tGate (0, 0)) := fun h1 h2 s => by
    rw [s gb (fun e => by rw [e, h2] at h1; exact absurd (cells_tag h1) (by decide))]; exact h1
  refine ⟨_, ft0 tb, _, _, _, (tk.ext S1.ext).to, S1.putc hi (-1) (fun g0 cur H2 hg0 S2 s2 => ?_)⟩
  rw [set_pad hl hi] at S2
  have B2 := gkeep B.at_ hg0 s2
  have hfi := fN_le W hi
  have rd : ∀ {H' : HH} {z : Int}, Ext F H' → 0 ≤ z → z < (i : Int) + 1 → ∃ a, AQ Tryd.prog (Instr.indexAt tInts (.slice Af gs.length cf') (.int .i64 z)) (.pointer (some a)) ∧ QRun Tryd.prog (Instr.loadAt 3 (.pointer (some a))) H' (.int .i64 (fN gs z.toNat : Int)) := fun X h0 h1 => by
    obtain ⟨a, u1, u2⟩ := (rf.ext X).ix cf' h0 (by omega)
    rw [zs_get, fL_get gs (by omega)] at u2
    exact ⟨a, u1, u2⟩
  obtain ⟨a3, u1, u2⟩ := rd (z := (i : Int)) S2.ext (by omega) (by omega)
  rw [Int.toNat_natCast] at u2
  have hfl : fN gs i < gs.length := by omega
  refine ⟨a3, u1, _, u2, _, (bb.at hfl).1, _, ((bb.ext S2.ext).at hfl).2, ?_⟩
  cases hnd : nd (fN gs i) with
  | false =>
    rw [if_pos (by decide)]
    rw [if_pos hnd] at hN
    exact hN _ _ _ H2 S2
  | true =>
  rw [if_neg (by decide)]
  rw [if_neg (by rw [hnd]; decide)] at hN
  refine ⟨a3, u1, _, u2, ?_⟩
  by_cases hne : fN gs i = i
  rotate_left
  · rw [if_pos (by rw [bne_iff_ne]; omega)]
    rw [if_pos hne] at hN
    have htk := (tk.ext S2.ext).to
    obtain ⟨a4, v1, v2⟩ := S2.ct.row.at cc hfl
    rw [get_pad hl (by omega)] at v2
    refine ⟨_, ft0 tb, _, _, _, htk, _, ft0 tb, _, _, _, htk, a3, u1, _, u2, a4, v1, _, v2, S2.putc hi _ (fun g1 cur1 H3 hg1 S3' s3 => ?_)⟩
    rw [set_pad2 hl] at S3'
    exact hN _ _ _ H3 S3'
  rw [if_neg (by rw [hne]; simp)]
  rw [if_neg (by omega)] at hN
  -- the last steps
  have e3 : ∀ (g' : Gate) (H' : HH), g' = mapG gs tl g → S3 base F H' ob P Ag ng cg Ac gs.length cc ((tl ++ [-1]) ++ List.replicate (gs.length - (i + 1)) 0) og → H' gb = some (.cells (gv g').toArray tGate (0, 0)) →
      optimize_Optimize.R3 base N2 [.pointer (some ⟨xb, 0, none⟩), .pointer (some x2), .pointer (some x3), .slice Af gs.length cf', .slice (some ⟨nb, 0, none⟩) gs.length gs.length, .pointer (some ⟨ob, 0, none⟩), .pointer (some ⟨tb, 0, none⟩), .int .i64 (i : Int), .pointer (some ⟨gb, 0, none⟩), .slice A gs.length c, .int .i64 ((gs.length : Nat) : Int), .int .i64 (i : Int)] H' K := fun g' H' eg S' hb => by
    refine optimize_Optimize.cut3 ?_
    unfold optimize_Optimize.T3 optimize_Optimize.S3
    refine ⟨_, ft0 tb, _, _, _, (tk.ext S'.ext).to, _, fc1 ob, _, _, _, S'.cb.qgs, S'.putc hi _ (fun g1 cur1 H3 hg1 S4 s4 => ?_)⟩
    rw [set_pad2 hl] at S4
    have hb4 := gkeep hb hg1 s4
    refine ⟨_, fc1 ob, _, _, _, S4.cb.qgs, _, _, _, _, _, (gat_blk hb4).all, S4.addg (by omega) g' (fun A5 c5 H5 S5 => ?_)⟩
    rw [eg] at S5
    rw [hrl] at S5
    exact hN _ _ _ H5 S5
  have st : ∀ {H' H3 : HH} {g1 g2 : Gate}, S3 base F H' ob P Ag ng cg Ac gs.length cc ((tl ++ [-1]) ++ List.replicate (gs.length - (i + 1)) 0) og → (∀ k, k ≠ gb → H3 k = H' k) → S3 base F H3 ob P Ag ng cg Ac gs.length cc ((tl ++ [-1]) ++ List.replicate (gs.length - (i + 1)) 0) og := fun S' s => S'.same gF g_ob g_ct g_rl s
  have e2 : ∀ (g' : Gate) (H' : HH), g' = ⟨g.kind, g.frm, if sA g.kind = true then tl.getD (fN gs g.a.toNat) 0 else g.a, g.b, g.k⟩ → S3 base F H' ob P Ag ng cg Ac gs.length cc ((tl ++ [-1]) ++ List.replicate (gs.length - (i + 1)) 0) og → H' gb = some (.cells (gv g').toArray tGate (0, 0)) →
      optimize_Optimize.R2 base N2 [.pointer (some ⟨xb, 0, none⟩), .pointer (some x2), .pointer (some x3), .slice Af gs.length cf', .slice (some ⟨nb, 0, none⟩) gs.length gs.length, .pointer (some ⟨ob, 0, none⟩), .pointer (some ⟨tb, 0, none⟩), .int .i64 (i : Int), .pointer (some ⟨gb, 0, none⟩), .bool (sB g.kind), .slice A gs.length c, .int .i64 ((gs.length : Nat) : Int), .int .i64 (i : Int)] H' K := fun g' H' eg S' hb => by
    refine optimize_Optimize.cut2 ?_
    unfold optimize_Optimize.T2 optimize_Optimize.S2
    by_cases sb : sB g.kind = true
    · rw [if_pos sb]
      obtain ⟨y0, y1⟩ := wb sb
      obtain ⟨a6, t3, t4⟩ := rd S'.ext y0 (by omega)
      have hf := fN_le W (i := g.b.toNat) (by omega)
      obtain ⟨a7, t5, t6⟩ := S'.ct.row.at cc (i := fN gs g.b.toNat) (by omega)
      rw [get_pad hl (by omega)] at t6
      have gb' := gat_blk hb
      have q3 := gb'.sb
      rw [show g'.b = g.b by rw [eg]] at q3
      refine ⟨_, ft0 tb, _, _, _, (tk.ext S'.ext).to, _, fg3 _, _, q3, a6, t3, _, t4, a7, t5, _, t6, _, fb gb 3 (by decide), gb_set (g' := ⟨g'.kind, g'.frm, g'.a, tl.getD (fN gs g.b.toNat) 0, g'.k⟩) hb B.own (by decide) rfl (fun H3 hb3 s3 => e3 _ H3 ?_ (st (g1 := g) (g2 := g) S' s3) hb3)⟩
      rw [eg]
      unfold mapG
      rw [if_pos sb]
    · rw [if_neg sb]
      refine e3 g' H' ?_ S' hb
      rw [eg]
      unfold mapG
      rw [if_neg sb]
  have gb2 := gat_blk B2
  refine ⟨_, fg0 _, _, gb2.kind, h_sides g.kind ⟨_, _, rfl, ?_⟩⟩
  by_cases sa : sA g.kind = true
  · rw [if_pos sa]
    obtain ⟨x0, x1⟩ := wa sa
    obtain ⟨a6, t3, t4⟩ := rd S2.ext x0 (by omega)
    have hf := fN_le W (i := g.a.toNat) (by omega)
    obtain ⟨a7, t5, t6⟩ := S2.ct.row.at cc (i := fN gs g.a.toNat) (by omega)
    rw [get_pad hl (by omega)] at t6
    refine ⟨_, ft0 tb, _, _, _, (tk.ext S2.ext).to, _, fg2 _, _, gb2.sa, a6, t3, _, t4, a7, t5, _, t6, _, fb gb 2 (by decide), gb_set (g' := ⟨g.kind, g.frm, tl.getD (fN gs g.a.toNat) 0, g.b, g.k⟩) B2 B.own (by decide) rfl (fun H3 hb3 s3 => e2 _ H3 ?_ (st (g1 := g) (g2 := g) S2 s3) hb3)⟩
    rw [if_pos sa]
  · rw [if_neg sa]
    refine e2 g H2 ?_ S2 B2
    rw [if_neg sa]
end
end Go.Proofs.YtjpaichcaaacbaaDoor.HL
end
section
set_option linter.unusedVariables false
set_option linter.unusedSimpArgs false
set_option linter.unusedSectionVars false
set_option maxHeartbeats 8000000
namespace Go.Proofs.YtjpaichcaaacbaaDoor.HL
open Go Go.Proofs.YtjpaichcaaacbaaDoorNum Go.Proofs.YtjpaichcaaacbaaDoor.FEv
theorem cL_le (gs : List Gate) (nd : Nat → Bool) : ∀ i, (cL gs nd i).2.length ≤ i
  | 0 => Nat.le_refl _
  | i + 1 => by
    have := cL_le gs nd i
    unfold cL
    dsimp only
    split
    · exact Nat.le_succ_of_le this
    · split
      · exact Nat.le_succ_of_le this
      · rw [List.length_append, List.length_singleton]; omega
theorem ndOut_succ {gs : List Gate} {outs : List Int} {j : Nat} (h : j < outs.length) (t : Nat) : ndOut gs outs (j + 1) t = onB (ndOut gs outs j) (fN gs (outs.getD j 0).toNat) t := by
  unfold ndOut onB
  have eo : outs.getD j 0 = outs[j] := by simp [h]
  rw [List.take_add_one, List.getElem?_eq_getElem h, List.any_append, Option.toList_some, List.any_cons, List.any_nil, Bool.or_false, Bool.or_comm, eo]
  congr 1
  rw [Bool.eq_iff_iff, beq_iff_eq, beq_iff_eq]
  exact eq_comm
/-- A block is hidden. -/
def hideB (H : HH) (b : Nat) : HH := fun k => if k = b then none else H k
theorem hide_ext (H : HH) (b : Nat) : Ext (hideB H b) H := fun k o h => by
  unfold hideB at h
  split at h
  · cases h
  · exact h
theorem hide_at (H : HH) (b : Nat) : hideB H b b = none := by unfold hideB; rw [if_pos rfl]
theorem hide_ne (H : HH) {b k : Nat} (h : k ≠ b) : hideB H b k = H k := by unfold hideB; rw [if_neg h]
theorem ext_hide {F H : HH} {b : Nat} (X : Ext F H) (hF : F b = none) : Ext F (hideB H b) := fun k o h => by
  rw [hide_ne _ (fun e => by rw [e, hF] at h; cases h)]; exact X k o h
section
variable {base : Nat} {H : HH}
theorem h_mkZ {q : Nat} (hq : q ≤ 1000000) {k1 k2 : IntKind} {K : Value → HH → Prop} (h : ∀ A' c' H', OwnZ base H H' A' q c' (List.replicate q 0) → K (.slice A' q c') H') :
    HRun Tryd.prog base (Instr.makeSlice tInts (.int k1 q) (.int k2 q)) H K :=
  h_mkN hq (fun g H' hb o X hn => h _ _ H' ⟨by
    have : ns ((List.range q).map fun _ => 0) = is (List.replicate q 0) := by
      unfold ns is
      rw [List.map_const', List.length_range, List.map_replicate, List.map_replicate]; rfl
    unfold NB at o
    rw [this] at o
    exact o, X, fun b hb' => by
    have e : g = b := by simpa [Value.ownBlock] using hb'
    rw [← e]; exact hn⟩)
theorem h_tvar {A : Option Addr} {n c : Nat} {old : Value} {C : Addr → HH → Prop} (hk : ∀ b H', Ext H H' → H b = none → TB H' b A n c → C ⟨b, 0, none⟩ H') :
    HRun Tryd.prog base (Instr.alloc tCert true old) H fun v H1 => ∃ a : Addr, v = .pointer (some a) ∧ HRun Tryd.prog base (Instr.storeAt tCert (.pointer (some a)) (.agg #[.slice A n c])) H1 fun _ H2 => C a H2 :=
  h_var (vs := [.slice A n c]) (z := .agg #[.slice none 0 0]) (by kernel_rfl) rfl (by kernel_rfl) rfl (fun b H' he hbase hn hb => hk _ H' he hn hb)
/-- A number is pushed; something is read between. -/
theorem OwnZ.pushQ {F : HH} {A : Option Addr} {n c : Nat} {l : List Int} (o : OwnZ base F H A n c l) (hl : n ≤ 100000) (x : Int) {Q : HH → Prop} (hQ : ∀ H', Ext H H' → Q H') {C : Option Addr → Nat → Nat → HH → Prop} (hk : ∀ A' c' H', OwnZ base F H' A' (n + 1) c' (l ++ [x]) → Grows H H' (.slice A n c) (.slice A' (n + 1) c') → C A' (n + 1) c' H') {ty : Nat} :
    HRun Tryd.prog base (Instr.buildSlice tInts 1 #[(0, .int .i64 x)]) H fun v1 H1 => ∃ (A1 : Option Addr) (l1 c1 : Nat), v1 = .slice A1 l1 c1 ∧ Q H1 ∧ HRun Tryd.prog base (Builtin.append_ #[tInts, tInts] ty #[.slice A n c, .slice A1 l1 c1]) H1 fun v2 H2 => ∃ (A' : Option Addr) (l' c' : Nat), v2 = .slice A' l' c' ∧ C A' l' c' H2 := by
  have hfill : Instr.fill (fun i => some (i * 1, 1)) (madeCells (Value.int .i64 0).cells (1 * 1)) [(0, .int .i64 x)] = some #[.int .i64 x] := by kernel_rfl
  refine h_lit (sz := 1) (z := .int .i64 0) (cs := #[.int .i64 x]) unInts (by kernel_rfl) (by decide) hfill (by decide) (fun b hb hbase => ⟨_, _, _, rfl, hQ _ (Ext.upd hb _), ?_⟩)
  have he : Ext H (upd H b (.cells #[.int .i64 x] 3)) := Ext.upd hb _
  refine h_app (m := 1) (ys := [.int .i64 x]) unInts inf3 rfl (by decide) (o.1.ext he) (.inr ⟨_, rfl, fun i w hw => ?_⟩) (by simp) (by simp [Value.oneCell']) (by simp) (by omega) (by decide) (fun A' c' H' h1 h2 => ⟨_, _, _, rfl, hk A' c' H' ⟨by simpa [is] using h1, o.2.grow (h2.trans_ext he)⟩ (h2.trans_ext he)⟩)
  match i, hw with
  | 0, hw =>
    cases hw
    show cellH _ ((⟨b, 0, none⟩ : Addr).add 0) = _
    simp [Addr.add, cellH, upd_self]
/-- The circuit's outputs are another row. -/
theorem cb_outs {b : Nat} {p : Int} {A A' A1 : Option Addr} {n c n' c' n1 c1 : Nat} {K : Unit → HH → Prop} (h : CB H b p A n c A' n' c') (hb : base ≤ b) (hK : ∀ H', CB H' b p A n c A1 n1 c1 → (∀ k, k ≠ b → H' k = H k) → K () H') :
    HRun Tryd.prog base (Instr.storeAt tInts (.pointer (some ⟨b, 2, none⟩)) (.slice A1 n1 c1)) H K :=
  h_st (by kernel_rfl) rfl h hb (show 2 < 3 by decide) (hK _ (upd_self _ _ _) (fun k hk => upd_ne _ hk))
theorem q_res2 {l : List Value} {x y : Nat} {p : Int} {A A' T : Option Addr} {n c n' c' nt ct : Nat} (h2 : l[2]? = some (.pointer (some ⟨x, 0, none⟩))) (h3 : l[3]? = some (.pointer (some ⟨y, 0, none⟩))) (hx : CB H x p A n c A' n' c') (hy : TB H y T nt ct) :
    QRun Tryd.prog (results Tryd.f29 l.toArray) H (.tuple #[.agg #[.int .u64 p, .slice A n c, .slice A' n' c'], .agg #[.slice T nt ct]]) := fun W hs => by
  have er : Tryd.f29.results = #[.cell 2 tC, .cell 3 tCert] := by kernel_rfl
  have hl := hx.all W hs
  have hl' := hy.all W hs
  simp only [Instr.loadAt, Instr.sureAddr] at hl hl'
  have e2 : l.toArray.getD 2 undef = .pointer (some ⟨x, 0, none⟩) := by simp [Array.getD_eq_getD_getElem?, h2]
  have e3 : l.toArray.getD 3 undef = .pointer (some ⟨y, 0, none⟩) := by simp [Array.getD_eq_getD_getElem?, h3]
  unfold results
  rw [er]
  simp_all [asAddr]
end
section
variable {base : Nat} {H : HH} {K : Value → HH → Prop} {A A' : Option Addr} {n n' c c' : Nat} {P : Int} {gs : List Gate} {outs : List Int}
theorem h_optimize (W : WF gs) (hO : ∀ i, i < outs.length → 0 ≤ outs.getD i 0 ∧ outs.getD i 0 < (gs.length : Int)) (hC : Circ H A n gs A' n' outs)
    (hk : ∀ A1 n1 c1 A2 c2 A3 c3 H', Ext H H' → Gs H' A1 n1 (optG gs outs) → n1 ≤ c1 → Outs H' A2 outs.length (optO gs outs) → Outs H' A3 gs.length (optT gs outs) → K (.tuple #[.agg #[.int .u64 P, .slice A1 n1 c1, .slice A2 outs.length c2], .agg #[.slice A3 gs.length c3]]) H') :
    HCall Tryd.prog base 29 #[.agg #[.int .u64 P, .slice A n c, .slice A' n' c']] H K := by
  refine optimize_Optimize.spec ?_
  unfold optimize_Optimize.sh
  obtain rfl := hC.g.1
  obtain rfl := hC.o.1
  have lg := hC.lg
  have lo := hC.lo
  refine h_cbox (fun xb H1 X1 cb1 => ⟨_, rfl, h_alloc (z := .agg #[.int .u64 0, .slice none 0 0, .slice none 0 0]) (by kernel_rfl) (fun rb rn rbase => ⟨_, rfl, h_alloc (z := .agg #[.slice none 0 0]) (by kernel_rfl) (fun tb' tn tbase => ⟨_, rfl, ?_⟩)⟩)⟩)
  have E1 : Ext H1 (upd H1 rb (.cells (Value.agg #[.int .u64 0, .slice none 0 0, .slice none 0 0]).cells tC (0, 0))) := Ext.upd rn _
  have e1 : (upd H1 rb (.cells (Value.agg #[.int .u64 0, .slice none 0 0, .slice none 0 0]).cells tC (0, 0))) rb = some _ := upd_self _ _ _
  generalize upd H1 rb (.cells (Value.agg #[.int .u64 0, .slice none 0 0, .slice none 0 0]).cells tC (0, 0)) = H2 at E1 e1 tn ⊢
  have E2 : Ext H2 (upd H2 tb' (.cells (Value.agg #[.slice none 0 0]).cells tCert (0, 0))) := Ext.upd tn _
  have e2 : (upd H2 tb' (.cells (Value.agg #[.slice none 0 0]).cells tCert (0, 0))) tb' = some _ := upd_self _ _ _
  generalize upd H2 tb' (.cells (Value.agg #[.slice none 0 0]).cells tCert (0, 0)) = H3 at E2 e2 ⊢
  have eR : H3 rb = some (.cells (Value.agg #[.int .u64 0, .slice none 0 0, .slice none 0 0]).cells tC (0, 0)) := E2 _ _ e1
  have X13 := E1.trans E2
  have cb3 := cb1.ext X13
  have rH : H rb = none := X1.none rn
  have tH : H tb' = none := (X1.trans E1).none tn
  have X03 := X1.trans X13
  have C3 := hC.ext X03
  refine ⟨_, _, _, _, _, _, _, cb3.all, h_firsts W C3.g lg (fun Af cf H4 X4 rf => ⟨_, _, _, rfl, _, fc1 xb, _, _, _, (cb3.ext X4).qgs, h_mkB (by omega) (fun nb H5 hnb bb5 X5 nbn => ⟨_, _, _, rfl, _, fc2 xb, _, _, _, ((cb3.ext X4).ext X5).qouts, ?_⟩)⟩)⟩
  have cb4 := cb3.ext X4
  have C4 := C3.ext X4
  -- what the outputs need
  have fle : ∀ {z : Int}, 0 ≤ z → z < (gs.length : Int) → fN gs z.toNat < gs.length := fun {z} h0 h1 => by have := fN_le W (i := z.toNat) (by omega); omega
  have rd : ∀ {H' : HH} {z : Int}, Ext H4 H' → 0 ≤ z → z < (gs.length : Int) → ∃ a, AQ Tryd.prog (Instr.indexAt tInts (.slice Af gs.length cf) (.int .i64 z)) (.pointer (some a)) ∧ QRun Tryd.prog (Instr.loadAt 3 (.pointer (some a))) H' (.int .i64 (fN gs z.toNat : Int)) := fun X h0 h1 => by
    obtain ⟨a, u1, u2⟩ := (rf.ext X).ix cf h0 h1
    rw [zs_get, fL_get gs (by omega)] at u2
    exact ⟨a, u1, u2⟩
  refine optimize_Optimize.loop0 (fun r y H' => ∃ j : Nat, y = j ∧ j ≤ outs.length ∧ r = outs.length - j ∧ Ext H4 H' ∧ BB base H' nb gs.length (ndOut gs outs j)) outs.length ⟨0, rfl, Nat.zero_le _, rfl, X5, bb5.congr (fun k hk => by simp [ndOut])⟩ ?_
  rintro r y fr H6 ⟨j, rfl, hj, rfl, X6, bb6⟩
  unfold optimize_Optimize.B0
  by_cases hlt : j < outs.length
  · rw [if_pos (decide_eq_true (by omega))]
    obtain ⟨o0, o1⟩ := hO j hlt
    obtain ⟨a1, q1, q2⟩ := (C4.o.ext X6).at c' hlt
    obtain ⟨a2, q3, q4⟩ := rd X6 o0 o1
    have hf := fle o0 o1
    refine ⟨a1, q1, _, q2, a2, q3, _, q4, _, (bb6.at hf).1, bb_on bb6 hf nbn X6 (fun H7 X7 b7 s7 => ?_)⟩
    refine ⟨outs.length - j - 1, by omega, _, rfl, j + 1, nxt (n := 1000000) (by omega) (by decide), by omega, by omega, X7, b7.congr (fun t ht => ndOut_succ hlt t)⟩
  rw [if_neg (fun h => hlt (by have := of_decide_eq_true h; omega))]
  obtain rfl : j = outs.length := by omega
  clear hlt hj
  refine ⟨_, fc1 xb, _, _, _, (cb4.ext X6).qgs, ?_⟩
  rw [show IntKind.i64.wrap (((gs.length : Nat) : Int) - 1) = ((gs.length : Nat) : Int) - 1 from w64 (by omega) (by omega)]
  refine optimize_Optimize.loop1 (fun r y H' => ∃ m : Nat, m ≤ gs.length ∧ y = ((gs.length : Nat) : Int) - 1 - m ∧ r = gs.length - m ∧ Ext H4 H' ∧ BB base H' nb gs.length (ndBack gs outs m)) gs.length ⟨0, Nat.zero_le _, by omega, rfl, X6, bb6⟩ ?_
  rintro r y fr H7 ⟨m, hm, rfl, rfl, X7, bb7⟩
  by_cases hlt : m < gs.length
  · rw [show ((gs.length : Nat) : Int) - 1 - (m : Int) = ((gs.length - 1 - m : Nat) : Int) by omega]
    refine nd_round W C4.g cb4 lg (i := gs.length - 1 - m) (by omega) X7 nbn rf bb7 (fun H8 X8 b8 => ?_)
    exact ⟨gs.length - m - 1, by omega, _, rfl, m + 1, by omega, by rw [w64 (by omega) (by omega)]; omega, by omega, X8, b8⟩
  unfold optimize_Optimize.B1
  rw [if_neg (fun h => hlt (by have := of_decide_eq_true h; omega))]
  obtain rfl : m = gs.length := by omega
  clear hlt hm
  have bbF : BB base H7 nb gs.length (ndAll gs outs) := bb7
  have cb7 := cb4.ext X7
  have C7 := C4.ext X7
  have rf7 := rf.ext X7
  have R7 : H7 rb = _ := X7 _ _ (X4 _ _ eR)
  have T7 : H7 tb' = _ := X7 _ _ (X4 _ _ e2)
  have X07 := X03.trans (X4.trans X7)
  clear bb5 bb6 bb7 X5 X6 cb1 cb3 cb4 C3 C4 hC X4 X7 E1 E2 e1 e2 X13 X1 eR rn tn X03 rf rd
  refine ⟨_, fc0 xb, _, cb7.qp, _, _, _, _, _, _, _, (show AQ Tryd.prog (Instr.build tC #[(0, .int .u64 P)]) (.agg #[.int .u64 P, .slice none 0 0, .slice none 0 0]) from fun W => by kernel_rfl), ?_⟩
  refine h_cvar3 (fun ob H8 X8 obn obB cd8 => ⟨_, fc1 xb, _, _, _, (cb7.ext X8).qgs, h_mkZ (by omega) (fun Ac cc H9 oc => ⟨_, _, _, rfl, _, _, _, (show AQ Tryd.prog (Instr.build tCert #[(0, .slice Ac gs.length cc)]) (.agg #[.slice Ac gs.length cc]) from fun W => by kernel_rfl), h_tvar (fun tb H10 X10 tbn tk => ⟨_, fc1 xb, _, _, _, ((cb7.ext X8).ext (oc.ext.trans X10)).qgs, ?_⟩)⟩)⟩)
  -- what is fixed from here on
  obtain ⟨F, hF⟩ : ∃ F : HH, F = upd H7 tb (.cells #[.slice Ac gs.length cc] tCert) := ⟨_, rfl⟩
  have tb7 : H7 tb = none := (X8.trans oc.ext).none tbn
  have XF : Ext H7 F := by rw [hF]; exact Ext.upd tb7 _
  have tkF : TB F tb Ac gs.length cc := by rw [hF]; exact upd_self _ _ _
  have X710 := X8.trans (oc.ext.trans X10)
  have XF10 : Ext F H10 := fun b o hb => by
    by_cases e : b = tb
    · subst e
      unfold TB at tkF
      rw [tkF] at hb; cases hb; exact tk
    · rw [hF, upd_ne _ e] at hb; exact X710 b o hb
  have obF : F ob = none := by
    have : ob ≠ tb := fun e => by
      have h1 := cd8
      unfold CB at h1
      have h2 := oc.ext.none tbn
      rw [← e, h1] at h2; cases h2
    rw [hF, upd_ne _ this]; exact obn
  have ocF : OwnZ base F H10 Ac gs.length cc (List.replicate gs.length 0) := ⟨oc.1.ext X10, XF10, fun b hb => by
    have : b ≠ tb := fun e => by
      obtain ⟨cu, hc⟩ := oc.tag hb
      rw [e, tbn] at hc; cases hc
    rw [hF, upd_ne _ this]; exact X8.none (oc.2.off b hb)⟩
  have S : S3 base F H10 ob P none 0 0 Ac gs.length cc ((cL gs (ndAll gs outs) 0).1 ++ List.replicate (gs.length - 0) 0) (cL gs (ndAll gs outs) 0).2 :=
    ⟨obF, obB, cd8.ext (oc.ext.trans X10), ocF, ⟨XF10, Own.nil _ _ _ _, fun b hb => by simp [Value.ownBlock] at hb⟩⟩
  have cbF := cb7.ext XF
  have CF := C7.ext XF
  have rfF := rf7.ext XF
  have bF := bbF.ext XF
  have RF := XF _ _ R7
  have TF := XF _ _ T7
  have X0F := X07.trans XF
  clear oc X8 X10 tk cd8 tbn XF10 X710 ocF obF hF tb7 obn cb7 C7 rf7 bbF R7 T7 X07 XF
  refine optimize_Optimize.loop2 (fun r y H' => ∃ j : Nat, y = j ∧ j ≤ gs.length ∧ r = gs.length - j ∧ ∃ A1 n1 c1, S3 base F H' ob P A1 n1 c1 Ac gs.length cc ((cL gs (ndAll gs outs) j).1 ++ List.replicate (gs.length - j) 0) (cL gs (ndAll gs outs) j).2) gs.length ⟨0, rfl, Nat.zero_le _, rfl, _, _, _, S⟩ ?_
  clear S
  rintro r y fr H11 ⟨j, rfl, hj, rfl, Ag, ng, cg, S⟩
  by_cases hlt : j < gs.length
  · refine oc_round W CF.g cbF lg hlt rfF bF tkF S (fun A12 n12 c12 H12 S12 => ?_) (cL_le _ _ _)
    exact ⟨gs.length - j - 1, by omega, _, rfl, j + 1, nxt (n := 1000000) (by omega) (by decide), by omega, by omega, _, _, _, S12⟩
  unfold optimize_Optimize.B2
  rw [if_neg (fun h => hlt (by have := of_decide_eq_true h; omega))]
  obtain rfl : j = gs.length := by omega
  clear hlt hj
  rw [Nat.sub_self, List.replicate_zero, List.append_nil] at S
  have eT : (cL gs (ndAll gs outs) gs.length).1 = optT gs outs := rfl
  have eG : (cL gs (ndAll gs outs) gs.length).2 = optG gs outs := rfl
  rw [eT, eG] at S
  have lT : (optT gs outs).length = gs.length := cL_len _ _ _
  refine ⟨_, fc2 xb, _, _, _, (cbF.ext S.ext).qouts, ?_⟩
  -- the box is hidden
  have XH : Ext F (hideB H11 ob) := ext_hide S.ext S.obF
  have XH' := hide_ext H11 ob
  have obN := hide_at H11 ob
  have ctH : OwnZ base (hideB H11 ob) (hideB H11 ob) Ac gs.length cc (optT gs outs) ∨ True := .inr trivial
  have ct0 : Own base (hideB H11 ob) 3 1 (.slice Ac gs.length cc) gs.length (is (optT gs outs)) := S.ct.1.move (fun k x hk hx => by rw [hide_ne _ (fun e => S.ctob (by rw [hk, e]))]; exact hx)
  have rl0 : Own base (hideB H11 ob) tGate 5 (.slice Ag ng cg) ng (gc (optG gs outs)) := S.rl.own.move (fun k x hk hx => by rw [hide_ne _ (fun e => S.rlob (by rw [hk, e]))]; exact hx)
  have cb11 := S.cb
  have obB := S.obB
  have ngl := S.rl.len
  generalize hideB H11 ob = F2 at XH XH' obN ct0 rl0
  have rowT : Outs F2 Ac gs.length (optT gs outs) := by
    obtain ⟨A8, c8, e, _, h2⟩ := ct0.slice
    cases e
    exact ⟨lT.symm, h2⟩
  have tk2 := tkF.ext XH
  have C2 := CF.ext XH
  refine optimize_Optimize.loop3 (fun r y H' => ∃ j : Nat, y = j ∧ j ≤ outs.length ∧ r = outs.length - j ∧ ∃ Ao co, CB H' ob P Ag ng cg Ao j co ∧ OwnZ base F2 H' Ao j co ((optO gs outs).take j)) outs.length ⟨0, rfl, Nat.zero_le _, rfl, _, _, cb11, OwnZ.nil' XH'⟩ ?_
  rintro r y fr H12 ⟨j, rfl, hj, rfl, Ao, co, cb12, oo⟩
  unfold optimize_Optimize.B3
  have lO : (optO gs outs).length = outs.length := by simp [optO]
  have ooTag : ∀ {H' : HH} {A1 : Option Addr} {n1 c1 : Nat} {l : List Int}, OwnZ base F2 H' A1 n1 c1 l → ∀ {Ax : Option Addr} {nx cx : Nat}, CB H' ob P Ag ng cg Ax nx cx → (Value.slice A1 n1 c1).ownBlock ≠ some ob := fun o _ _ _ cbx e => by
    obtain ⟨cu, hc⟩ := o.tag e
    unfold CB at cbx
    rw [cbx] at hc
    exact absurd (cells_tag hc) (by decide)
  by_cases hlt : j < outs.length
  · rw [if_pos (decide_eq_true (by omega))]
    obtain ⟨o0, o1⟩ := hO j hlt
    obtain ⟨a1, q1, q2⟩ := (C2.o.ext oo.ext).at c' hlt
    obtain ⟨a2, q3, q4⟩ := (rowT.ext oo.ext).ix cc o0 o1
    refine ⟨a1, q1, _, q2, _, fc2 ob, _, _, _, cb12.qouts, _, ft0 tb, _, _, _, (tk2.ext oo.ext).to, a2, q3, _, q4, ?_⟩
    refine oo.pushQ (by omega) _ (fun H' X => cb12.qouts.up X) (fun A13 c13 H13 o13 g13 => ⟨_, fc2 ob, ?_⟩)
    have cb13 : CB H13 ob P Ag ng cg Ao j co := g13.keep _ _ (ooTag oo cb12) cb12
    refine cb_outs cb13 obB (fun H14 cb14 s14 => ?_)
    have o14 := o13.same obN (ooTag o13 cb13) s14
    refine ⟨outs.length - j - 1, by omega, _, rfl, j + 1, nxt (n := 1000000) (by omega) (by decide), by omega, by omega, _, _, cb14, ?_⟩
    have eo : outs.getD j 0 = outs[j] := by simp [hlt]
    have e : (optO gs outs).take (j + 1) = (optO gs outs).take j ++ [(optT gs outs).getD (outs.getD j 0).toNat 0] := by
      rw [List.take_add_one, List.getElem?_eq_getElem (by omega), eo]
      simp [optO]
    rw [e]
    exact o14
  rw [if_neg (fun h => hlt (by have := of_decide_eq_true h; omega))]
  obtain rfl : j = outs.length := by omega
  rw [List.take_of_length_le (by omega)] at oo
  refine ⟨_, _, _, _, _, _, _, cb12.all, _, _, _, (tk2.ext oo.ext).all, ?_⟩
  have R12 := oo.ext _ _ (XH _ _ RF)
  have T12 := oo.ext _ _ (XH _ _ TF)
  refine h_sta (old := (Value.agg #[.int .u64 0, .slice none 0 0, .slice none 0 0]).cells) (vs := [.int .u64 P, .slice Ag ng cg, .slice Ao outs.length co]) (by kernel_rfl) rfl R12 rbase rfl ?_
  obtain ⟨H13, hH13⟩ : ∃ H13, H13 = upd H12 rb (.cells [.int .u64 P, .slice Ag ng cg, .slice Ao outs.length co].toArray tC (0, 0)) := ⟨_, rfl⟩
  rw [← hH13]
  have cr13 : CB H13 rb P Ag ng cg Ao outs.length co := by rw [hH13]; exact upd_self _ _ _
  have s13 : ∀ k, k ≠ rb → H13 k = H12 k := fun k hk => by rw [hH13]; exact upd_ne _ hk
  have tk12 := tk2.ext oo.ext
  have tk13 : TB H13 tb Ac gs.length cc := by
    have : tb ≠ rb := fun e => by
      unfold TB at tk12
      rw [e, R12] at tk12
      exact absurd (cells_tag tk12) (by decide)
    unfold TB at tk12 ⊢
    rw [s13 tb this]; exact tk12
  have hTR : tb' ≠ rb := fun e => by
    rw [e, R12] at T12
    exact absurd (cells_tag T12) (by decide)
  refine ⟨tk13.all, h_sta (old := (Value.agg #[.slice none 0 0]).cells) (vs := [.slice Ac gs.length cc]) (by kernel_rfl) rfl (by rw [s13 tb' hTR]; exact T12) tbase rfl ?_⟩
  obtain ⟨H14, hH14⟩ : ∃ H14, H14 = upd H13 tb' (.cells [.slice Ac gs.length cc].toArray tCert (0, 0)) := ⟨_, rfl⟩
  rw [← hH14]
  have tk14 : TB H14 tb' Ac gs.length cc := by rw [hH14]; exact upd_self _ _ _
  have s14 : ∀ k, k ≠ tb' → H14 k = H13 k := fun k hk => by rw [hH14]; exact upd_ne _ hk
  have cr14 : CB H14 rb P Ag ng cg Ao outs.length co := by
    unfold CB at cr13 ⊢
    rw [s14 rb (fun e => hTR e.symm)]; exact cr13
  have X012 := X0F.trans (XH.trans oo.ext)
  have X014 : Ext H H14 := ext_same (ext_same X012 rH s13) tH s14
  have keepO : ∀ {T sz n : Nat} {v : Value} {xs : List Value}, T ≠ tC → T ≠ tCert → Own base H12 T sz v n xs → Own base H14 T sz v n xs := fun hT1 hT2 o => o.move (fun k x hkx hx => by
    obtain ⟨_, cu, hc⟩ := o.known hkx
    have h1 : k ≠ rb := fun e => by rw [e, R12] at hc; exact hT1 (cells_tag hc).symm
    have h2 : k ≠ tb' := fun e => by rw [e, T12] at hc; exact hT2 (cells_tag hc).symm
    rw [s14 k h2, s13 k h1]; exact hx)
  have oG := keepO (by decide) (by decide) (rl0.ext oo.ext)
  have oT := keepO (by decide) (by decide) (ct0.ext oo.ext)
  have oO := keepO (by decide) (by decide) oo.1
  refine ⟨_, q_res2 rfl rfl cr14 tk14, ?_⟩
  obtain ⟨A8, c8, e8, hc8, g8⟩ := oG.slice
  cases e8
  obtain ⟨A9, c9, e9, _, g9⟩ := oO.slice
  cases e9
  obtain ⟨A10, c10, e10, _, g10⟩ := oT.slice
  cases e10
  exact hk _ _ _ _ _ _ _ H14 X014 ⟨ngl, g8⟩ hc8 ⟨lO.symm, g9⟩ ⟨lT.symm, g10⟩
end
end Go.Proofs.YtjpaichcaaacbaaDoor.HL
end
section
set_option linter.unusedVariables false
set_option linter.unusedSimpArgs false
set_option linter.unusedSectionVars false
set_option maxHeartbeats 8000000
namespace Go.Proofs.YtjpaichcaaacbaaDoor.HL
open Go Go.Proofs.YtjpaichcaaacbaaDoorNum Go.Proofs.YtjpaichcaaacbaaDoor.FEv
abbrev ex1 : List Gate := [⟨1, 1, 0, 0, 0⟩, ⟨1, 1, 0, 0, 0⟩, ⟨3, 0, 0, 1, 0⟩, ⟨3, 0, 1, 0, 0⟩, ⟨6, 0, 2, 3, 0⟩]
abbrev wa1 : List Gate := [⟨1, 1, 0, 0, 0⟩, ⟨1, 1, 0, 0, 0⟩, ⟨3, 0, 0, 1, 0⟩, ⟨6, 0, 2, 2, 0⟩]
section
variable {base : Nat} {H : HH} {K : Value → HH → Prop} {A A' B B' : Option Addr} {n n' m m' c c' d d' : Nat} {P P' : Int} {gs gs' : List Gate} {outs outs' : List Int}
theorem rd_blk {gb T : Nat} {z : Nat × Nat} {cs : Array Value} {xs : List Value} (h : H gb = some (.cells cs T z)) (e : cs.toList = xs) : Rd H (some ⟨gb, 0, none⟩) xs :=
  .inr ⟨_, rfl, fun i u hu => by rw [add0, cellH_blk h, ← Array.getElem?_toList, e]; exact hu⟩
theorem lit_g5 {C : Value → HH → Prop} (hk : ∀ gb H', Ext H H' → H gb = none → H' gb = some (.cells (gc ex1).toArray tGate (0, 0)) → C (.slice (some ⟨gb, 0, none⟩) 5 5) H') : HRun Tryd.prog base (Instr.buildSlice tGates 5 #[(0, .agg #[.int .i64 1, .int .i64 1, .int .i64 0, .int .i64 0, .int .u64 0]), (1, .agg #[.int .i64 1, .int .i64 1, .int .i64 0, .int .i64 0, .int .u64 0]), (2, .agg #[.int .i64 3, .int .i64 0, .int .i64 0, .int .i64 1, .int .u64 0]), (3, .agg #[.int .i64 3, .int .i64 0, .int .i64 1, .int .i64 0, .int .u64 0]), (4, .agg #[.int .i64 6, .int .i64 0, .int .i64 2, .int .i64 3, .int .u64 0])]) H C := by
  have hfill : Instr.fill (fun i => some (i * 5, 5)) (madeCells (Value.agg (gv gate0).toArray).cells (5 * 5)) [(0, .agg #[.int .i64 1, .int .i64 1, .int .i64 0, .int .i64 0, .int .u64 0]), (1, .agg #[.int .i64 1, .int .i64 1, .int .i64 0, .int .i64 0, .int .u64 0]), (2, .agg #[.int .i64 3, .int .i64 0, .int .i64 0, .int .i64 1, .int .u64 0]), (3, .agg #[.int .i64 3, .int .i64 0, .int .i64 1, .int .i64 0, .int .u64 0]), (4, .agg #[.int .i64 6, .int .i64 0, .int .i64 2, .int .i64 3, .int .u64 0])] = some (gc ex1).toArray := by kernel_rfl
  exact h_lit (sz := 5) (z := .agg (gv gate0).toArray) (cs := (gc ex1).toArray) unGates (by kernel_rfl) (by decide) hfill (by decide) (fun gb hgb hbase => hk _ _ (Ext.upd hgb _) hgb (upd_self _ _ _))
theorem lit_gw {C : Value → HH → Prop} (hk : ∀ A' H', Ext H H' → Gs H' A' 4 wa1 → C (.slice A' 4 4) H') : HRun Tryd.prog base (Instr.buildSlice tGates 4 #[(0, .agg #[.int .i64 1, .int .i64 1, .int .i64 0, .int .i64 0, .int .u64 0]), (1, .agg #[.int .i64 1, .int .i64 1, .int .i64 0, .int .i64 0, .int .u64 0]), (2, .agg #[.int .i64 3, .int .i64 0, .int .i64 0, .int .i64 1, .int .u64 0]), (3, .agg #[.int .i64 6, .int .i64 0, .int .i64 2, .int .i64 2, .int .u64 0])]) H C := by
  have hfill : Instr.fill (fun i => some (i * 5, 5)) (madeCells (Value.agg (gv gate0).toArray).cells (4 * 5)) [(0, .agg #[.int .i64 1, .int .i64 1, .int .i64 0, .int .i64 0, .int .u64 0]), (1, .agg #[.int .i64 1, .int .i64 1, .int .i64 0, .int .i64 0, .int .u64 0]), (2, .agg #[.int .i64 3, .int .i64 0, .int .i64 0, .int .i64 1, .int .u64 0]), (3, .agg #[.int .i64 6, .int .i64 0, .int .i64 2, .int .i64 2, .int .u64 0])] = some (gc wa1).toArray := by kernel_rfl
  exact h_lit (sz := 5) (z := .agg (gv gate0).toArray) (cs := (gc wa1).toArray) unGates (by kernel_rfl) (by decide) hfill (by decide) (fun gb hgb hbase => hk _ _ (Ext.upd hgb _) ⟨rfl, rd_blk (upd_self _ _ _) rfl⟩)
theorem lit_o1b {x : Int} {C : Value → HH → Prop} (hk : ∀ gb H', Ext H H' → H gb = none → H' gb = some (.cells #[.int .i64 x] 3 (0, 0)) → C (.slice (some ⟨gb, 0, none⟩) 1 1) H') : HRun Tryd.prog base (Instr.buildSlice tInts 1 #[(0, .int .i64 x)]) H C := by
  have hfill : Instr.fill (fun i => some (i * 1, 1)) (madeCells (Value.int .i64 0).cells (1 * 1)) [(0, .int .i64 x)] = some #[.int .i64 x] := by kernel_rfl
  exact h_lit (sz := 1) (z := .int .i64 0) (cs := #[.int .i64 x]) unInts (by kernel_rfl) (by decide) hfill (by decide) (fun gb hgb hbase => hk _ _ (Ext.upd hgb _) hgb (upd_self _ _ _))
theorem lit_o5 {x y z u v : Int} {C : Value → HH → Prop} (hk : ∀ A' H', Ext H H' → Outs H' A' 5 [x, y, z, u, v] → C (.slice A' 5 5) H') : HRun Tryd.prog base (Instr.buildSlice tInts 5 #[(0, .int .i64 x), (1, .int .i64 y), (2, .int .i64 z), (3, .int .i64 u), (4, .int .i64 v)]) H C := by
  have hfill : Instr.fill (fun i => some (i * 1, 1)) (madeCells (Value.int .i64 0).cells (5 * 1)) [(0, .int .i64 x), (1, .int .i64 y), (2, .int .i64 z), (3, .int .i64 u), (4, .int .i64 v)] = some #[.int .i64 x, .int .i64 y, .int .i64 z, .int .i64 u, .int .i64 v] := by kernel_rfl
  exact h_lit (sz := 1) (z := .int .i64 0) (cs := #[.int .i64 x, .int .i64 y, .int .i64 z, .int .i64 u, .int .i64 v]) unInts (by kernel_rfl) (by decide) hfill (by decide) (fun gb hgb hbase => hk _ _ (Ext.upd hgb _) ⟨rfl, rd_blk (upd_self _ _ _) rfl⟩)
theorem q_res1 {l : List Value} {x : Nat} {p : Int} (h2 : l[0]? = some (.pointer (some ⟨x, 0, none⟩))) (hx : CB H x p A n c A' n' c') :
    QRun Tryd.prog (results Tryd.f47 l.toArray) H (.agg #[.int .u64 p, .slice A n c, .slice A' n' c']) := fun W hs => by
  have er : Tryd.f47.results = #[.cell 0 tC] := by kernel_rfl
  have hl := hx.all W hs
  simp only [Instr.loadAt, Instr.sureAddr] at hl
  have e2 : l.toArray.getD 0 undef = .pointer (some ⟨x, 0, none⟩) := by simp [Array.getD_eq_getD_getElem?, h2]
  unfold results
  rw [er]
  simp_all [asAddr]
theorem h_example (hk : ∀ A1 A2 H', Ext H H' → Circ H' A1 5 ex1 A2 1 [4] → K (.agg #[.int .u64 31, .slice A1 5 5, .slice A2 1 1]) H') : HCall Tryd.prog base 47 #[] H K := by
  refine privitylaw36_example.spec ?_
  unfold privitylaw36_example.sh
  refine h_alloc (z := .agg #[.int .u64 0, .slice none 0 0, .slice none 0 0]) (by kernel_rfl) (fun rb rn rbase => ⟨_, rfl, ?_⟩)
  have E1 : Ext H (upd H rb (.cells (Value.agg #[.int .u64 0, .slice none 0 0, .slice none 0 0]).cells tC (0, 0))) := Ext.upd rn _
  have e1 : (upd H rb (.cells (Value.agg #[.int .u64 0, .slice none 0 0, .slice none 0 0]).cells tC (0, 0))) rb = some _ := upd_self _ _ _
  generalize upd H rb (.cells (Value.agg #[.int .u64 0, .slice none 0 0, .slice none 0 0]).cells tC (0, 0)) = H1 at E1 e1 ⊢
  refine ⟨_, _, _, _, _, (show AQ Tryd.prog (Instr.build tGate #[(0, .int .i64 1), (1, .int .i64 1)]) (.agg #[.int .i64 1, .int .i64 1, .int .i64 0, .int .i64 0, .int .u64 0]) from fun W => by kernel_rfl), _, _, _, _, _, (show AQ Tryd.prog (Instr.build tGate #[(0, .int .i64 1), (1, .int .i64 1)]) (.agg #[.int .i64 1, .int .i64 1, .int .i64 0, .int .i64 0, .int .u64 0]) from fun W => by kernel_rfl), _, _, _, _, _, (show AQ Tryd.prog (Instr.build tGate #[(0, .int .i64 3), (2, .int .i64 0), (3, .int .i64 1)]) (.agg #[.int .i64 3, .int .i64 0, .int .i64 0, .int .i64 1, .int .u64 0]) from fun W => by kernel_rfl), _, _, _, _, _, (show AQ Tryd.prog (Instr.build tGate #[(0, .int .i64 3), (2, .int .i64 1), (3, .int .i64 0)]) (.agg #[.int .i64 3, .int .i64 0, .int .i64 1, .int .i64 0, .int .u64 0]) from fun W => by kernel_rfl), _, _, _, _, _, (show AQ Tryd.prog (Instr.build tGate #[(0, .int .i64 6), (2, .int .i64 2), (3, .int .i64 3)]) (.agg #[.int .i64 6, .int .i64 0, .int .i64 2, .int .i64 3, .int .u64 0]) from fun W => by kernel_rfl), ?_⟩
  refine lit_g5 (fun gb H2 X2 gn g2 => ⟨_, _, _, rfl, lit_o1b (fun ob H3 X3 on o3 => ⟨_, _, _, rfl, _, _, _, _, _, _, _, (show AQ Tryd.prog (Instr.build tC #[(0, .int .u64 31), (1, .slice (some ⟨gb, 0, none⟩) 5 5), (2, .slice (some ⟨ob, 0, none⟩) 1 1)]) (.agg #[.int .u64 31, .slice (some ⟨gb, 0, none⟩) 5 5, .slice (some ⟨ob, 0, none⟩) 1 1]) from fun W => by kernel_rfl), ?_⟩)⟩)
  have R3 := X3 _ _ (X2 _ _ e1)
  have g3 := X3 _ _ g2
  refine h_sta (old := (Value.agg #[.int .u64 0, .slice none 0 0, .slice none 0 0]).cells) (vs := [.int .u64 31, .slice (some ⟨gb, 0, none⟩) 5 5, .slice (some ⟨ob, 0, none⟩) 1 1]) (by kernel_rfl) rfl R3 rbase rfl ?_
  have n1 : gb ≠ rb := fun e => by rw [e, R3] at g3; exact absurd (cells_tag g3) (by decide)
  have n2 : ob ≠ rb := fun e => by rw [e, R3] at o3; exact absurd (cells_tag o3) (by decide)
  refine ⟨_, q_res1 rfl (upd_self _ _ _), hk _ _ _ (ext_same (E1.trans (X2.trans X3)) rn (fun k hk => upd_ne _ hk)) ⟨⟨rfl, rd_blk (by rw [upd_ne _ n1]; exact g3) rfl⟩, ⟨rfl, rd_blk (by rw [upd_ne _ n2]; exact o3) rfl⟩, by decide, by decide, by decide⟩⟩
/-- Two circuits are compared. -/
theorem h_equal32 (h1 : Circ H A n gs A' n' outs) (h2 : Circ H B m gs' B' m' outs') (hk1 : P = P' ∧ gs = gs' ∧ outs = outs' → ∀ H', Ext H H' → K (.bool true) H') (hk2 : ¬ (P = P' ∧ gs = gs' ∧ outs = outs') → ∀ H', Ext H H' → K (.bool false) H') :
    HCall Tryd.prog base 31 #[.agg #[.int .u64 P, .slice A n c, .slice A' n' c'], .agg #[.int .u64 P', .slice B m d, .slice B' m' d']] H K := by
  refine privityref32_Equal.spec ?_
  unfold privityref32_Equal.sh
  refine h_cbox (fun xb H1 X1 cb => ⟨_, rfl, h_cbox (fun yb H2 X2 db => ⟨_, rfl, ?_⟩)⟩)
  have X := X1.trans X2
  have cb := cb.ext X2
  have c1 := h1.ext X
  have c2 := h2.ext X
  obtain rfl := h1.g.1
  obtain rfl := h1.o.1
  obtain rfl := h2.g.1
  obtain rfl := h2.o.1
  have lg := h1.lg
  have lo := h1.lo
  refine ⟨_, fc0 xb, _, cb.qp, _, fc0 yb, _, db.qp, ?_⟩
  by_cases eP : P = P'
  rotate_left
  · rw [if_neg (by simpa using eP)]
    exact hk2 (fun h => eP h.1) H2 X
  rw [if_pos (by simpa using eP)]
  refine ⟨_, fc1 xb, _, _, _, cb.qgs, _, fc1 yb, _, _, _, db.qgs, ?_⟩
  by_cases eL : gs.length = gs'.length
  rotate_left
  · rw [if_neg (by rw [Bool.not_eq_false, bne_iff_ne]; omega)]
    exact hk2 (fun h => eL (by rw [h.2.1])) H2 X
  rw [if_pos (by rw [eL]; simp)]
  refine ⟨_, fc2 xb, _, _, _, cb.qouts, _, fc2 yb, _, _, _, db.qouts, ?_⟩
  by_cases eO : outs.length = outs'.length
  rotate_left
  · rw [if_pos (by rw [bne_iff_ne]; omega)]
    exact hk2 (fun h => eO (by rw [h.2.2])) H2 X
  rw [if_neg (by rw [eO]; simp)]
  refine privityref32_Equal.loop0 (fun r y H' => H' = H2 ∧ ∃ j : Nat, y = j ∧ j ≤ gs.length ∧ r = gs.length - j ∧ ∀ t, t < j → gs.getD t gate0 = gs'.getD t gate0) gs.length ⟨rfl, 0, rfl, Nat.zero_le _, rfl, fun t h => by omega⟩ ?_
  rintro r y fr H3 ⟨rfl, j, rfl, hj, rfl, hall⟩
  unfold privityref32_Equal.B0
  refine ⟨_, fc1 xb, _, _, _, cb.qgs, ?_⟩
  by_cases hlt : j < gs.length
  · rw [if_pos (decide_eq_true (by omega))]
    obtain ⟨a1, q1, q2⟩ := c1.g.at c hlt
    obtain ⟨a2, q3, q4⟩ := c2.g.at d (i := j) (by omega)
    refine ⟨_, fc1 xb, _, _, _, cb.qgs, a1, q1, _, _, _, _, _, q2.all, _, fc1 yb, _, _, _, db.qgs, a2, q3, _, _, _, _, _, q4.all, _, aq_neqg _ _, ?_⟩
    by_cases e2 : gs.getD j gate0 = gs'.getD j gate0
    rotate_left
    · rw [if_pos (decide_eq_true e2)]
      exact hk2 (fun h => e2 (by rw [h.2.1])) H3 X
    rw [if_neg (fun h => (of_decide_eq_true h) e2)]
    exact ⟨gs.length - j - 1, by omega, _, rfl, rfl, j + 1, nxt (n := 1000000) (by omega) (by decide), by omega, by omega, all_succ hall e2⟩
  rw [if_neg (fun h => hlt (by have := of_decide_eq_true h; omega))]
  obtain rfl : j = gs.length := by omega
  have eg : gs = gs' := by
    apply List.ext_getElem eL
    intro t h1 h2
    have := hall t h1
    simpa [h1, h2] using this
  refine privityref32_Equal.loop1 (fun r y H' => H' = H3 ∧ ∃ j : Nat, y = j ∧ j ≤ outs.length ∧ r = outs.length - j ∧ ∀ t, t < j → outs.getD t 0 = outs'.getD t 0) outs.length ⟨rfl, 0, rfl, Nat.zero_le _, rfl, fun t h => by omega⟩ ?_
  rintro r y fr H4 ⟨rfl, j, rfl, hj, rfl, hall2⟩
  unfold privityref32_Equal.B1
  refine ⟨_, fc2 xb, _, _, _, cb.qouts, ?_⟩
  by_cases hlt : j < outs.length
  · rw [if_pos (decide_eq_true (by omega))]
    obtain ⟨a1, q1, q2⟩ := c1.o.at c' hlt
    obtain ⟨a2, q3, q4⟩ := c2.o.at d' (i := j) (by omega)
    refine ⟨_, fc2 xb, _, _, _, cb.qouts, a1, q1, _, q2, _, fc2 yb, _, _, _, db.qouts, a2, q3, _, q4, ?_⟩
    by_cases e2 : outs.getD j 0 = outs'.getD j 0
    rotate_left
    · rw [if_pos (by rw [bne_iff_ne]; exact e2)]
      exact hk2 (fun h => e2 (by rw [h.2.2])) H4 X
    rw [if_neg (by rw [e2]; simp)]
    exact ⟨outs.length - j - 1, by omega, _, rfl, rfl, j + 1, nxt (n := 1000000) (by omega) (by decide), by omega, by omega, all_succ hall2 e2⟩
  rw [if_neg (fun h => hlt (by have := of_decide_eq_true h; omega))]
  obtain rfl : j = outs.length := by omega
  have eo : outs = outs' := by
    apply List.ext_getElem eO
    intro t h1 h2
    have := hall2 t h1
    simpa [h1, h2] using this
  exact hk1 ⟨eP, eg, eo⟩ H4 X
theorem h_few36 (hg : Gs H A n gs) (ho : Outs H A' n' outs) (hk1 : gs.length ≤ 60 → outs.length ≤ 60 → ∀ H', Ext H H' → K (.bool true) H') (hk2 : ∀ H', Ext H H' → K (.bool false) H') :
    HCall Tryd.prog base 27 #[.agg #[.int .u64 P, .slice A n c, .slice A' n' c']] H K := by
  refine privitylaw36_few.spec ?_
  unfold privitylaw36_few.sh
  obtain rfl := hg.1
  obtain rfl := ho.1
  refine h_cbox (fun xb H1 X1 cb => ⟨_, rfl, _, fc1 xb, _, _, _, cb.qgs, ?_⟩)
  by_cases e1 : gs.length ≤ 60
  rotate_left
  · rw [if_neg (fun h => e1 (by have := of_decide_eq_true h; omega))]
    exact hk2 H1 X1
  rw [if_pos (decide_eq_true (by omega))]
  refine ⟨_, fc2 xb, _, _, _, cb.qouts, ?_⟩
  by_cases e2 : outs.length ≤ 60
  · rw [decide_eq_true (by omega : ((outs.length : Nat) : Int) ≤ 60)]
    exact hk1 e1 e2 H1 X1
  · rw [decide_eq_false (by omega : ¬ ((outs.length : Nat) : Int) ≤ 60)]
    exact hk2 H1 X1
end
theorem ex_ck : CK 31 ex1 [4] 31 wa1 [3] [0, 1, 2, 2, 3] := ⟨by decide +kernel, by decide +kernel, rfl, rfl, rfl, by decide, by decide, by decide, by decide, by decide⟩
theorem nil_ck : CK 31 [] [] 31 [] [] [] := ⟨by decide +kernel, by decide +kernel, rfl, rfl, rfl, by decide, by decide, by decide, by decide, by decide⟩
theorem circ_nil (H : HH) : Circ H none 0 [] none 0 [] := ⟨⟨rfl, .inl rfl⟩, ⟨rfl, .inl rfl⟩, by decide, by decide, by decide⟩
section
variable {base : Nat} {H : HH} {K : Value → HH → Prop}
theorem h_awake36 (hG : Gl H) (hk : ∀ H', Ext H H' → K (.bool true) H') : HCall Tryd.prog base 28 #[] H K := by
  refine privitylaw36_awake.spec ?_
  unfold privitylaw36_awake.sh
  refine h_example (fun A1 A2 H1 X1 ce => ⟨_, _, _, _, _, _, _, rfl, h_optimize (by unfold WF; decide) (by decide) ce (fun B1 n1 c1 B2 c2 B3 c3 H2 X2 og hc1 oo ot => ⟨_, _, _, _, _, _, _, _, _, _, rfl, ?_⟩)⟩)
  have eG : optG ex1 [4] = wa1 := by decide +kernel
  have eO : optO ex1 [4] = [3] := by decide +kernel
  have eT : optT ex1 [4] = [0, 1, 2, 2, 3] := by decide +kernel
  rw [eG] at og
  rw [eO] at oo
  rw [eT] at ot
  obtain rfl := og.1
  refine h_alloc (z := .agg #[.int .u64 0, .slice none 0 0, .slice none 0 0]) (by kernel_rfl) (fun rb rn rbase => ⟨_, rfl, h_alloc (z := .agg #[.slice none 0 0]) (by kernel_rfl) (fun tb tn tbase => ⟨_, rfl, ?_⟩)⟩)
  have hne : tb ≠ rb := fun e => by rw [e, upd_self] at tn; cases tn
  have tn' : H2 tb = none := by rwa [upd_ne _ hne] at tn
  have E2 : Ext H2 (upd (upd H2 rb (.cells (Value.agg #[.int .u64 0, .slice none 0 0, .slice none 0 0]).cells tC (0, 0))) tb (.cells (Value.agg #[.slice none 0 0]).cells tCert (0, 0))) := (Ext.upd rn _).trans (Ext.upd tn _)
  refine h_sta (old := (Value.agg #[.int .u64 0, .slice none 0 0, .slice none 0 0]).cells) (vs := [.int .u64 31, .slice B1 4 c1, .slice B2 1 c2]) (by kernel_rfl) rfl (by rw [upd_ne _ (fun e => hne e.symm)]; exact upd_self _ _ _) rbase rfl ?_
  have E3 := ext_same E2 rn (H4 := upd _ rb (.cells [.int .u64 31, .slice B1 4 c1, .slice B2 1 c2].toArray tC (0, 0))) (fun k hk => upd_ne _ hk)
  refine h_sta (old := (Value.agg #[.slice none 0 0]).cells) (vs := [.slice B3 5 c3]) (by kernel_rfl) rfl (by rw [upd_ne _ hne]; exact upd_self _ _ _) tbase rfl ?_
  have E4 := ext_same E3 tn' (H4 := upd _ tb (.cells [.slice B3 5 c3].toArray tCert (0, 0))) (fun k hk => upd_ne _ hk)
  have cv : CB (upd (upd (upd (upd H2 rb (.cells (Value.agg #[.int .u64 0, .slice none 0 0, .slice none 0 0]).cells tC (0, 0))) tb (.cells (Value.agg #[.slice none 0 0]).cells tCert (0, 0))) rb (.cells [.int .u64 31, .slice B1 4 c1, .slice B2 1 c2].toArray tC (0, 0))) tb (.cells [.slice B3 5 c3].toArray tCert (0, 0))) rb 31 B1 4 c1 B2 1 c2 := by
    unfold CB
    rw [upd_ne _ (fun e => hne e.symm)]; exact upd_self _ _ _
  have tv : TB (upd (upd (upd (upd H2 rb (.cells (Value.agg #[.int .u64 0, .slice none 0 0, .slice none 0 0]).cells tC (0, 0))) tb (.cells (Value.agg #[.slice none 0 0]).cells tCert (0, 0))) rb (.cells [.int .u64 31, .slice B1 4 c1, .slice B2 1 c2].toArray tC (0, 0))) tb (.cells [.slice B3 5 c3].toArray tCert (0, 0))) tb B3 5 c3 := upd_self _ _ _
  generalize upd (upd (upd (upd H2 rb (.cells (Value.agg #[.int .u64 0, .slice none 0 0, .slice none 0 0]).cells tC (0, 0))) tb (.cells (Value.agg #[.slice none 0 0]).cells tCert (0, 0))) rb (.cells [.int .u64 31, .slice B1 4 c1, .slice B2 1 c2].toArray tC (0, 0))) tb (.cells [.slice B3 5 c3].toArray tCert (0, 0)) = H3 at E4 cv tv ⊢
  have X03 := X1.trans (X2.trans E4)
  have co : Circ H3 B1 4 wa1 B2 1 [3] := ⟨og.ext E4, oo.ext E4, by decide, by decide, by decide⟩
  have ot3 : Outs H3 B3 5 [0, 1, 2, 2, 3] := ot.ext E4
  have G3 := hG.ext X03
  clear og oo ot E2 E3 E4 eG eO eT X2 X1 hG ce
  refine ⟨_, _, _, _, _, (show AQ Tryd.prog (Instr.build tGate #[(0, .int .i64 1), (1, .int .i64 1)]) (.agg #[.int .i64 1, .int .i64 1, .int .i64 0, .int .i64 0, .int .u64 0]) from fun W => by kernel_rfl), _, _, _, _, _, (show AQ Tryd.prog (Instr.build tGate #[(0, .int .i64 1), (1, .int .i64 1)]) (.agg #[.int .i64 1, .int .i64 1, .int .i64 0, .int .i64 0, .int .u64 0]) from fun W => by kernel_rfl), _, _, _, _, _, (show AQ Tryd.prog (Instr.build tGate #[(0, .int .i64 3), (2, .int .i64 0), (3, .int .i64 1)]) (.agg #[.int .i64 3, .int .i64 0, .int .i64 0, .int .i64 1, .int .u64 0]) from fun W => by kernel_rfl), _, _, _, _, _, (show AQ Tryd.prog (Instr.build tGate #[(0, .int .i64 6), (2, .int .i64 2), (3, .int .i64 2)]) (.agg #[.int .i64 6, .int .i64 0, .int .i64 2, .int .i64 2, .int .u64 0]) from fun W => by kernel_rfl), ?_⟩
  refine lit_gw (fun D1 H4 X4 dg => ⟨_, _, _, rfl, lit_o1 (fun D2 H5 X5 do_ => ⟨_, _, _, rfl, _, _, _, _, _, _, _, (show AQ Tryd.prog (Instr.build tC #[(0, .int .u64 31), (1, .slice D1 4 4), (2, .slice D2 1 1)]) (.agg #[.int .u64 31, .slice D1 4 4, .slice D2 1 1]) from fun W => by kernel_rfl), h_cvar (fun db H6 X6 dv => ?_)⟩)⟩)
  have X36 := X4.trans (X5.trans X6)
  have cw : Circ H6 D1 4 wa1 D2 1 [3] := ⟨dg.ext (X5.trans X6), do_.ext X6, by decide, by decide, by decide⟩
  refine ⟨_, _, _, _, _, _, _, (cv.ext X36).all, _, _, _, _, _, _, _, dv.all, h_equal32 (co.ext X36) cw (fun _ H7 X7 => ⟨_, rfl, ?_⟩) (fun h => absurd ⟨rfl, rfl, rfl⟩ h)⟩
  rw [if_pos rfl]
  have X37 := X36.trans X7
  refine ⟨_, ft0 tb, _, _, _, (tv.ext X37).to, lit_o5 (fun D3 H8 X8 l5 => ⟨_, _, _, rfl, ((tv.ext X37).ext X8).to, h_ints ((ot3.ext X37).ext X8) l5 (by decide) ⟨_, rfl, ?_⟩⟩)⟩
  rw [if_pos (by decide)]
  have X38 := X37.trans X8
  refine ⟨_, _, _, _, _, _, _, (cv.ext X38).all, _, _, _, (tv.ext X38).all, h_example (fun A4 A5 H9 X9 ce => ⟨_, _, _, _, _, _, _, rfl, ((tv.ext X38).ext X9).all, ((cv.ext X38).ext X9).all, ?_⟩)⟩
  have X39 := X38.trans X9
  refine h_check (G3.ext X39) ce (co.ext X39) (ot3.ext X39) (fun _ H10 X10 => ⟨_, rfl, ?_⟩) (fun h => absurd ex_ck h)
  rw [if_pos rfl]
  have X310 := X39.trans X10
  refine ⟨_, _, _, _, _, _, _, (cv.ext X310).all, _, _, _, (show AQ Tryd.prog (Instr.build tCert #[]) (.agg #[.slice none 0 0]) from fun W => by kernel_rfl), h_example (fun A6 A7 H11 X11 ce' => ⟨_, _, _, _, _, _, _, rfl, ((cv.ext X310).ext X11).all, ?_⟩)⟩
  have X311 := X310.trans X11
  refine h_check (G3.ext X311) ce' (co.ext X311) (Outs.none _) (fun h => absurd h.len (by decide)) (fun _ H12 X12 => ⟨_, rfl, ?_⟩)
  rw [if_pos (by decide)]
  have X312 := X311.trans X12
  refine ⟨_, _, _, _, _, _, _, (show AQ Tryd.prog (Instr.build tC #[(0, .int .u64 31)]) (.agg #[.int .u64 31, .slice none 0 0, .slice none 0 0]) from fun W => by kernel_rfl), _, _, _, _, _, _, _, (show AQ Tryd.prog (Instr.build tC #[(0, .int .u64 31)]) (.agg #[.int .u64 31, .slice none 0 0, .slice none 0 0]) from fun W => by kernel_rfl), _, _, _, (show AQ Tryd.prog (Instr.build tCert #[]) (.agg #[.slice none 0 0]) from fun W => by kernel_rfl), ?_⟩
  refine h_check (G3.ext X312) (circ_nil _) (circ_nil _) (Outs.none _) (fun _ H13 X13 => ⟨_, rfl, hk H13 (X03.trans (X312.trans X13))⟩) (fun h => absurd nil_ck h)
end
end Go.Proofs.YtjpaichcaaacbaaDoor.HL
end
namespace Go.Proofs.YtjpaichcaaacbaaDoor.HL
end Go.Proofs.YtjpaichcaaacbaaDoor.HL
namespace Go.Proofs.YtjpaichcaaacbaaDoor.HL
end Go.Proofs.YtjpaichcaaacbaaDoor.HL
section
set_option linter.unusedVariables false
set_option linter.unusedSimpArgs false
set_option linter.unusedSectionVars false
set_option maxHeartbeats 8000000
namespace Go.Proofs.YtjpaichcaaacbaaDoor.HL
open Go Go.Proofs.YtjpaichcaaacbaaDoorNum Go.Proofs.YtjpaichcaaacbaaDoor.FEv
section
variable {base : Nat} {H : HH} {A A' T : Option Addr} {n n' c c' nt ct : Nat} {P : Int} {gs : List Gate} {outs tt : List Int}
theorem opt_nn {nd : Nat → Bool} (hnn : ∀ g ∈ gs, 0 ≤ g.k) : ∀ i, ∀ g ∈ (cL gs nd i).2, 0 ≤ g.k
  | 0 => fun g h => by cases h
  | i + 1 => fun g h => by
    by_cases hk : kept gs nd i
    · rw [cL_kept hk] at h
      rcases List.mem_append.1 h with h | h
      · exact opt_nn hnn i g h
      · rw [List.mem_singleton.1 h]
        exact nn_get hnn i
    · rw [cL_drop hk] at h
      exact opt_nn hnn i g h
/-- What Optimize answers is a circuit. -/
theorem opt_circ {H' : HH} {A1 A2 : Option Addr} {n1 : Nat} (h : Circ H A n gs A' n' outs) (g : Gs H' A1 n1 (optG gs outs)) (o : Outs H' A2 outs.length (optO gs outs)) : Circ H' A1 n1 (optG gs outs) A2 outs.length (optO gs outs) :=
  ⟨g, o, opt_nn h.nn _, by have := cL_le gs (ndAll gs outs) gs.length; have := h.lg; unfold optG; omega, by have := h.lo; simp [optO]; omega⟩
theorem VOK.outs' {gs : List Gate} {outs : List Int} (h : VOK P gs outs) : ∀ i, i < outs.length → 0 ≤ outs.getD i 0 ∧ outs.getD i 0 < (gs.length : Int) := fun i hi => h.outA hi
end
end Go.Proofs.YtjpaichcaaacbaaDoor.HL
end
section
set_option linter.unusedVariables false
set_option linter.unusedSimpArgs false
set_option linter.unusedSectionVars false
set_option maxHeartbeats 4000000
namespace Go.Proofs.YtjpaichcaaacbaaDoor.HL
open Go Go.Proofs.YtjpaichcaaacbaaDoorNum Go.Proofs.YtjpaichcaaacbaaDoor.FEv
theorem key_of {f : Nat → Nat} {g g' : Gate} (hk : g.kind = g'.kind) (hkk : g.k = g'.k)
    (h1 : sA g.kind = true → sB g.kind = false → f g.a.toNat = f g'.a.toNat)
    (h2 : sB g.kind = true → (f g.a.toNat = f g'.a.toNat ∧ f g.b.toNat = f g'.b.toNat) ∨ (cm g.kind = true ∧ f g.a.toNat = f g'.b.toNat ∧ f g.b.toNat = f g'.a.toNat)) : keyF f g = keyF f g' := by
  cases sb : sB g.kind with
  | true =>
    rcases h2 sb with ⟨e1, e2⟩ | ⟨hc, e1, e2⟩
    · unfold keyF
      rw [e1, e2, hk, hkk]
    · have hc' : cm g'.kind = true := hk ▸ hc
      have sb' : sB g'.kind = true := hk ▸ sb
      rcases Nat.lt_trichotomy (f g.a.toNat) (f g.b.toNat) with h | h | h
      · rw [keyF_two sb (fun x => by have := x.2; omega), keyF_sw hc' (by omega), hk, hkk, e1, e2]
      · rw [keyF_two sb (fun x => by have := x.2; omega), keyF_two sb' (fun x => by have := x.2; omega), hk, hkk, ← e1, ← e2, h]
      · rw [keyF_sw hc (by omega), keyF_two sb' (fun x => by have := x.2; omega), hk, hkk, e1, e2]
  | false =>
    have sb' : sB g'.kind = false := hk ▸ sb
    cases sa : sA g.kind with
    | true => rw [keyF_one sa sb, keyF_one (hk ▸ sa) sb', hk, hkk, h1 sa sb]
    | false =>
      have sa' : sA g'.kind = false := hk ▸ sa
      have key : ∀ g : Gate, sA g.kind = false → sB g.kind = false → keyF f g = ⟨g.kind, 0, 0, g.k⟩ := fun g a b => by
        unfold keyF
        rw [if_neg (fun h => by rw [cm_sB h.1] at b; cases b), if_neg (by rw [a]; decide), if_neg (by rw [b]; decide)]
      rw [key g sa sb, key g' sa' sb', hk, hkk]
section
end
section
end
end Go.Proofs.YtjpaichcaaacbaaDoor.HL
end
section
set_option linter.unusedVariables false
set_option linter.unusedSimpArgs false
set_option linter.unusedSectionVars false
set_option maxHeartbeats 4000000
namespace Go.Proofs.YtjpaichcaaacbaaDoor.HL
open Go Go.Proofs.YtjpaichcaaacbaaDoorNum Go.Proofs.YtjpaichcaaacbaaDoor.FEv
/-- A gate over other operands. -/
def gOn (al : List Int) (g : Gate) : Gate := ⟨g.kind, g.frm, if sA g.kind = true then al.getD g.a.toNat 0 else g.a, if sB g.kind = true then al.getD g.b.toNat 0 else g.b, g.k⟩
/-- Where the first gates' duplicates lie, and the duplicates. -/
def dL (gs : List Gate) : Nat → List Int × List Gate
  | 0 => ([], [])
  | i + 1 =>
    let r := dL gs i
    if (gs.getD i gate0).kind = 1 then (r.1 ++ [(i : Int)], r.2)
    else (r.1 ++ [((gs.length + r.2.length : Nat) : Int)], r.2 ++ [gOn r.1 (gs.getD i gate0)])
theorem dL_len (gs : List Gate) : ∀ i, (dL gs i).1.length = i
  | 0 => rfl
  | i + 1 => by
    have := dL_len gs i
    unfold dL
    dsimp only
    split
    · simp [this]
    · simp [this]
theorem dL_le (gs : List Gate) : ∀ i, (dL gs i).2.length ≤ i
  | 0 => Nat.le_refl _
  | i + 1 => by
    have := dL_le gs i
    unfold dL
    dsimp only
    split
    · exact Nat.le_succ_of_le this
    · rw [List.length_append, List.length_singleton]; omega
def atN (gs : List Gate) (k : Nat) : Int := (dL gs (k + 1)).1.getD k 0
section
variable {gs : List Gate}
theorem dL_eq (i : Nat) : dL gs (i + 1) = if (gs.getD i gate0).kind = 1 then ((dL gs i).1 ++ [(i : Int)], (dL gs i).2) else ((dL gs i).1 ++ [((gs.length + (dL gs i).2.length : Nat) : Int)], (dL gs i).2 ++ [gOn (dL gs i).1 (gs.getD i gate0)]) := rfl
theorem dL_succ1 (i : Nat) : ∃ x, (dL gs (i + 1)).1 = (dL gs i).1 ++ [x] := by
  rw [dL_eq]
  split
  · exact ⟨_, rfl⟩
  · exact ⟨_, rfl⟩
theorem dL_get {k : Nat} : ∀ {i : Nat}, k < i → (dL gs i).1.getD k 0 = atN gs k
  | 0, h => by omega
  | i + 1, h => by
    rcases Nat.lt_or_ge k i with h1 | h1
    · obtain ⟨x, e⟩ := dL_succ1 (gs := gs) i
      rw [e, getD_app_lt (by rw [dL_len]; exact h1)]; exact dL_get h1
    · obtain rfl : k = i := by omega
      rfl
theorem atN_in {i : Nat} (h : (gs.getD i gate0).kind = 1) : atN gs i = i := by
  unfold atN
  rw [dL_eq, if_pos h]
  exact getD_app_len (dL_len _ _).symm
theorem atN_no {i : Nat} (h : (gs.getD i gate0).kind ≠ 1) : atN gs i = ((gs.length + (dL gs i).2.length : Nat) : Int) := by
  unfold atN
  rw [dL_eq, if_neg h]
  exact getD_app_len (dL_len _ _).symm
/-- The duplicate of a gate. -/
theorem dL_at {i : Nat} (h : (gs.getD i gate0).kind ≠ 1) : ∀ {j : Nat}, i < j → (dL gs i).2.length < (dL gs j).2.length ∧ (dL gs j).2.getD (dL gs i).2.length gate0 = gOn (dL gs i).1 (gs.getD i gate0)
  | 0, hj => by omega
  | j + 1, hj => by
    rcases Nat.lt_or_ge i j with h1 | h1
    · obtain ⟨l, ih⟩ := dL_at h h1
      rw [dL_eq]
      split
      · exact ⟨l, ih⟩
      · exact ⟨by rw [List.length_append]; omega, by rw [getD_app_lt l]; exact ih⟩
    · obtain rfl : i = j := by omega
      rw [dL_eq, if_neg h]
      exact ⟨by rw [List.length_append]; exact Nat.lt_succ_self _, getD_app_len rfl⟩
theorem dL_onto {p : Nat} : ∀ {j : Nat}, p < (dL gs j).2.length → ∃ i, i < j ∧ (gs.getD i gate0).kind ≠ 1 ∧ (dL gs i).2.length = p
  | 0, h => by
    have : (dL gs 0).2.length = 0 := rfl
    omega
  | j + 1, h => by
    rw [dL_eq] at h
    by_cases k1 : (gs.getD j gate0).kind = 1
    · rw [if_pos k1] at h
      obtain ⟨i, h2, h3⟩ := dL_onto (show p < (dL gs j).2.length from h)
      exact ⟨i, by omega, h3⟩
    · rw [if_neg k1, List.length_append, List.length_singleton] at h
      rcases Nat.lt_or_ge p (dL gs j).2.length with h1 | h1
      · obtain ⟨i, h2, h3⟩ := dL_onto h1
        exact ⟨i, by omega, h3⟩
      · exact ⟨j, by omega, k1, by omega⟩
end
section
variable {gs l : List Gate}
theorem fL_pre : ∀ i, i ≤ gs.length → fL (gs ++ l) i = fL gs i
  | 0, _ => rfl
  | i + 1, h => by
    have ih := fL_pre i (by omega)
    rw [fL, fL, ih]
    congr 2
    unfold repG
    rw [getD_app_lt (show i < gs.length by omega)]
    split
    · rfl
    · congr 1
      refine find_congr (fun t ht => ?_)
      have := List.mem_range.1 ht
      unfold isKey
      rw [getD_app_lt (show t < gs.length by omega)]
theorem fN_pre {k : Nat} (h : k < gs.length) : fN (gs ++ l) k = fN gs k := by
  unfold fN
  rw [fL_pre _ (by omega)]
end
def dG (gs : List Gate) : List Gate := gs ++ (dL gs gs.length).2
def dO (gs : List Gate) (outs : List Int) : List Int := outs ++ outs.map fun o => atN gs o.toNat
section
variable {P : Int} {gs : List Gate} {outs : List Int}
theorem dG_len : (dG gs).length = gs.length + (dL gs gs.length).2.length := by unfold dG; rw [List.length_append]
theorem dG_lo {i : Nat} (h : i < gs.length) : (dG gs).getD i gate0 = gs.getD i gate0 := getD_app_lt h
theorem dG_hi {i : Nat} (h : i < gs.length) (k1 : (gs.getD i gate0).kind ≠ 1) : (dG gs).getD (gs.length + (dL gs i).2.length) gate0 = gOn (dL gs i).1 (gs.getD i gate0) ∧ gs.length + (dL gs i).2.length < (dG gs).length := by
  obtain ⟨l, e⟩ := dL_at k1 h
  refine ⟨?_, by rw [dG_len]; omega⟩
  unfold dG
  rw [List.getD_eq_getElem?_getD, List.getElem?_append_right (by omega), show gs.length + (dL gs i).2.length - gs.length = (dL gs i).2.length by omega, ← List.getD_eq_getElem?_getD]
  exact e
theorem dG_onto {q : Nat} (h1 : gs.length ≤ q) (h2 : q < (dG gs).length) : ∃ i, i < gs.length ∧ (gs.getD i gate0).kind ≠ 1 ∧ q = gs.length + (dL gs i).2.length := by
  rw [dG_len] at h2
  obtain ⟨i, h3, h4, h5⟩ := dL_onto (gs := gs) (p := q - gs.length) (j := gs.length) (by omega)
  exact ⟨i, h3, h4, by omega⟩
theorem atN_bd {i : Nat} (h : i < gs.length) : 0 ≤ atN gs i ∧ atN gs i < ((dG gs).length : Int) := by
  by_cases k1 : (gs.getD i gate0).kind = 1
  · rw [atN_in k1, dG_len]; omega
  · rw [atN_no k1]
    have := (dG_hi h k1).2
    omega
variable (W : WF gs) (W' : WF (dG gs))
include W W'
/-- A duplicate is represented by its model's representative. -/
theorem dG_fN : ∀ i, i < gs.length → fN (dG gs) (atN gs i).toNat = fN gs i := by
  intro i
  induction i using Nat.strongRecOn with
  | _ i ih =>
  intro hi
  have lo : ∀ {k}, k < gs.length → fN (dG gs) k = fN gs k := fun h => fN_pre h
  by_cases k1 : (gs.getD i gate0).kind = 1
  · rw [atN_in k1, Int.toNat_natCast]; exact lo hi
  obtain ⟨e, hl⟩ := dG_hi hi k1
  obtain ⟨wa, wb⟩ := W i hi
  rw [atN_no k1, Int.toNat_natCast]
  have hi' : i < (dG gs).length := by rw [dG_len]; omega
  have ke : keyF (fN (dG gs)) (gOn (dL gs i).1 (gs.getD i gate0)) = keyF (fN (dG gs)) (gs.getD i gate0) := by
    have oA : sA (gs.getD i gate0).kind = true → fN (dG gs) (gOn (dL gs i).1 (gs.getD i gate0)).a.toNat = fN (dG gs) (gs.getD i gate0).a.toNat := fun sa => by
      have := wa sa
      unfold gOn
      dsimp only
      rw [if_pos sa, dL_get (by omega), ih _ (by omega) (by omega), lo (by omega)]
    have oB : sB (gs.getD i gate0).kind = true → fN (dG gs) (gOn (dL gs i).1 (gs.getD i gate0)).b.toNat = fN (dG gs) (gs.getD i gate0).b.toNat := fun sb => by
      have := wb sb
      unfold gOn
      dsimp only
      rw [if_pos sb, dL_get (by omega), ih _ (by omega) (by omega), lo (by omega)]
    exact key_of rfl rfl (fun sa _ => oA sa) (fun sb => .inl ⟨oA (sB_sA sb), oB sb⟩)
  rw [← lo hi]
  refine fN_same W' hl hi' (by rw [e]; exact k1) (by rw [dG_lo hi]; exact k1) ?_
  rw [e, dG_lo hi, ke]
theorem dG_hiN {q : Nat} (h1 : gs.length ≤ q) (h2 : q < (dG gs).length) : fN (dG gs) q < gs.length := by
  obtain ⟨i, hi, k1, rfl⟩ := dG_onto h1 h2
  have := dG_fN W W' i hi
  rw [atN_no k1, Int.toNat_natCast] at this
  rw [this]
  have := fN_le W hi
  omega
variable (hO : ∀ i, i < outs.length → 0 ≤ outs.getD i 0 ∧ outs.getD i 0 < (gs.length : Int))
include hO
theorem dG_out (t : Nat) : ndOut (dG gs) (dO gs outs) (dO gs outs).length t = ndOut gs outs outs.length t := by
  have hx : ∀ x ∈ outs, 0 ≤ x ∧ x < (gs.length : Int) := fun x hx => by
    obtain ⟨i, hi, e⟩ := List.mem_iff_getElem.1 hx
    have := hO i hi
    rw [show outs.getD i 0 = x by simp [hi, e]] at this
    exact this
  unfold ndOut dO
  rw [List.take_length, List.take_length, List.any_append, List.any_map]
  have e1 : (outs.any fun o => fN (dG gs) o.toNat == t) = outs.any fun o => fN gs o.toNat == t := by
    rw [Bool.eq_iff_iff, List.any_eq_true, List.any_eq_true]
    constructor
    · rintro ⟨x, h1, h2⟩
      have := hx x h1
      exact ⟨x, h1, by rw [← fN_pre (l := (dL gs gs.length).2) (show x.toNat < gs.length by omega)]; exact h2⟩
    · rintro ⟨x, h1, h2⟩
      have := hx x h1
      exact ⟨x, h1, by rw [show fN (dG gs) x.toNat = fN gs x.toNat from fN_pre (by omega)]; exact h2⟩
  have e2 : (outs.any ((fun o => fN (dG gs) o.toNat == t) ∘ fun o => atN gs o.toNat)) = outs.any fun o => fN gs o.toNat == t := by
    rw [Bool.eq_iff_iff, List.any_eq_true, List.any_eq_true]
    constructor
    · rintro ⟨x, h1, h2⟩
      have := hx x h1
      exact ⟨x, h1, by rw [← dG_fN W W' x.toNat (by omega)]; exact h2⟩
    · rintro ⟨x, h1, h2⟩
      have := hx x h1
      refine ⟨x, h1, ?_⟩
      show (fN (dG gs) (atN gs x.toNat).toNat == t) = true
      rw [dG_fN W W' x.toNat (by omega)]; exact h2
  rw [e1, e2, Bool.or_self]
theorem out_lo {t : Nat} (h : gs.length ≤ t) : ndOut gs outs outs.length t = false := by
  cases e : ndOut gs outs outs.length t with
  | false => rfl
  | true =>
    unfold ndOut at e
    rw [List.take_length, List.any_eq_true] at e
    obtain ⟨x, h1, h2⟩ := e
    obtain ⟨i, hi, ei⟩ := List.mem_iff_getElem.1 h1
    have ho := hO i hi
    rw [show outs.getD i 0 = x by simp [hi, ei]] at ho
    have e : fN gs x.toNat = t := by simpa using h2
    have := fN_le W (i := x.toNat) (by omega)
    omega
theorem dG_back1 : ∀ m, m ≤ (dL gs gs.length).2.length → ndBack (dG gs) (dO gs outs) m = ndOut gs outs outs.length
  | 0, _ => funext fun t => dG_out W W' hO t
  | m + 1, h => by
    have ih := dG_back1 m (by omega)
    have hl := dG_len (gs := gs)
    show ndStep (dG gs) (ndBack (dG gs) (dO gs outs) m) ((dG gs).length - 1 - m) = _
    rw [ih]
    obtain ⟨i, hi, k1, e⟩ := dG_onto (gs := gs) (q := (dG gs).length - 1 - m) (by omega) (by omega)
    have kq : ((dG gs).getD ((dG gs).length - 1 - m) gate0).kind ≠ 1 := by rw [e, (dG_hi hi k1).1]; exact k1
    have n1 : nd1 (dG gs) (ndOut gs outs outs.length) ((dG gs).length - 1 - m) = ndOut gs outs outs.length := by
      unfold nd1
      rw [if_neg kq]
    rw [ndStep_eq, n1, if_pos (out_lo W W' hO (by omega))]
theorem dG_step {i : Nat} (hi : i < gs.length) (nd : Nat → Bool) : ndStep (dG gs) nd i = ndStep gs nd i := by
  obtain ⟨wa, wb⟩ := W i hi
  have n1 : nd1 (dG gs) nd i = nd1 gs nd i := by unfold nd1; rw [dG_lo hi]
  have n2 : nd2 (dG gs) nd i = nd2 gs nd i := by
    unfold nd2
    rw [dG_lo hi, n1]
    split
    · rename_i sa
      have := wa sa
      rw [show fN (dG gs) (gs.getD i gate0).a.toNat = fN gs (gs.getD i gate0).a.toNat from fN_pre (by omega)]
    · rfl
  rw [ndStep_eq, ndStep_eq, n1, n2, dG_lo hi]
  split
  · rfl
  · split
    · rename_i sb
      have := wb sb
      rw [show fN (dG gs) (gs.getD i gate0).b.toNat = fN gs (gs.getD i gate0).b.toNat from fN_pre (by omega)]
    · rfl
theorem dG_back2 : ∀ m, m ≤ gs.length → ndBack (dG gs) (dO gs outs) ((dL gs gs.length).2.length + m) = ndBack gs outs m
  | 0, _ => dG_back1 W W' hO _ (Nat.le_refl _)
  | m + 1, h => by
    have ih := dG_back2 m (by omega)
    have hl := dG_len (gs := gs)
    show ndStep (dG gs) (ndBack (dG gs) (dO gs outs) ((dL gs gs.length).2.length + m)) ((dG gs).length - 1 - ((dL gs gs.length).2.length + m)) = ndStep gs (ndBack gs outs m) (gs.length - 1 - m)
    rw [ih, show (dG gs).length - 1 - ((dL gs gs.length).2.length + m) = gs.length - 1 - m by omega]
    exact dG_step W W' hO (by omega) _
theorem dG_all : ndAll (dG gs) (dO gs outs) = ndAll gs outs := by
  have := dG_back2 W W' hO gs.length (Nat.le_refl _)
  unfold ndAll
  rw [dG_len, Nat.add_comm]
  exact this
omit hO
theorem dG_cL (nd : Nat → Bool) : ∀ i, i ≤ gs.length → cL (dG gs) nd i = cL gs nd i
  | 0, _ => rfl
  | i + 1, h => by
    have ih := dG_cL nd i (by omega)
    have hi : i < gs.length := by omega
    obtain ⟨wa, wb⟩ := W i hi
    have em : mapG (dG gs) (cL gs nd i).1 (gs.getD i gate0) = mapG gs (cL gs nd i).1 (gs.getD i gate0) := by
      unfold mapG
      have ea : (if sA (gs.getD i gate0).kind = true then (cL gs nd i).1.getD (fN (dG gs) (gs.getD i gate0).a.toNat) 0 else (gs.getD i gate0).a) = if sA (gs.getD i gate0).kind = true then (cL gs nd i).1.getD (fN gs (gs.getD i gate0).a.toNat) 0 else (gs.getD i gate0).a := by
        split
        · rename_i sa
          have := wa sa
          rw [show fN (dG gs) (gs.getD i gate0).a.toNat = fN gs (gs.getD i gate0).a.toNat from fN_pre (by omega)]
        · rfl
      have eb : (if sB (gs.getD i gate0).kind = true then (cL gs nd i).1.getD (fN (dG gs) (gs.getD i gate0).b.toNat) 0 else (gs.getD i gate0).b) = if sB (gs.getD i gate0).kind = true then (cL gs nd i).1.getD (fN gs (gs.getD i gate0).b.toNat) 0 else (gs.getD i gate0).b := by
        split
        · rename_i sb
          have := wb sb
          rw [show fN (dG gs) (gs.getD i gate0).b.toNat = fN gs (gs.getD i gate0).b.toNat from fN_pre (by omega)]
        · rfl
      rw [ea, eb]
    rw [cL_eq, cL_eq, ih, dG_lo hi, em, show fN (dG gs) i = fN gs i from fN_pre hi]
theorem dG_cL2 (nd : Nat → Bool) : ∀ m, gs.length + m ≤ (dG gs).length → (cL (dG gs) nd (gs.length + m)).2 = (cL gs nd gs.length).2
  | 0, _ => by
    have := dG_cL W W' nd gs.length (Nat.le_refl _)
    exact congrArg Prod.snd this
  | m + 1, h => by
    have ih := dG_cL2 nd m (by omega)
    have := dG_hiN W W' (q := gs.length + m) (by omega) (by omega)
    have hk : ¬ kept (dG gs) nd (gs.length + m) := fun h => by have := h.2; omega
    rw [show gs.length + (m + 1) = (gs.length + m) + 1 by omega, cL_drop hk]
    exact ih
include hO
theorem dG_optG : optG (dG gs) (dO gs outs) = optG gs outs := by
  unfold optG
  rw [dG_all W W' hO, dG_len]
  exact dG_cL2 W W' _ _ (by rw [dG_len]; exact Nat.le_refl _)
theorem dG_optO : optO (dG gs) (dO gs outs) = optO gs outs ++ optO gs outs := by
  have hx : ∀ x ∈ outs, 0 ≤ x ∧ x < (gs.length : Int) := fun x hx => by
    obtain ⟨i, hi, e⟩ := List.mem_iff_getElem.1 hx
    have := hO i hi
    rw [show outs.getD i 0 = x by simp [hi, e]] at this
    exact this
  have ps : ∀ t, t < gs.length → pos (dG gs) (ndAll gs outs) t = pos gs (ndAll gs outs) t := fun t ht => by
    unfold pos
    rw [dG_cL W W' _ _ (by omega)]
  have tv : ∀ (q i : Nat), q < (dG gs).length → i < gs.length → fN (dG gs) q = fN gs i → (optT (dG gs) (dO gs outs)).getD q 0 = (optT gs outs).getD i 0 := fun q i hq hi e => by
    unfold optT
    have hf := fN_le W hi
    rw [dG_all W W' hO, cL_get hq, cL_get hi, tN_eq W' _ hq, tN_eq W _ hi, e, ps _ (by omega)]
  have hl := dG_len (gs := gs)
  unfold optO dO
  rw [List.map_append, List.map_map]
  congr 1
  · refine List.map_congr_left (fun x h => ?_)
    have := hx x h
    exact tv _ _ (by omega) (by omega) (fN_pre (by omega))
  · refine List.map_congr_left (fun x h => ?_)
    have := hx x h
    have bd := atN_bd (gs := gs) (i := x.toNat) (by omega)
    have hlt : (atN gs x.toNat).toNat < (dG gs).length := by omega
    exact tv _ _ hlt (by omega) (dG_fN W W' _ (by omega))
end
end Go.Proofs.YtjpaichcaaacbaaDoor.HL
end
namespace Go.Proofs.YtjpaichcaaacbaaDoor.HL
end Go.Proofs.YtjpaichcaaacbaaDoor.HL
section
set_option linter.unusedVariables false
set_option linter.unusedSimpArgs false
set_option linter.unusedSectionVars false
set_option maxHeartbeats 8000000
namespace Go.Proofs.YtjpaichcaaacbaaDoor.HL
open Go Go.Proofs.YtjpaichcaaacbaaDoorNum Go.Proofs.YtjpaichcaaacbaaDoor.FEv
section
variable {base : Nat} {F H H' : HH} {A A1 : Option Addr} {n n1 c c1 m : Nat} {l l1 : List Int}
theorem z_mk0 (X : Ext F H) {K : Value → HH → Prop} (hk : ∀ A c H', Ext H H' → OwnZ base F H' A 0 c [] → K (.slice A 0 c) H') : HRun Tryd.prog base (Instr.buildSlice tInts 0 #[]) H K := by
  refine h_lit0 (sz := 1) unInts info3 (fun b hb hbase => ?_)
  refine hk _ _ _ (Ext.upd hb _) ⟨by simpa [is] using Own.lit (H := H) (T := 3) (sz := 1) hbase #[] 0 (by decide) (by simp), X.trans (Ext.upd hb _), fun b' hb' => ?_⟩
  have e : b = b' := by simpa [Value.ownBlock] using hb'
  rw [← e]; exact X.none hb
theorem z_app (o : OwnZ base F H A n c l) (hg : Outs H A1 m l1) (h1 : n ≤ 100000) (h2 : m ≤ 100000) {ty : Nat} {K : Value → HH → Prop} (hk : ∀ A' c' H', OwnZ base F H' A' (n + m) c' (l ++ l1) → Grows H H' (.slice A n c) (.slice A' (n + m) c') → K (.slice A' (n + m) c') H') :
    HRun Tryd.prog base (Builtin.append_ #[tInts, tInts] ty #[.slice A n c, .slice A1 m c1]) H K := by
  have e1 := hg.1
  refine h_app (m := m) (ys := is l1) unInts inf3 rfl (by decide) o.1 hg.2 (by rw [is_len]; omega) (fun u hu => by
    unfold is at hu
    obtain ⟨x, _, rfl⟩ := List.mem_map.1 hu
    rfl) (fun e => ?_) (by omega) (by decide) (fun A' c' H' h2 g => hk A' c' H' ⟨by simpa [is] using h2, o.2.grow g⟩ g)
  rcases hg.2 with e2 | ⟨ad, e2, _⟩
  · have := congrArg List.length e2
    rw [is_len, List.length_nil] at this
    omega
  · rw [e] at e2; cases e2
end
structure DS (base : Nat) (F H : HH) (Ag : Option Addr) (ng cg : Nat) (gg : List Gate) (Ao : Option Addr) (no co : Nat) (oo : List Int) (rb : Option Nat) : Prop where
  rl : Rl base F H Ag ng cg gg
  ol : OwnZ base F H Ao no co oo
  bx : ∀ b, rb = some b → base ≤ b ∧ F b = none ∧ H b = some (.cells (Value.agg #[.int .u64 0, .slice none 0 0, .slice none 0 0]).cells tC (0, 0))
section
variable {base : Nat} {F H H' : HH} {Ag Ao A : Option Addr} {ng cg no co n c xb n' c' : Nat} {A' : Option Addr} {gg gs : List Gate} {oo outs : List Int} {rb : Option Nat} {P : Int}
theorem DS.start (base : Nat) (H : HH) : DS base H H none 0 0 [] none 0 0 [] none :=
  ⟨⟨.refl _, Own.nil _ _ _ _, fun b hb => by simp [Value.ownBlock] at hb⟩, OwnZ.nil _ _, fun b h => by cases h⟩
theorem DS.ext (S : DS base F H Ag ng cg gg Ao no co oo rb) : Ext F H := S.ol.ext
theorem DS.qo (S : DS base F H Ag ng cg gg Ao no co oo rb) (cb : CB F xb P A n c A' n' c') : QRun Tryd.prog (Instr.loadAt tInts (.pointer (some ⟨xb, 2, none⟩))) H (.slice A' n' c') := (cb.ext S.ext).qouts
theorem DS.qg (S : DS base F H Ag ng cg gg Ao no co oo rb) (cb : CB F xb P A n c A' n' c') : QRun Tryd.prog (Instr.loadAt tGates (.pointer (some ⟨xb, 1, none⟩))) H (.slice A n c) := (cb.ext S.ext).qgs
theorem DS.qp (S : DS base F H Ag ng cg gg Ao no co oo rb) (cb : CB F xb P A n c A' n' c') : QRun Tryd.prog (Instr.loadAt 22 (.pointer (some ⟨xb, 0, none⟩))) H (.int .u64 P) := (cb.ext S.ext).qp
theorem ds_g1 (S : DS base F H none 0 0 [] Ao no co oo rb) {K : Value → HH → Prop} (hk : ∀ A c H', DS base F H' A 0 c [] Ao no co oo rb → K (.slice A 0 c) H') : HRun Tryd.prog base (Instr.buildSlice tGates 0 #[]) H K :=
  gates_mk0 (fun A' c' H' o f => hk A' c' H' ⟨⟨S.ext.trans f.ext, o, fun b hb => S.ext.none (f.off b hb)⟩, S.ol.more f.ext, fun b e => by
    obtain ⟨h1, h2, h3⟩ := S.bx b e
    exact ⟨h1, h2, f.ext _ _ h3⟩⟩)
theorem ds_o1 (S : DS base F H Ag ng cg gg none 0 0 [] rb) {K : Value → HH → Prop} (hk : ∀ A c H', DS base F H' Ag ng cg gg A 0 c [] rb → K (.slice A 0 c) H') : HRun Tryd.prog base (Instr.buildSlice tInts 0 #[]) H K :=
  z_mk0 S.ext (fun A' c' H' X o => hk A' c' H' ⟨S.rl.more X, o, fun b e => by
    obtain ⟨h1, h2, h3⟩ := S.bx b e
    exact ⟨h1, h2, X _ _ h3⟩⟩)
theorem DS.gob (S : DS base F H Ag ng cg gg Ao no co oo rb) {g : Nat} (h : (Value.slice Ao no co).ownBlock = some g) : (Value.slice Ag ng cg).ownBlock ≠ some g := fun e => by
  obtain ⟨cu, hc⟩ := S.ol.tag h
  obtain ⟨cu', hc'⟩ := S.rl.tag e
  rw [hc] at hc'
  exact absurd (cells_tag hc') (by decide)
theorem ds_g2 (S : DS base F H A 0 c [] Ao no co oo rb) {A1 : Option Addr} {n1 c1 : Nat} (hg : Gs F A1 n1 gs) (hl : n1 ≤ 100000) {ty : Nat} {K : Value → HH → Prop} (hk : ∀ A' c' H', DS base F H' A' n1 c' gs Ao no co oo rb → K (.slice A' n1 c') H') :
    HRun Tryd.prog base (Builtin.append_ #[tGates, tGates] ty #[.slice A 0 c, .slice A1 n1 c1]) H K := by
  have hg := hg.ext S.ext
  have e1 := hg.1
  refine h_app (m := n1) (ys := gc gs) (z := .agg (gv gate0).toArray) unGates aq_gate0 rfl (by decide) S.rl.own hg.2 (by rw [gc_len]; omega) (fun u hu => by
    obtain ⟨g, _, h⟩ := List.mem_flatMap.1 hu
    exact gv_one h) (fun e => ?_) (by omega) (by decide) (fun A' c' H2 h2 g => ?_)
  · rcases hg.2 with e2 | ⟨ad, e2, _⟩
    · have := congrArg List.length e2
      rw [gc_len, List.length_nil] at this
      omega
    · rw [e] at e2; cases e2
  · rw [Nat.zero_add] at h2 g ⊢
    have fz : Frz F H (.slice A 0 c) := ⟨S.ext, S.rl.off⟩
    have f2 := fz.grow g
    refine hk A' c' H2 ⟨⟨f2.ext, by simpa [gc] using h2, f2.off⟩, ⟨S.ol.1.move (fun k x hk hx => g.keep k x (S.gob hk) hx), f2.ext, S.ol.2.off⟩, fun b e => ?_⟩
    obtain ⟨h3, h4, h5⟩ := S.bx b e
    refine ⟨h3, h4, g.keep b _ (fun e => ?_) h5⟩
    obtain ⟨cu, hc⟩ := S.rl.tag e
    rw [h5] at hc
    exact absurd (cells_tag hc) (by decide)
theorem ds_o2 (S : DS base F H Ag ng cg gg A 0 c [] rb) {A1 : Option Addr} {n1 c1 : Nat} (hg : Outs F A1 n1 outs) (hl : n1 ≤ 100000) {ty : Nat} {K : Value → HH → Prop} (hk : ∀ A' c' H', DS base F H' Ag ng cg gg A' n1 c' outs rb → K (.slice A' n1 c') H') :
    HRun Tryd.prog base (Builtin.append_ #[tInts, tInts] ty #[.slice A 0 c, .slice A1 n1 c1]) H K := by
  refine z_app S.ol (hg.ext S.ext) (by omega) hl (fun A' c' H2 o2 g => ?_)
  rw [Nat.zero_add] at o2 g ⊢
  rw [List.nil_append] at o2
  refine hk A' c' H2 ⟨⟨o2.ext, S.rl.own.move (fun k x hk hx => g.keep k x (fun e => S.gob e hk) hx), S.rl.off⟩, o2, fun b e => ?_⟩
  obtain ⟨h3, h4, h5⟩ := S.bx b e
  refine ⟨h3, h4, g.keep b _ (fun e => ?_) h5⟩
  obtain ⟨cu, hc⟩ := S.ol.tag e
  rw [h5] at hc
  exact absurd (cells_tag hc) (by decide)
theorem ds_al (S : DS base F H Ag ng cg gg Ao no co oo none) {old : Value} {K : Value → HH → Prop} (hk : ∀ b H', DS base F H' Ag ng cg gg Ao no co oo (some b) → K (.pointer (some ⟨b, 0, none⟩)) H') : HRun Tryd.prog base (Instr.alloc tC true old) H K :=
  h_alloc (z := .agg #[.int .u64 0, .slice none 0 0, .slice none 0 0]) (by kernel_rfl) (fun b bn hb => hk b _ ⟨S.rl.more (Ext.upd bn _), S.ol.more (Ext.upd bn _), fun b' e => by
    cases e
    exact ⟨hb, S.ext.none bn, upd_self _ _ _⟩⟩)
/-- The copy. -/
structure D5 (base : Nat) (F H : HH) (ob : Nat) (P : Int) (Ag : Option Addr) (ng cg : Nat) (Ao : Option Addr) (no co : Nat) (og : List Gate) (oo : List Int) : Prop where
  obF : F ob = none
  obB : base ≤ ob
  cb : CB H ob P Ag ng cg Ao no co
  rl : Rl base F H Ag ng cg og
  ol : OwnZ base F H Ao no co oo
theorem ds_st {b : Nat} (S : DS base F H Ag ng cg gg Ao no co oo (some b)) {K : Unit → HH → Prop} (hk : ∀ H', D5 base F H' b P Ag ng cg Ao no co gg oo → K () H') : HRun Tryd.prog base (Instr.storeAt tC (.pointer (some ⟨b, 0, none⟩)) (.agg #[.int .u64 P, .slice Ag ng cg, .slice Ao no co])) H K := by
  obtain ⟨h1, h2, h3⟩ := S.bx b rfl
  refine h_sta (old := (Value.agg #[.int .u64 0, .slice none 0 0, .slice none 0 0]).cells) (vs := [.int .u64 P, .slice Ag ng cg, .slice Ao no co]) (by kernel_rfl) rfl h3 h1 rfl (hk _ ⟨h2, h1, upd_self _ _ _, S.rl.same h2 (fun e => ?_) (fun k hk => upd_ne _ hk), S.ol.same h2 (fun e => ?_) (fun k hk => upd_ne _ hk)⟩)
  · obtain ⟨cu, hc⟩ := S.rl.tag e
    rw [h3] at hc
    exact absurd (cells_tag hc) (by decide)
  · obtain ⟨cu, hc⟩ := S.ol.tag e
    rw [h3] at hc
    exact absurd (cells_tag hc) (by decide)
theorem ds_build : AQ Tryd.prog (Instr.build tC #[(0, .int .u64 P), (1, .slice Ag ng cg), (2, .slice Ao no co)]) (.agg #[.int .u64 P, .slice Ag ng cg, .slice Ao no co]) := fun W => by kernel_rfl
end
structure S5 (base : Nat) (F H : HH) (ob : Nat) (P : Int) (Ag : Option Addr) (ng cg : Nat) (Ao : Option Addr) (no co : Nat) (At : Option Addr) (nt ct : Nat) (og : List Gate) (oo tl : List Int) : Prop where
  d : D5 base F H ob P Ag ng cg Ao no co og oo
  pl : OwnZ base F H At nt ct tl
  ds : ∀ g, (Value.slice At nt ct).ownBlock = some g → (Value.slice Ao no co).ownBlock ≠ some g
section
variable {base : Nat} {F H H' : HH} {ob : Nat} {P : Int} {Ag Ao At : Option Addr} {ng cg no co nt ct : Nat} {og : List Gate} {oo tl : List Int}
theorem D5.tagI (h : D5 base F H ob P Ag ng cg Ao no co og oo) {g : Nat} {cu : Array Value} (hg : H g = some (.cells cu 3 (0, 0))) : g ≠ ob ∧ (Value.slice Ag ng cg).ownBlock ≠ some g := by
  refine ⟨fun e => ?_, fun e => ?_⟩
  · have := h.cb
    unfold CB at this
    rw [← e, hg] at this
    exact absurd (cells_tag this) (by decide)
  · obtain ⟨cu', hc⟩ := h.rl.tag e
    rw [hg] at hc
    exact absurd (cells_tag hc) (by decide)
theorem D5.rlob (h : D5 base F H ob P Ag ng cg Ao no co og oo) : (Value.slice Ag ng cg).ownBlock ≠ some ob := fun e => by
  obtain ⟨cu, hc⟩ := h.rl.tag e
  have := h.cb
  unfold CB at this
  rw [this] at hc
  exact absurd (cells_tag hc) (by decide)
theorem D5.more (h : D5 base F H ob P Ag ng cg Ao no co og oo) (X : Ext H H') : D5 base F H' ob P Ag ng cg Ao no co og oo := ⟨h.obF, h.obB, h.cb.ext X, h.rl.more X, h.ol.more X⟩
theorem D5.same (h : D5 base F H ob P Ag ng cg Ao no co og oo) {g : Nat} (hF : F g = none) (h1 : g ≠ ob) (h2 : (Value.slice Ag ng cg).ownBlock ≠ some g) (h3 : (Value.slice Ao no co).ownBlock ≠ some g) (s : ∀ k, k ≠ g → H' k = H k) : D5 base F H' ob P Ag ng cg Ao no co og oo :=
  ⟨h.obF, h.obB, by have := h.cb; unfold CB at this ⊢; rw [s ob (fun e => h1 e.symm)]; exact this, h.rl.same hF h2 s, h.ol.same hF h3 s⟩
/-- What is kept is known under another name. -/
theorem D5.under {F' : HH} (h : D5 base F H ob P Ag ng cg Ao no co og oo) (X : Ext F' H) (hn : ∀ b, F b = none → (b = ob ∨ (Value.slice Ag ng cg).ownBlock = some b ∨ (Value.slice Ao no co).ownBlock = some b) → F' b = none) : D5 base F' H ob P Ag ng cg Ao no co og oo :=
  ⟨hn _ h.obF (.inl rfl), h.obB, h.cb, ⟨X, h.rl.own, fun b hb => hn b (h.rl.off b hb) (.inr (.inl hb))⟩, ⟨h.ol.1, X, fun b hb => hn b (h.ol.2.off b hb) (.inr (.inr hb))⟩⟩
theorem S5.ext (h : S5 base F H ob P Ag ng cg Ao no co At nt ct og oo tl) : Ext F H := h.pl.ext
theorem S5.more (h : S5 base F H ob P Ag ng cg Ao no co At nt ct og oo tl) (X : Ext H H') : S5 base F H' ob P Ag ng cg Ao no co At nt ct og oo tl := ⟨h.d.more X, h.pl.more X, h.ds⟩
theorem S5.same (h : S5 base F H ob P Ag ng cg Ao no co At nt ct og oo tl) {g : Nat} (hF : F g = none) (h1 : g ≠ ob) (h2 : (Value.slice Ag ng cg).ownBlock ≠ some g) (h3 : (Value.slice Ao no co).ownBlock ≠ some g) (h4 : (Value.slice At nt ct).ownBlock ≠ some g) (s : ∀ k, k ≠ g → H' k = H k) : S5 base F H' ob P Ag ng cg Ao no co At nt ct og oo tl :=
  ⟨h.d.same hF h1 h2 h3 s, h.pl.same hF h4 s, h.ds⟩
theorem S5.putc (h : S5 base F H ob P Ag ng cg Ao no co At nt ct og oo tl) {j : Nat} (hj : j < nt) (x : Int) {K : Unit → HH → Prop} (hk : ∀ H', S5 base F H' ob P Ag ng cg Ao no co At nt ct og oo (tl.set j x) → K () H') :
    ∃ a, AQ Tryd.prog (Instr.indexAt tInts (.slice At nt ct) (.int .i64 j)) (.pointer (some a)) ∧ HRun Tryd.prog base (Instr.storeAt 3 (.pointer (some a)) (.int .i64 x)) H K :=
  h.pl.put hj x (fun g cur H' hg1 hg hF o s => by
    obtain ⟨t1, t2⟩ := h.d.tagI hg
    exact hk H' ⟨h.d.same hF t1 t2 (h.ds g hg1) s, o, h.ds⟩)
theorem S5.addg (h : S5 base F H ob P Ag ng cg Ao no co At nt ct og oo tl) (hl : ng ≤ 100000) (g : Gate) {K : Unit → HH → Prop} {ty : Nat} (hk : ∀ A' c' H', S5 base F H' ob P A' (ng + 1) c' Ao no co At nt ct (og ++ [g]) oo tl → K () H') :
    HRun Tryd.prog base (Instr.buildSlice tGates 1 #[(0, .agg (gv g).toArray)]) H fun v1 H1 => ∃ (A1 : Option Addr) (l1 c1 : Nat), v1 = .slice A1 l1 c1 ∧ HRun Tryd.prog base (Builtin.append_ #[tGates, tGates] ty #[.slice Ag ng cg, .slice A1 l1 c1]) H1 fun v2 H2 => ∃ (A2 : Option Addr) (l2 c2 : Nat), v2 = .slice A2 l2 c2 ∧
      ∃ a, AQ Tryd.prog (Instr.fieldAt tC (.pointer (some ⟨ob, 0, none⟩)) 1) (.pointer (some a)) ∧ HRun Tryd.prog base (Instr.storeAt tGates (.pointer (some a)) (.slice A2 l2 c2)) H2 K := by
  have hfill : Instr.fill (fun i => some (i * 5, 5)) (madeCells (Value.agg (gv gate0).toArray).cells (1 * 5)) [(0, .agg (gv g).toArray)] = some (gv g).toArray := by kernel_rfl
  refine h_lit (sz := 5) (z := .agg (gv gate0).toArray) (cs := (gv g).toArray) unGates (by kernel_rfl) (by decide) hfill (by decide) (fun gb hgb hbase => ⟨_, _, _, rfl, ?_⟩)
  have X1 : Ext H (upd H gb (.cells (gv g).toArray tGate)) := Ext.upd hgb _
  have h1 := h.more X1
  have hrd : Rd (upd H gb (.cells (gv g).toArray tGate)) (some ⟨gb, 0, none⟩) (gv g) := .inr ⟨_, rfl, fun i u hu => by
    rw [add0, cellH_blk (upd_self _ _ _), ← Array.getElem?_toList]; exact hu⟩
  generalize upd H gb (.cells (gv g).toArray tGate) = H1 at X1 h1 hrd ⊢
  refine h_app (m := 1) (ys := gv g) (z := .agg (gv gate0).toArray) unGates aq_gate0 rfl (by decide) h1.d.rl.own hrd rfl (fun u hu => gv_one hu) (fun e => by cases e) (by omega) (by decide) (fun A2 c2 H2 ho gr => ⟨_, _, _, rfl, _, fc1 ob, ?_⟩)
  have hfr : Frz F H1 (.slice Ag ng cg) := ⟨h1.ext, h1.d.rl.off⟩
  have hfr2 := hfr.grow gr
  have cb2 : CB H2 ob P Ag ng cg Ao no co := gr.keep ob _ h1.d.rlob h1.d.cb
  have keepI : ∀ {A : Option Addr} {n c : Nat} {l : List Int}, OwnZ base F H1 A n c l → OwnZ base F H2 A n c l := fun o => ⟨o.1.move (fun k x hk hx => gr.keep k x (by
    obtain ⟨cu, hc⟩ := o.tag hk
    exact (h1.d.tagI hc).2) hx), hfr2.ext, o.2.off⟩
  have ct2 := keepI h1.pl
  have ol2 := keepI h1.d.ol
  have nob : ∀ {A : Option Addr} {n c : Nat} {l : List Int}, OwnZ base F H2 A n c l → (Value.slice A n c).ownBlock ≠ some ob := fun o e => by
    obtain ⟨cu, hc⟩ := o.tag e
    unfold CB at cb2
    rw [cb2] at hc
    exact absurd (cells_tag hc) (by decide)
  refine cb_gates cb2 h.d.obB (fun H3 cb3 s3 => hk A2 c2 H3 ⟨⟨h.d.obF, h.d.obB, cb3, ⟨ext_same hfr2.ext h.d.obF s3, ?_, hfr2.off⟩, ol2.same h.d.obF (nob ol2) s3⟩, ct2.same h.d.obF (nob ct2) s3, h.ds⟩)
  have ho' : Own base H2 tGate 5 (.slice A2 (ng + 1) c2) (ng + 1) (gc (og ++ [g])) := by
    have : gc (og ++ [g]) = gc og ++ gv g := by simp [gc]
    rw [this]; exact ho
  refine ho'.move (fun k x hkx hx => by
    have hne : k ≠ ob := fun e => by
      obtain ⟨_, cu, hc⟩ := ho'.known hkx
      unfold CB at cb2
      rw [e, cb2] at hc
      exact absurd (cells_tag hc) (by decide)
    rw [s3 k hne]
    exact hx)
theorem S5.under {F' : HH} (h : S5 base F H ob P Ag ng cg Ao no co At nt ct og oo tl) (X : Ext F' H) (hn : ∀ b, F b = none → (b = ob ∨ (Value.slice Ag ng cg).ownBlock = some b ∨ (Value.slice Ao no co).ownBlock = some b ∨ (Value.slice At nt ct).ownBlock = some b) → F' b = none) : S5 base F' H ob P Ag ng cg Ao no co At nt ct og oo tl :=
  ⟨h.d.under X (fun b h1 h2 => hn b h1 (h2.imp id (fun h => h.imp id .inl))), ⟨h.pl.1, X, fun b hb => hn b (h.pl.2.off b hb) (.inr (.inr (.inr hb)))⟩, h.ds⟩
end
end Go.Proofs.YtjpaichcaaacbaaDoor.HL
end
section
set_option linter.unusedVariables false
set_option linter.unusedSimpArgs false
set_option linter.unusedSectionVars false
set_option maxHeartbeats 8000000
namespace Go.Proofs.YtjpaichcaaacbaaDoor.HL
open Go Go.Proofs.YtjpaichcaaacbaaDoorNum Go.Proofs.YtjpaichcaaacbaaDoor.FEv
section
variable {base : Nat} {F H : HH} {K : Value → HH → Prop} {N0 : Value → HH → Prop} {A A' Ag Ao At : Option Addr} {n' c c' xb ob ng cg no co ct : Nat} {P : Int} {gs : List Gate} {outs : List Int} {fr : Fr}
theorem dup_round (v : VOK P gs outs) (hnn : ∀ g ∈ gs, 0 ≤ g.k) (hg : Gs F A gs.length gs) (cb : CB F xb P A gs.length c A' n' c') (hz : gs.length ≤ 1000) {i : Nat} (hi : i < gs.length)
    (S : S5 base F H ob P Ag ng cg Ao no co At gs.length ct (gs ++ (dL gs i).2) outs ((dL gs i).1 ++ List.replicate (gs.length - i) 0))
    (hN : ∀ A1 n1 c1 H', S5 base F H' ob P A1 n1 c1 Ao no co At gs.length ct (gs ++ (dL gs (i + 1)).2) outs ((dL gs (i + 1)).1 ++ List.replicate (gs.length - (i + 1)) 0) → N0 (.int .i64 (IntKind.i64.wrap ((i : Int) + 1))) H') :
    privitylaw36_OptimizeDuplicates.B0 base ⟨xb, 0, none⟩ ((gs.length : Nat) : Int) ⟨ob, 0, none⟩ At gs.length ct i fr N0 H K := by
  unfold privitylaw36_OptimizeDuplicates.B0
  rw [if_pos (decide_eq_true (by omega))]
  obtain ⟨a, q1, q2⟩ := (hg.ext S.ext).at c hi
  have W := v.wf hnn
  obtain ⟨wa, wb⟩ := W i hi
  have kk := (v.gok hnn hi).kinds
  have hl := dL_len gs i
  have hle := dL_le gs i
  have hrl := S.d.rl.len
  rw [List.length_append] at hrl
  rw [dL_eq] at hN
  generalize (dL gs i).1 = al at *
  generalize (dL gs i).2 = dl at *
  obtain ⟨g, hgd⟩ : ∃ g, g = gs.getD i gate0 := ⟨_, rfl⟩
  rw [← hgd] at q2 wa wb kk hN
  refine ⟨_, fc1 xb, _, _, _, (cb.ext S.ext).qgs, a, q1, _, _, _, _, _, q2.all, h_bare (g := g) (fun gb H1 B => ⟨_, fg0 _, _, B.gat.kind, ?_⟩)⟩
  have S1 := S.more B.ext
  by_cases k1 : g.kind = 1
  · rw [if_pos (by simpa using k1)]
    rw [if_pos k1] at hN
    obtain ⟨a1, p1, p2⟩ := S1.putc hi (i : Int) (K := fun _ H266 => N0 (.int .i64 (IntKind.i64.wrap ((i : Int) + 1))) H266) (fun H2 S2 => hN _ _ _ H2 (by rw [set_pad hl hi] at S2; exact S2))
    exact ⟨a1, p1, p2⟩
  rw [if_neg (by simpa using k1)]
  rw [if_neg k1] at hN
  have gF : F gb = none := S.ext.none B.new
  have g_ob : gb ≠ ob := fun e => by
    have h1 := B.new
    have h2 := S.d.cb
    unfold CB at h2
    rw [e, h2] at h1; cases h1
  have g_rl : (Value.slice Ag ng cg).ownBlock ≠ some gb := fun e => by
    obtain ⟨cu, hc⟩ := S.d.rl.tag e
    rw [B.new] at hc; cases hc
  have g_ol : (Value.slice Ao no co).ownBlock ≠ some gb := fun e => by
    obtain ⟨cu, hc⟩ := S.d.ol.tag e
    rw [B.new] at hc; cases hc
  have g_ct : (Value.slice At gs.length ct).ownBlock ≠ some gb := fun e => by
    obtain ⟨cu, hc⟩ := S.pl.tag e
    rw [B.new] at hc; cases hc
  have st : ∀ {H' H3 : HH}, S5 base F H' ob P Ag ng cg Ao no co At gs.length ct (gs ++ dl) outs (al ++ List.replicate (gs.length - i) 0) → (∀ k, k ≠ gb → H3 k = H' k) → S5 base F H3 ob P Ag ng cg Ao no co At gs.length ct (gs ++ dl) outs (al ++ List.replicate (gs.length - i) 0) := fun S' s => S'.same gF g_ob g_rl g_ol g_ct s
  -- the duplicate is laid
  have e2 : ∀ (g' : Gate) (H' : HH), g' = gOn al g → S5 base F H' ob P Ag ng cg Ao no co At gs.length ct (gs ++ dl) outs (al ++ List.replicate (gs.length - i) 0) → H' gb = some (.cells (gv g').toArray tGate (0, 0)) →
      privitylaw36_OptimizeDuplicates.R2 base N0 [.pointer (some ⟨xb, 0, none⟩), .int .i64 ((gs.length : Nat) : Int), .pointer (some ⟨ob, 0, none⟩), .slice At gs.length ct, .int .i64 (i : Int), .pointer (some ⟨gb, 0, none⟩)] H' K := fun g' H' eg S' hb => by
    refine privitylaw36_OptimizeDuplicates.cut2 ?_
    unfold privitylaw36_OptimizeDuplicates.T2 privitylaw36_OptimizeDuplicates.S2
    obtain ⟨F', hF'⟩ : ∃ F' : HH, F' = upd F gb (.cells (gv g').toArray tGate (0, 0)) := ⟨_, rfl⟩
    have XF : Ext F F' := by rw [hF']; exact Ext.upd gF _
    have XF' : Ext F' H' := fun b o hb' => by
      by_cases e : b = gb
      · subst e
        rw [hF', upd_self] at hb'; cases hb'; exact hb
      · rw [hF', upd_ne _ e] at hb'; exact S'.ext b o hb'
    have gF' : GAt F' ⟨gb, 0, none⟩ g' := gat_blk (by rw [hF']; exact upd_self _ _ _)
    have S'' : S5 base F' H' ob P Ag ng cg Ao no co At gs.length ct (gs ++ dl) outs (al ++ List.replicate (gs.length - i) 0) := S'.under XF' (fun b hb ho => by
      have : b ≠ gb := fun e => by
        subst e
        rcases ho with h | h | h | h
        · exact g_ob h
        · exact g_rl h
        · exact g_ol h
        · exact g_ct h
      rw [hF', upd_ne _ this]; exact hb)
    refine ⟨_, fc1 ob, _, _, _, S''.d.cb.qgs, S''.putc hi ((ng : Nat) : Int) (fun H2 S2 => ?_)⟩
    rw [set_pad hl hi] at S2
    refine ⟨_, fc1 ob, _, _, _, S2.d.cb.qgs, _, _, _, _, _, (gF'.ext S2.ext).all, S2.addg (by omega) g' (fun A6 c6 H6 S6 => ?_)⟩
    rw [eg, hrl, List.append_assoc] at S6
    refine hN _ _ _ H6 (S6.under (XF.trans S6.ext) (fun b hb ho => XF.none hb))
  have rd : ∀ {H' : HH} {z : Int}, S5 base F H' ob P Ag ng cg Ao no co At gs.length ct (gs ++ dl) outs (al ++ List.replicate (gs.length - i) 0) → 0 ≤ z → z < (i : Int) → ∃ a, AQ Tryd.prog (Instr.indexAt tInts (.slice At gs.length ct) (.int .i64 z)) (.pointer (some a)) ∧ QRun Tryd.prog (Instr.loadAt 3 (.pointer (some a))) H' (.int .i64 (al.getD z.toNat 0)) := fun {H'} {z} S' h0 h1 => by
    obtain ⟨a, u1, u2⟩ := S'.pl.row.ix ct h0 (by omega)
    rw [getD_app_lt (by omega)] at u2
    exact ⟨a, u1, u2⟩
  have e1 : ∀ (g' : Gate) (H' : HH), g' = ⟨g.kind, g.frm, if sA g.kind = true then al.getD g.a.toNat 0 else g.a, g.b, g.k⟩ → S5 base F H' ob P Ag ng cg Ao no co At gs.length ct (gs ++ dl) outs (al ++ List.replicate (gs.length - i) 0) → H' gb = some (.cells (gv g').toArray tGate (0, 0)) →
      privitylaw36_OptimizeDuplicates.R1 base N0 [.pointer (some ⟨xb, 0, none⟩), .int .i64 ((gs.length : Nat) : Int), .pointer (some ⟨ob, 0, none⟩), .slice At gs.length ct, .int .i64 (i : Int), .pointer (some ⟨gb, 0, none⟩)] H' K := fun g' H' eg S' hb => by
    refine privitylaw36_OptimizeDuplicates.cut1 ?_
    unfold privitylaw36_OptimizeDuplicates.T1 privitylaw36_OptimizeDuplicates.S1
    have gb' := gat_blk hb
    have qk := gb'.kind
    have q3 := gb'.sb
    rw [show g'.kind = g.kind by rw [eg]] at qk
    rw [show g'.b = g.b by rw [eg]] at q3
    have fin : ∀ (sb : sB g.kind = true) (H3 : HH), H3 gb = some (.cells (gv (⟨g'.kind, g'.frm, g'.a, al.getD g.b.toNat 0, g'.k⟩ : Gate)).toArray tGate (0, 0)) → (∀ k, k ≠ gb → H3 k = H' k) → privitylaw36_OptimizeDuplicates.R2 base N0 [.pointer (some ⟨xb, 0, none⟩), .int .i64 ((gs.length : Nat) : Int), .pointer (some ⟨ob, 0, none⟩), .slice At gs.length ct, .int .i64 (i : Int), .pointer (some ⟨gb, 0, none⟩)] H3 K := fun sb H3 hb3 s3 => by
      refine e2 _ H3 ?_ (st S' s3) hb3
      rw [eg]
      unfold gOn
      rw [if_pos sb]
    refine ⟨_, fg0 _, _, qk, ?_⟩
    by_cases k3 : g.kind = 3
    · rw [if_neg (by simpa using k3)]
      have sb : sB g.kind = true := by rw [k3]; rfl
      obtain ⟨y0, y1⟩ := wb sb
      obtain ⟨a6, t3, t4⟩ := rd S' y0 y1
      exact ⟨_, fg3 _, _, q3, a6, t3, _, t4, _, fb gb 3 (by decide), gb_set (g' := ⟨g'.kind, g'.frm, g'.a, al.getD g.b.toNat 0, g'.k⟩) hb B.own (by decide) rfl (fun H3 hb3 s3 => fin sb H3 hb3 s3)⟩
    rw [if_pos (by simpa using k3)]
    refine ⟨_, fg0 _, _, qk, ?_⟩
    by_cases k4 : g.kind = 4
    · rw [if_neg (by simpa using k4)]
      have sb : sB g.kind = true := by rw [k4]; rfl
      obtain ⟨y0, y1⟩ := wb sb
      obtain ⟨a6, t3, t4⟩ := rd S' y0 y1
      exact ⟨_, fg3 _, _, q3, a6, t3, _, t4, _, fb gb 3 (by decide), gb_set (g' := ⟨g'.kind, g'.frm, g'.a, al.getD g.b.toNat 0, g'.k⟩) hb B.own (by decide) rfl (fun H3 hb3 s3 => fin sb H3 hb3 s3)⟩
    rw [if_pos (by simpa using k4)]
    refine ⟨_, fg0 _, _, qk, ?_⟩
    by_cases k6 : g.kind = 6
    · rw [if_pos (by simpa using k6)]
      have sb : sB g.kind = true := by rw [k6]; rfl
      obtain ⟨y0, y1⟩ := wb sb
      obtain ⟨a6, t3, t4⟩ := rd S' y0 y1
      exact ⟨_, fg3 _, _, q3, a6, t3, _, t4, _, fb gb 3 (by decide), gb_set (g' := ⟨g'.kind, g'.frm, g'.a, al.getD g.b.toNat 0, g'.k⟩) hb B.own (by decide) rfl (fun H3 hb3 s3 => fin sb H3 hb3 s3)⟩
    rw [if_neg (by simpa using k6)]
    refine e2 g' H' ?_ S' hb
    have sb : ¬ sB g.kind = true := by
      unfold sB
      simp only [Bool.or_eq_true, beq_iff_eq]
      omega
    rw [eg]
    unfold gOn
    rw [if_neg sb]
  refine ⟨_, fg0 _, _, B.gat.kind, ?_⟩
  by_cases k2 : g.kind = 2
  · rw [if_neg (by rw [k2]; decide)]
    refine e1 g H1 ?_ S1 B.at_
    have sa : ¬ sA g.kind = true := by rw [k2]; decide
    rw [if_neg sa]
  · rw [if_pos (by rw [bne_iff_ne]; exact k2)]
    have sa : sA g.kind = true := by
      unfold sA
      simp only [Bool.or_eq_true, beq_iff_eq]
      omega
    obtain ⟨x0, x1⟩ := wa sa
    obtain ⟨a6, t3, t4⟩ := rd S1 x0 x1
    refine ⟨_, fg2 _, _, B.gat.sa, a6, t3, _, t4, _, fb gb 2 (by decide), gb_set (g' := ⟨g.kind, g.frm, al.getD g.a.toNat 0, g.b, g.k⟩) B.at_ B.own (by decide) rfl (fun H3 hb3 s3 => e1 _ H3 ?_ (st S1 s3) hb3)⟩
    rw [if_pos sa]
end
theorem rd_keep {H H' : HH} {db n1 c1 n2 c2 : Nat} {p : Int} {A A1 A2 : Option Addr} {xs : List Value} (h : Rd H A xs) (hcb : CB H db p A1 n1 c1 A2 n2 c2) (hx : ∀ u, xs[0]? = some u → ∃ z, u = .int .i64 z) (s : ∀ k, k ≠ db → H' k = H k) : Rd H' A xs := by
  rcases h with rfl | ⟨ad, rfl, h⟩
  · exact .inl rfl
  · cases xs with
    | nil => exact .inl rfl
    | cons u0 xs =>
      obtain ⟨z, rfl⟩ := hx u0 rfl
      have h0 := h 0 (.int .i64 z) rfl
      have e0 : ad.add 0 = ad := by unfold Addr.add; simp
      rw [e0] at h0
      have hb : ∀ i, (ad.add i).block = ad.block := fun i => by unfold Addr.add; split <;> rfl
      have hne : ad.block ≠ db := fun e => by
        unfold cellH at h0
        unfold CB at hcb
        rw [e, hcb] at h0
        dsimp only at h0
        split at h0
        · cases h0
        · rw [← Array.getElem?_toList] at h0
          match ho : ad.off, h0 with
          | 0, h0 => cases h0
          | 1, h0 => cases h0
          | 2, h0 => cases h0
          | k + 3, h0 => cases h0
      refine .inr ⟨ad, rfl, fun i u hu => ?_⟩
      have := h i u hu
      unfold cellH at this ⊢
      rw [hb] at this ⊢
      rw [s _ hne]; exact this
theorem gs_keep {H H' : HH} {db n1 c1 n2 c2 n : Nat} {p : Int} {A A1 A2 : Option Addr} {gs : List Gate} (h : Gs H A n gs) (hcb : CB H db p A1 n1 c1 A2 n2 c2) (s : ∀ k, k ≠ db → H' k = H k) : Gs H' A n gs :=
  ⟨h.1, rd_keep h.2 hcb (fun u hu => by
    cases gs with
    | nil => cases hu
    | cons g gs => cases hu; exact ⟨_, rfl⟩) s⟩
theorem outs_keep {H H' : HH} {db n1 c1 n2 c2 n : Nat} {p : Int} {A A1 A2 : Option Addr} {outs : List Int} (h : Outs H A n outs) (hcb : CB H db p A1 n1 c1 A2 n2 c2) (s : ∀ k, k ≠ db → H' k = H k) : Outs H' A n outs :=
  ⟨h.1, rd_keep h.2 hcb (fun u hu => by
    cases outs with
    | nil => cases hu
    | cons g gs => cases hu; exact ⟨_, rfl⟩) s⟩
theorem circ_keep {H H' : HH} {db n1 c1 n2 c2 n n' : Nat} {p : Int} {A A' A1 A2 : Option Addr} {gs : List Gate} {outs : List Int} (h : Circ H A n gs A' n' outs) (hcb : CB H db p A1 n1 c1 A2 n2 c2) (s : ∀ k, k ≠ db → H' k = H k) : Circ H' A n gs A' n' outs :=
  ⟨gs_keep h.g hcb s, outs_keep h.o hcb s, h.nn, h.lg, h.lo⟩
section
variable {base : Nat} {H : HH} {A A' T : Option Addr} {n n' c c' nt ct : Nat} {P : Int}
/-- The variables of a circuit and of a certificate; the circuit's is new. -/
theorem h_ctvars3 {old old' : Value} {C : Addr → Addr → HH → Prop} (hk : ∀ a b H', Ext H H' → H a = none → base ≤ a → CB H' a P A n c A' n' c' → TB H' b T nt ct → C ⟨a, 0, none⟩ ⟨b, 0, none⟩ H') :
    HRun Tryd.prog base (Instr.alloc tC true old) H fun v1 H1 => ∃ a : Addr, v1 = .pointer (some a) ∧ HRun Tryd.prog base (Instr.alloc tCert true old') H1 fun v2 H2 => ∃ b : Addr, v2 = .pointer (some b) ∧ HRun Tryd.prog base (Instr.storeAt tC (.pointer (some a)) (.agg #[.int .u64 P, .slice A n c, .slice A' n' c'])) H2 fun _ H3 => HRun Tryd.prog base (Instr.storeAt tCert (.pointer (some b)) (.agg #[.slice T nt ct])) H3 fun _ H4 => C a b H4 := by
  refine h_alloc (z := .agg #[.int .u64 0, .slice none 0 0, .slice none 0 0]) (by kernel_rfl) (fun rb rn rbase => ⟨_, rfl, h_alloc (z := .agg #[.slice none 0 0]) (by kernel_rfl) (fun tb tn tbase => ⟨_, rfl, ?_⟩)⟩)
  have hne : tb ≠ rb := fun e => by rw [e, upd_self] at tn; cases tn
  have tn' : H tb = none := by rwa [upd_ne _ hne] at tn
  have E2 : Ext H (upd (upd H rb (.cells (Value.agg #[.int .u64 0, .slice none 0 0, .slice none 0 0]).cells tC (0, 0))) tb (.cells (Value.agg #[.slice none 0 0]).cells tCert (0, 0))) := (Ext.upd rn _).trans (Ext.upd tn _)
  refine h_sta (old := (Value.agg #[.int .u64 0, .slice none 0 0, .slice none 0 0]).cells) (vs := [.int .u64 P, .slice A n c, .slice A' n' c']) (by kernel_rfl) rfl (by rw [upd_ne _ (fun e => hne e.symm)]; exact upd_self _ _ _) rbase rfl ?_
  have E3 := ext_same E2 rn (H4 := upd _ rb (.cells [.int .u64 P, .slice A n c, .slice A' n' c'].toArray tC (0, 0))) (fun k hk => upd_ne _ hk)
  refine h_sta (old := (Value.agg #[.slice none 0 0]).cells) (vs := [.slice T nt ct]) (by kernel_rfl) rfl (by rw [upd_ne _ hne]; exact upd_self _ _ _) tbase rfl ?_
  have E4 := ext_same E3 tn' (H4 := upd _ tb (.cells [.slice T nt ct].toArray tCert (0, 0))) (fun k hk => upd_ne _ hk)
  refine hk _ _ _ E4 rn rbase ?_ (upd_self _ _ _)
  unfold CB
  rw [upd_ne _ (fun e => hne e.symm)]; exact upd_self _ _ _
end
end Go.Proofs.YtjpaichcaaacbaaDoor.HL
end
section
set_option linter.unusedVariables false
set_option linter.unusedSimpArgs false
set_option linter.unusedSectionVars false
set_option maxHeartbeats 8000000
namespace Go.Proofs.YtjpaichcaaacbaaDoor.HL
open Go Go.Proofs.YtjpaichcaaacbaaDoorNum Go.Proofs.YtjpaichcaaacbaaDoor.FEv
theorem dG_nn {gs : List Gate} (hnn : ∀ g ∈ gs, 0 ≤ g.k) : ∀ g ∈ dG gs, 0 ≤ g.k := by
  have key : ∀ i, ∀ g ∈ (dL gs i).2, 0 ≤ g.k := fun i => by
    induction i with
    | zero => intro g h; cases h
    | succ i ih =>
      intro g h
      rw [dL_eq] at h
      split at h
      · exact ih g h
      · rcases List.mem_append.1 h with h | h
        · exact ih g h
        · rw [List.mem_singleton.1 h]
          exact nn_get hnn i
  intro g h
  unfold dG at h
  rcases List.mem_append.1 h with h | h
  · exact hnn g h
  · exact key _ g h
/-- Two blocks are hidden. -/
def hide2 (H : HH) (b : Nat) (o : Option Nat) : HH := fun k => if k = b ∨ o = some k then none else H k
theorem hide2_at (H : HH) (b : Nat) (o : Option Nat) : hide2 H b o b = none := by unfold hide2; rw [if_pos (.inl rfl)]
theorem hide2_o (H : HH) (b : Nat) {o : Option Nat} {k : Nat} (h : o = some k) : hide2 H b o k = none := by unfold hide2; rw [if_pos (.inr h)]
theorem hide2_ne (H : HH) {b k : Nat} {o : Option Nat} (h : k ≠ b) (h2 : o ≠ some k) : hide2 H b o k = H k := by unfold hide2; rw [if_neg (fun x => x.elim h h2)]
theorem hide2_ext (H : HH) (b : Nat) (o : Option Nat) : Ext (hide2 H b o) H := fun k x h => by
  unfold hide2 at h
  split at h
  · cases h
  · exact h
section
variable {base : Nat} {H : HH} {A A' T : Option Addr} {n n' c c' nt ct : Nat} {P : Int} {gs : List Gate} {outs tt : List Int}
theorem law_OptimizeDuplicates (hG : Gl H) (hg : Gs H A n gs) (hcg : n ≤ c) (ho : Outs H A' n' outs) (hnn : ∀ g ∈ gs, 0 ≤ g.k) :
    HCall Tryd.prog base 14 #[.agg #[.int .u64 P, .slice A n c, .slice A' n' c']] H fun v _ => v = .bool true := by
  refine privitylaw36_OptimizeDuplicates.spec ?_
  unfold privitylaw36_OptimizeDuplicates.sh
  have aw : ∀ {H' : HH}, Ext H H' → HCall Tryd.prog base 28 #[] H' (fun v H => ∃ b : Bool, v = .bool b ∧ Value.bool b = .bool true) := fun X => h_awake36 (hG.ext X) (fun _ _ => ⟨_, rfl, rfl⟩)
  obtain rfl := hg.1
  obtain rfl := ho.1
  refine h_cbox (fun xb H1 X1 cb => ⟨_, rfl, _, _, _, _, _, _, _, cb.all, h_few36 (hg.ext X1) (ho.ext X1) (fun f1 f2 H2 X2 => ⟨_, rfl, ?_⟩) (fun H2 X2 => ⟨_, rfl, ?_⟩)⟩)
  rotate_left
  · rw [if_neg (by decide)]
    exact aw (X1.trans X2)
  rw [if_pos (by decide)]
  have X12 := X1.trans X2
  refine ⟨_, fc1 xb, _, _, _, (cb.ext X2).qgs, ?_⟩
  by_cases h30 : ((gs.length : Nat) : Int) > 30
  · rw [if_neg (by rw [decide_eq_true h30]; decide)]
    exact aw X12
  rw [if_pos (decide_eq_false h30)]
  refine ⟨_, _, _, _, _, _, _, (cb.ext X2).all, h_rvalid (hg.ext X12) (ho.ext X12) hnn (fun H3 X3 => ⟨_, rfl, ?_⟩)⟩
  have X13 := X12.trans X3
  cases hv : validB P gs outs with
  | false =>
    rw [if_pos (by decide)]
    exact aw X13
  | true =>
  rw [if_neg (by decide)]
  have v := validB_iff.1 hv
  have C3 : Circ H3 A gs.length gs A' outs.length outs := ⟨hg.ext X13, ho.ext X13, hnn, by omega, by omega⟩
  have cb3 := (cb.ext X2).ext X3
  have G3 := hG.ext X13
  clear hG hg ho cb X1 X2 X3 X12
  refine ⟨_, fc1 xb, _, _, _, cb3.qgs, _, fc0 xb, _, cb3.qp, _, fc1 xb, _, _, _, cb3.qgs, _, fc2 xb, _, _, _, cb3.qouts, ?_⟩
  have fin : ∀ (ob : Nat) (Ag : Option Addr) (cg : Nat) (Ao : Option Addr) (co : Nat) (H4 : HH), D5 base H3 H4 ob P Ag gs.length cg Ao outs.length co gs outs →
      privitylaw36_OptimizeDuplicates.R0 base [.pointer (some ⟨xb, 0, none⟩), .int .i64 ((gs.length : Nat) : Int), .pointer (some ⟨ob, 0, none⟩)] H4 (fun v _ => v = .bool true) := fun ob Ag cg Ao co H4 D => by
    refine privitylaw36_OptimizeDuplicates.cut0 ?_
    unfold privitylaw36_OptimizeDuplicates.T0 privitylaw36_OptimizeDuplicates.S0
    refine h_mkZ (by omega) (fun At ct H5 ot => ⟨_, _, _, rfl, ?_⟩)
    have S0 : S5 base H3 H5 ob P Ag gs.length cg Ao outs.length co At gs.length ct (gs ++ (dL gs 0).2) outs ((dL gs 0).1 ++ List.replicate (gs.length - 0) 0) := by
      have e : gs ++ (dL gs 0).2 = gs := List.append_nil _
      rw [e]
      refine ⟨D.more ot.ext, ⟨ot.1, D.ol.ext.trans ot.ext, fun b hb => D.ol.ext.none (ot.2.off b hb)⟩, fun g hg e => ?_⟩
      obtain ⟨cu, hc⟩ := D.ol.tag e
      rw [ot.2.off g hg] at hc; cases hc
    refine privitylaw36_OptimizeDuplicates.loop0 (fun r y H' => ∃ j : Nat, y = j ∧ j ≤ gs.length ∧ r = gs.length - j ∧ ∃ A1 n1 c1, S5 base H3 H' ob P A1 n1 c1 Ao outs.length co At gs.length ct (gs ++ (dL gs j).2) outs ((dL gs j).1 ++ List.replicate (gs.length - j) 0)) gs.length ⟨0, rfl, Nat.zero_le _, rfl, _, _, _, S0⟩ ?_
    clear S0 ot D
    rintro r y fr H6 ⟨j, rfl, hj, rfl, Ag, ng, cg, S⟩
    by_cases hlt : j < gs.length
    · refine dup_round v hnn C3.g cb3 (by omega) hlt S (fun A12 n12 c12 H12 S12 => ?_)
      exact ⟨gs.length - j - 1, by omega, _, rfl, j + 1, nxt (n := 1000000) (by omega) (by decide), by omega, by omega, _, _, _, S12⟩
    unfold privitylaw36_OptimizeDuplicates.B0
    rw [if_neg (fun h => hlt (by have := of_decide_eq_true h; omega))]
    obtain rfl : j = gs.length := by omega
    clear hlt hj
    rw [Nat.sub_self, List.replicate_zero, List.append_nil] at S
    have eG : gs ++ (dL gs gs.length).2 = dG gs := rfl
    rw [eG] at S
    have lA : (dL gs gs.length).1.length = gs.length := dL_len _ _
    -- the copy's box and its outputs are hidden
    have XH' : Ext (hide2 H6 ob (Value.slice Ao outs.length co).ownBlock) H6 := hide2_ext _ _ _
    have XH : Ext H3 (hide2 H6 ob (Value.slice Ao outs.length co).ownBlock) := fun k o hk => by
      rw [hide2_ne _ (fun e => by rw [e, S.d.obF] at hk; cases hk) (fun e => by rw [S.d.ol.2.off k e] at hk; cases hk)]
      exact S.ext k o hk
    have obN : hide2 H6 ob (Value.slice Ao outs.length co).ownBlock ob = none := hide2_at _ _ _
    have oo0 : OwnZ base (hide2 H6 ob (Value.slice Ao outs.length co).ownBlock) H6 Ao outs.length co outs := ⟨S.d.ol.1, XH', fun b hb => hide2_o _ _ hb⟩
    have ctN : (Value.slice At gs.length ct).ownBlock ≠ some ob := fun e => by
      obtain ⟨cu, hc⟩ := S.pl.tag e
      have := S.d.cb
      unfold CB at this
      rw [this] at hc
      exact absurd (cells_tag hc) (by decide)
    have ct0 : Own base (hide2 H6 ob (Value.slice Ao outs.length co).ownBlock) 3 1 (.slice At gs.length ct) gs.length (is (dL gs gs.length).1) := S.pl.1.move (fun k x hk hx => by rw [hide2_ne _ (fun e => ctN (by rw [hk, e])) (S.ds k hk)]; exact hx)
    have rl0 : Own base (hide2 H6 ob (Value.slice Ao outs.length co).ownBlock) tGate 5 (.slice Ag ng cg) ng (gc (dG gs)) := S.d.rl.own.move (fun k x hk hx => by
      rw [hide2_ne _ (fun e => S.d.rlob (by rw [hk, e])) (fun e => by
        obtain ⟨cu, hc⟩ := S.d.ol.tag e
        exact (S.d.tagI hc).2 hk)]; exact hx)
    have cb6 := S.d.cb
    have obB := S.d.obB
    have ngl := S.d.rl.len
    clear S ctN
    generalize hide2 H6 ob (Value.slice Ao outs.length co).ownBlock = F2 at XH XH' obN oo0 ct0 rl0
    have rowA : Outs F2 At gs.length (dL gs gs.length).1 := by
      obtain ⟨A8, c8, e, _, h2⟩ := ct0.slice
      cases e
      exact ⟨lA.symm, h2⟩
    have rowG : Gs F2 Ag ng (dG gs) := by
      obtain ⟨A8, c8, e, _, h2⟩ := rl0.slice
      cases e
      exact ⟨ngl, h2⟩
    have C2 := C3.ext XH
    have cbx := cb3.ext XH
    have G2 := G3.ext XH
    refine privitylaw36_OptimizeDuplicates.loop1 (fun r y H' => ∃ j : Nat, y = j ∧ j ≤ outs.length ∧ r = outs.length - j ∧ ∃ Ao co, CB H' ob P Ag ng cg Ao (outs.length + j) co ∧ OwnZ base F2 H' Ao (outs.length + j) co (outs ++ ((outs.map fun o => atN gs o.toNat).take j))) outs.length ⟨0, rfl, Nat.zero_le _, rfl, _, _, cb6, by rw [List.take_zero, List.append_nil]; exact oo0⟩ ?_
    clear oo0 cb6
    rintro r y fr H7 ⟨j, rfl, hj, rfl, Ao, co, cb7, oo⟩
    unfold privitylaw36_OptimizeDuplicates.B1
    have ooTag : ∀ {H' : HH} {A1 : Option Addr} {n1 c1 : Nat} {l : List Int}, OwnZ base F2 H' A1 n1 c1 l → ∀ {Ax : Option Addr} {nx cx : Nat}, CB H' ob P Ag ng cg Ax nx cx → (Value.slice A1 n1 c1).ownBlock ≠ some ob := fun o _ _ _ cbx e => by
      obtain ⟨cu, hc⟩ := o.tag e
      unfold CB at cbx
      rw [cbx] at hc
      exact absurd (cells_tag hc) (by decide)
    refine ⟨_, fc2 xb, _, _, _, (cbx.ext oo.ext).qouts, ?_⟩
    by_cases hlt : j < outs.length
    · rw [if_pos (decide_eq_true (by omega))]
      obtain ⟨o0, o1⟩ := v.outs' j hlt
      obtain ⟨a1, q1, q2⟩ := (C2.o.ext oo.ext).at c' hlt
      obtain ⟨a2, q3, q4⟩ := (rowA.ext oo.ext).ix ct o0 o1
      rw [dL_get (by omega)] at q4
      refine ⟨_, fc2 ob, _, _, _, cb7.qouts, _, fc2 xb, _, _, _, (cbx.ext oo.ext).qouts, a1, q1, _, q2, a2, q3, _, q4, ?_⟩
      refine oo.pushQ (by omega) _ (fun H' X => cb7.qouts.up X) (fun A13 c13 H13 o13 g13 => ⟨_, fc2 ob, ?_⟩)
      have cb13 : CB H13 ob P Ag ng cg Ao (outs.length + j) co := g13.keep _ _ (ooTag oo cb7) cb7
      refine cb_outs cb13 obB (fun H14 cb14 s14 => ?_)
      have o14 := o13.same obN (ooTag o13 cb13) s14
      refine ⟨outs.length - j - 1, by omega, _, rfl, j + 1, nxt (n := 1000000) (by omega) (by decide), by omega, by omega, _, _, cb14, ?_⟩
      have eo : outs.getD j 0 = outs[j] := by simp [hlt]
      have e : (outs.map fun o => atN gs o.toNat).take (j + 1) = (outs.map fun o => atN gs o.toNat).take j ++ [atN gs (outs.getD j 0).toNat] := by
        rw [List.take_add_one, List.getElem?_eq_getElem (by rw [List.length_map]; exact hlt), eo]
        simp
      rw [e, ← List.append_assoc]
      exact o14
    rw [if_neg (fun h => hlt (by have := of_decide_eq_true h; omega))]
    obtain rfl : j = outs.length := by omega
    rw [List.take_of_length_le (by rw [List.length_map]; exact Nat.le_refl _)] at oo
    have eO : outs ++ (outs.map fun o => atN gs o.toNat) = dO gs outs := rfl
    rw [eO] at oo
    have nn' := dG_nn hnn
    have cbd := cb7
    have rG := rowG.ext oo.ext
    have rO := oo.row
    have Cx := C2.ext oo.ext
    have cbx7 := cbx.ext oo.ext
    have G7 := G2.ext oo.ext
    have dll := dL_le gs gs.length
    have lD := dG_len (gs := gs)
    have rOl := rO.1
    clear oo cb7 C2 cbx G2 rowG rowA rl0 ct0 XH XH' C3 cb3 G3 ooTag hlt hj
    have aw7 : ∀ {H' : HH}, Ext H7 H' → HCall Tryd.prog base 28 #[] H' (fun v H => ∃ b : Bool, v = .bool b ∧ Value.bool b = .bool true) := fun X => h_awake36 (G7.ext X) (fun _ _ => ⟨_, rfl, rfl⟩)
    refine ⟨_, _, _, _, _, _, _, cbd.all, h_rvalid rG rO nn' (fun H8 X8 => ⟨_, rfl, ?_⟩)⟩
    cases hvd : validB P (dG gs) (dO gs outs) with
    | false =>
      rw [if_pos (by decide)]
      exact aw7 X8
    | true =>
    rw [if_neg (by decide)]
    have vd := validB_iff.1 hvd
    have W := v.wf hnn
    have W' := vd.wf nn'
    have D8 : Circ H8 Ag ng (dG gs) Ao (outs.length + outs.length) (dO gs outs) := ⟨rG.ext X8, rO.ext X8, nn', by omega, by omega⟩
    have Cx8 := Cx.ext X8
    refine ⟨_, _, _, _, _, _, _, (cbx7.ext X8).all, h_optimize W v.outs' Cx8 (fun B1 n1 c1 B2 c2 B3 c3 H9 X9 og hc1 oo ot => ⟨_, _, _, _, _, _, _, _, _, _, rfl, h_ctvars3 (fun db tb H10 X10 dbn dbB dv tv => ?_)⟩)⟩
    have Dx9 := opt_circ Cx8 og oo
    refine ⟨_, _, _, _, _, _, _, ((cbd.ext X8).ext (X9.trans X10)).all, h_optimize W' vd.outs' (D8.ext (X9.trans X10)) (fun E1 m1 d1 E2 d2 E3 d3 H11 X11 eg hc2 eo et => ⟨_, _, _, _, _, _, _, _, _, _, rfl, h_ctvars3 (fun eb ub H12 X12 ebn ebB ev uv => ?_)⟩)⟩
    have ln : (dO gs outs).length = outs.length + outs.length := by unfold dO; rw [List.length_append, List.length_map]
    have Dy : Circ H12 E1 m1 (optG (dG gs) (dO gs outs)) E2 (dO gs outs).length (optO (dG gs) (dO gs outs)) := (opt_circ D8 eg eo).ext X12
    have X1012 := X11.trans X12
    have X912 := X10.trans X1012
    have dv12 := dv.ext X1012
    have Dx12 := Dx9.ext X912
    have G9 := G7.ext (X8.trans X9)
    clear eg eo et og oo ot cbd cbx7 rG rO Cx Cx8 D8 aw7 G7
    refine ⟨_, fc2 db, _, _, _, dv12.qouts, _, fc2 db, _, _, _, dv12.qouts, ?_⟩
    refine z_mk0 (.refl _) (fun Az cz H13 X13' oz => ⟨_, _, _, rfl, dv12.qouts.up oz.ext, dv12.qouts.up oz.ext, z_app oz (Dx12.o.ext oz.ext) (by omega) (by omega) (fun Ay cy H14 oy gy => ⟨_, _, _, rfl, dv12.qouts.up oy.ext, z_app oy (Dx12.o.ext oy.ext) (by omega) (by omega) (fun Aw cw H15 ow gw => ⟨_, _, _, rfl, _, fc2 db, ?_⟩)⟩)⟩)
    have dv15 := dv12.ext ow.ext
    refine cb_outs dv15 dbB (fun H16 dv16 s16 => ?_)
    have X916 : Ext H9 H16 := ext_same (X912.trans ow.ext) dbn s16
    have Dy16 := circ_keep (Dy.ext ow.ext) dv15 s16
    have ev16 : CB H16 eb P E1 m1 d1 E2 (dO gs outs).length d2 := by
      have h1 := (ev.ext ow.ext)
      have : eb ≠ db := fun e => by
        have h2 := dv.ext X11
        unfold CB at h2
        rw [← e, ebn] at h2; cases h2
      unfold CB at h1 ⊢
      rw [s16 eb this]; exact h1
    have gx16 := gs_keep (Dx12.g.ext ow.ext) dv15 s16
    have ox16 : Outs H16 Aw (0 + outs.length + outs.length) ([] ++ optO gs outs ++ optO gs outs) := outs_keep ow.row dv15 s16
    rw [List.nil_append, Nat.zero_add] at ox16
    have lx := ox16.1
    have lg := Dx12.lg
    have Dx16 : Circ H16 B1 n1 (optG gs outs) Aw (outs.length + outs.length) (optO gs outs ++ optO gs outs) := ⟨gx16, ox16, Dx12.nn, lg, by omega⟩
    refine h_awake36 (G9.ext X916) (fun H17 X17 => ⟨_, rfl, ?_⟩)
    rw [if_pos rfl]
    refine ⟨_, _, _, _, _, _, _, (dv16.ext X17).all, _, _, _, _, _, _, _, (ev16.ext X17).all, ?_⟩
    rw [Nat.zero_add]
    refine h_equal32 (Dx16.ext X17) (Dy16.ext X17) (fun _ H18 X18 => ⟨_, rfl, rfl⟩) (fun h => absurd ⟨rfl, (dG_optG W W' v.outs').symm, (dG_optO W W' v.outs').symm⟩ h)
  have S0 := DS.start base H3
  have hl1 : gs.length ≤ 100000 := by omega
  have hl2 : outs.length ≤ 100000 := by omega
  repeat' first
    | (apply And.intro; (· exact DS.qo (by assumption) cb3))
    | (apply And.intro; (· exact DS.qg (by assumption) cb3))
    | (apply And.intro; (· exact DS.qp (by assumption) cb3))
    | (apply ds_g1; (· assumption); (intro _ _ _ _; refine ⟨_, _, _, rfl, ?_⟩))
    | (apply ds_o1; (· assumption); (intro _ _ _ _; refine ⟨_, _, _, rfl, ?_⟩))
    | (apply ds_g2; (· assumption); (· exact C3.g); (· exact hl1); (intro _ _ _ _; refine ⟨_, _, _, rfl, ?_⟩))
    | (apply ds_o2; (· assumption); (· exact C3.o); (· exact hl2); (intro _ _ _ _; refine ⟨_, _, _, rfl, ?_⟩))
    | (apply ds_al; (· assumption); (intro _ _ _; refine ⟨_, rfl, ?_⟩))
    | (apply ds_st; (· assumption); (intro _ _; apply fin; assumption))
    | refine ⟨_, _, _, _, _, _, _, ds_build, ?_⟩
    | apply And.intro
end
end Go.Proofs.YtjpaichcaaacbaaDoor.HL
end

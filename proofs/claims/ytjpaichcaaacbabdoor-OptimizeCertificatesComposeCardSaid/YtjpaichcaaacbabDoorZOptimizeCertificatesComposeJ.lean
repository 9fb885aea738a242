/- Part J of: The statement OptimizeCertificatesCompose: the law answers true whatever its arguments; no condition. -/
import Derived.Test.YtjpaichcaaacbabDoorZOptimizeCertificatesComposeI
section
set_option linter.unusedVariables false
set_option linter.unusedSimpArgs false
set_option linter.unusedSectionVars false
set_option maxHeartbeats 8000000
namespace Go.Proofs.YtjpaichcaaacbabDoor.HL
open Go Go.Proofs.YtjpaichcaaacbabDoorNum Go.Proofs.YtjpaichcaaacbabDoor.FEv
def inG (gs : List Gate) (n : Nat) : List Nat := (List.range n).filter fun i => (gs.getD i gate0).kind == 1
theorem inG_succ (gs : List Gate) (n : Nat) : inG gs (n + 1) = if (gs.getD n gate0).kind = 1 then inG gs n ++ [n] else inG gs n := by
  unfold inG
  rw [List.range_succ, List.filter_append]
  by_cases h : (gs.getD n gate0).kind = 1
  · rw [if_pos h, List.filter_cons, if_pos (by rw [h]; rfl), List.filter_nil]
  · rw [if_neg h, List.filter_cons, if_neg (by simpa using h), List.filter_nil, List.append_nil]
theorem inG_le (gs : List Gate) (n : Nat) : (inG gs n).length ≤ n := by
  unfold inG
  have := List.length_filter_le (fun i => (gs.getD i gate0).kind == 1) (List.range n)
  simpa using this
theorem inG_mem {gs : List Gate} {n i : Nat} (h : i ∈ inG gs n) : i < n ∧ (gs.getD i gate0).kind = 1 := by
  unfold inG at h
  rw [List.mem_filter] at h
  exact ⟨List.mem_range.1 h.1, by simpa using h.2⟩
def zs (l : List Nat) : List Int := l.map fun (k : Nat) => (k : Int)
theorem zs_get (l : List Nat) (i : Nat) : (zs l).getD i 0 = ((l.getD i 0 : Nat) : Int) := by
  unfold zs
  rw [List.getD_eq_getElem?_getD, List.getD_eq_getElem?_getD, List.getElem?_map]
  cases l[i]? <;> rfl
theorem zs_snoc (l : List Nat) (k : Nat) : zs (l ++ [k]) = zs l ++ [(k : Int)] := by simp [zs]
section
variable {base : Nat} {H : HH} {K : Value → HH → Prop} {A A' : Option Addr} {n n' c c' : Nat} {P : Int} {gs : List Gate}
theorem h_inputs (hg : Gs H A n gs) (hz : gs.length ≤ 100000) (hk : ∀ A1 c1 H', Ext H H' → Outs H' A1 (inG gs gs.length).length (zs (inG gs gs.length)) → K (.slice A1 (inG gs gs.length).length c1) H') : HCall Tryd.prog base 16 #[.agg #[.int .u64 P, .slice A n c, .slice A' n' c']] H K := by
  refine optimize_inputs.spec ?_
  unfold optimize_inputs.sh
  obtain rfl := hg.1
  refine h_cbox (fun xb H1 X1 cb => ⟨_, rfl, _, fc1 xb, _, _, _, cb.qgs, ?_⟩)
  refine optimize_inputs.loop0 (fun r A1 l1 c1 y H' => ∃ j : Nat, y = j ∧ j ≤ gs.length ∧ r = gs.length - j ∧ l1 = (inG gs j).length ∧ ∃ F, Ext H F ∧ OwnZ base F H' A1 l1 c1 (zs (inG gs j))) gs.length ⟨0, rfl, Nat.zero_le _, rfl, rfl, H1, X1, OwnZ.nil _ _⟩ ?_
  rintro r A1 l1 c1 y fr H2 ⟨j, rfl, hj, rfl, hl1, F, XF, o2⟩
  unfold optimize_inputs.B0
  have hle := inG_le gs j
  by_cases hlt : j < gs.length
  · rw [if_pos (decide_eq_true (by omega))]
    obtain ⟨a, q1, q2⟩ := (hg.ext (XF.trans o2.ext)).at c (i := j) hlt
    have nx : IntKind.i64.wrap ((j : Int) + 1) = ((j + 1 : Nat) : Int) := nxt (n := 1000000) (by omega) (by decide)
    refine ⟨a, q1, _, _, _, _, _, q2.all, h_gvar (fun ad H3 X3 ga => ⟨_, fg0 ad, _, ga.kind, ?_⟩)⟩
    have is := inG_succ gs j
    by_cases k1 : (gs.getD j gate0).kind = 1
    · rw [if_pos (by simpa using k1)]
      rw [if_pos k1] at is
      refine (o2.more X3).push (by omega) _ (fun A4 c4 H4 o4 g4 => ?_)
      refine ⟨gs.length - j - 1, by omega, _, _, _, _, rfl, rfl, j + 1, nx, by omega, by omega, by rw [is, List.length_append]; simp [hl1], F, XF, ?_⟩
      rw [is, zs_snoc]; exact o4
    · rw [if_neg (by simpa using k1)]
      rw [if_neg k1] at is
      exact ⟨gs.length - j - 1, by omega, _, _, _, _, rfl, rfl, j + 1, nx, by omega, by omega, by rw [is]; exact hl1, F, XF, by rw [is]; exact o2.more X3⟩
  · rw [if_neg (fun h => hlt (by have := of_decide_eq_true h; omega))]
    obtain rfl : j = gs.length := by omega
    subst hl1
    exact hk _ _ _ (XF.trans o2.ext) o2.row
end
def corrB (g h : Gate) (tt : List Int) : Bool :=
  h.kind == g.kind && (h.k == g.k && (!sA g.kind || (decide (0 ≤ tt.getD g.a.toNat 0) && (if sB g.kind = true then decide (0 ≤ tt.getD g.b.toNat 0) && ((h.a == tt.getD g.a.toNat 0 && h.b == tt.getD g.b.toNat 0) || (cm g.kind && (h.a == tt.getD g.b.toNat 0 && h.b == tt.getD g.a.toNat 0))) else h.a == tt.getD g.a.toNat 0))))
theorem sB_sA {k : Int} (h : sB k = true) : sA k = true := by
  unfold sB at h; unfold sA
  simp only [Bool.or_eq_true, beq_iff_eq] at h ⊢
  omega
theorem cm_sB {k : Int} (h : cm k = true) : sB k = true := by
  unfold cm at h; unfold sB
  simp only [Bool.or_eq_true, beq_iff_eq] at h ⊢
  omega
section
variable {base : Nat} {H : HH} {K : Value → HH → Prop} {A : Option Addr} {n c : Nat} {tt : List Int} {g h : Gate}
theorem h_alike (ht : Outs H A n tt) (ha : sA g.kind = true → 0 ≤ g.a ∧ g.a < n) (hb : sB g.kind = true → 0 ≤ g.b ∧ g.b < n) (hk : ∀ H', Ext H H' → K (.bool (corrB g h tt)) H') : HCall Tryd.prog base 17 #[.agg (gv g).toArray, .agg (gv h).toArray, .slice A n c] H K := by
  refine optimize_alike.spec ?_
  unfold optimize_alike.sh
  refine h_gbox (g := g) (fun a H1 X1 ga => ⟨_, rfl, h_gbox (g := h) (fun b H2 X2 gb => ⟨_, rfl, ?_⟩)⟩)
  have ga := ga.ext X2
  have X := X1.trans X2
  have ht := ht.ext X
  have hkv : ∀ v, corrB g h tt = v → K (.bool v) H2 := fun v e => e ▸ hk H2 X
  refine ⟨_, fg0 b, _, gb.kind, _, fg0 a, _, ga.kind, ?_⟩
  cases b1 : (h.kind == g.kind) with
  | false =>
    rw [if_neg (by simpa [bne] using b1)]
    exact hkv _ (by unfold corrB; simp only [b1, Bool.true_and, Bool.false_and, Bool.and_true, Bool.and_false, Bool.true_or, Bool.false_or, Bool.or_false, Bool.or_true, Bool.not_true, Bool.not_false, Bool.false_eq_true, ↓reduceIte])
  | true =>
  rw [if_pos (by simpa [bne] using b1)]
  refine ⟨_, fg4 b, _, gb.k, _, fg4 a, _, ga.k, ?_⟩
  cases b2 : (h.k == g.k) with
  | false =>
    rw [if_pos (by simpa [bne] using b2)]
    exact hkv _ (by unfold corrB; simp only [b1, b2, Bool.true_and, Bool.false_and, Bool.and_true, Bool.and_false, Bool.true_or, Bool.false_or, Bool.or_false, Bool.or_true, Bool.not_true, Bool.not_false, Bool.false_eq_true, ↓reduceIte])
  | true =>
  rw [if_neg (by simpa [bne] using b2)]
  refine ⟨_, fg0 a, _, ga.kind, h_sides g.kind ⟨_, _, rfl, ?_⟩⟩
  cases sa : sA g.kind with
  | false =>
    rw [if_pos (by decide)]
    exact hkv _ (by unfold corrB; simp only [b1, b2, sa, Bool.true_and, Bool.false_and, Bool.and_true, Bool.and_false, Bool.true_or, Bool.false_or, Bool.or_false, Bool.or_true, Bool.not_true, Bool.not_false, Bool.false_eq_true, ↓reduceIte])
  | true =>
  rw [if_neg (by decide)]
  obtain ⟨x0, x1⟩ := ha sa
  obtain ⟨a5, t1, t2⟩ := ht.ix c x0 x1
  refine ⟨_, fg2 a, _, ga.sa, a5, t1, _, t2, ?_⟩
  cases sb : sB g.kind with
  | false =>
    rw [if_pos (by decide)]
    cases b3 : decide (0 ≤ tt.getD g.a.toNat 0) with
    | true =>
      rw [if_pos rfl]
      refine ⟨_, fg2 b, _, gb.sa, ?_⟩
      exact hkv _ (by unfold corrB; simp only [b1, b2, sa, sb, b3, Bool.true_and, Bool.false_and, Bool.and_true, Bool.and_false, Bool.true_or, Bool.false_or, Bool.or_false, Bool.or_true, Bool.not_true, Bool.not_false, Bool.false_eq_true, ↓reduceIte])
    | false =>
      rw [if_neg (by decide)]
      exact hkv _ (by unfold corrB; simp only [b1, b2, sa, sb, b3, Bool.true_and, Bool.false_and, Bool.and_true, Bool.and_false, Bool.true_or, Bool.false_or, Bool.or_false, Bool.or_true, Bool.not_true, Bool.not_false, Bool.false_eq_true, ↓reduceIte])
  | true =>
  rw [if_neg (by decide)]
  obtain ⟨y0, y1⟩ := hb sb
  obtain ⟨a6, t3, t4⟩ := ht.ix c y0 y1
  refine ⟨_, fg3 a, _, ga.sb, a6, t3, _, t4, ?_⟩
  have hkv : ∀ v, (h.kind == g.kind && (h.k == g.k && (!sA g.kind || (decide (0 ≤ tt.getD g.a.toNat 0) && (if sB g.kind = true then decide (0 ≤ tt.getD g.b.toNat 0) && ((h.a == tt.getD g.a.toNat 0 && h.b == tt.getD g.b.toNat 0) || (cm g.kind && (h.a == tt.getD g.b.toNat 0 && h.b == tt.getD g.a.toNat 0))) else h.a == tt.getD g.a.toNat 0))))) = v → K (.bool v) H2 := hkv
  generalize tt.getD g.a.toNat 0 = x at *
  generalize tt.getD g.b.toNat 0 = y at *
  rw [b1, b2, sa, sb] at hkv
  simp only [Bool.true_and, Bool.false_and, Bool.and_true, Bool.and_false, Bool.true_or, Bool.false_or, Bool.or_false, Bool.or_true, Bool.not_true, Bool.not_false, Bool.false_eq_true, ↓reduceIte] at hkv
  by_cases e3 : x < 0
  · rw [if_neg (by simpa using e3)]
    exact hkv _ (by rw [decide_eq_false (by omega : ¬ 0 ≤ x)]; rfl)
  rw [if_pos (by simpa using e3)]
  rw [decide_eq_true (by omega : 0 ≤ x), Bool.true_and] at hkv
  by_cases e4 : y < 0
  · rw [if_pos (by simpa using e4)]
    exact hkv _ (by rw [decide_eq_false (by omega : ¬ 0 ≤ y)]; rfl)
  rw [if_neg (by simpa using e4)]
  rw [decide_eq_true (by omega : 0 ≤ y), Bool.true_and] at hkv
  have last : (h.a == x && h.b == y) = false → HCall Tryd.prog base 30 #[.int .i64 g.kind] H2 (fun v37 H38 => ∃ b39 : Bool, v37 = .bool b39 ∧ if b39 = true then ∃ a40 : Addr, AQ Tryd.prog (Instr.fieldAt tGate (.pointer (some b)) 2) (.pointer (some a40)) ∧ ∃ n41 : Int, QRun Tryd.prog (Instr.loadAt 3 (.pointer (some a40))) H38 (.int .i64 n41) ∧ if (n41 == y) = true then ∃ a42 : Addr, AQ Tryd.prog (Instr.fieldAt tGate (.pointer (some b)) 3) (.pointer (some a42)) ∧ ∃ n43 : Int, QRun Tryd.prog (Instr.loadAt 3 (.pointer (some a42))) H38 (.int .i64 n43) ∧ K (.bool (n43 == x)) H38 else K (.bool false) H38 else K (.bool false) H38) := fun e5 => by
    rw [e5, Bool.false_or] at hkv
    refine h_either g.kind ⟨_, rfl, ?_⟩
    cases hc : cm g.kind with
    | false =>
      rw [if_neg (by decide)]
      exact hkv _ (by rw [hc]; rfl)
    | true =>
      rw [if_pos rfl]
      rw [hc, Bool.true_and] at hkv
      refine ⟨_, fg2 b, _, gb.sa, ?_⟩
      cases e7 : (h.a == y) with
      | true =>
        rw [if_pos rfl]
        exact ⟨_, fg3 b, _, gb.sb, hkv _ (by rw [e7]; rfl)⟩
      | false =>
        rw [if_neg (by decide)]
        exact hkv _ (by rw [e7]; rfl)
  refine ⟨_, fg2 b, _, gb.sa, ?_⟩
  cases e5 : (h.a == x) with
  | true =>
    rw [if_pos rfl]
    refine ⟨_, fg3 b, _, gb.sb, ?_⟩
    cases e6 : (h.b == y) with
    | true =>
      rw [if_neg (by decide)]
      exact hkv _ (by rw [e5, e6]; rfl)
    | false =>
      rw [if_pos rfl]
      exact ⟨_, fg0 a, _, ga.kind, last (by rw [e5, e6]; rfl)⟩
  | false =>
    rw [if_neg (by decide)]
    exact ⟨_, fg0 a, _, ga.kind, last (by rw [e5]; rfl)⟩
end
end Go.Proofs.YtjpaichcaaacbabDoor.HL
end
section
set_option linter.unusedVariables false
set_option linter.unusedSimpArgs false
set_option linter.unusedSectionVars false
set_option maxHeartbeats 8000000
namespace Go.Proofs.YtjpaichcaaacbabDoor.HL
open Go Go.Proofs.YtjpaichcaaacbabDoorNum Go.Proofs.YtjpaichcaaacbabDoor.FEv
/-- A circuit in memory. -/
structure Circ (H : HH) (A : Option Addr) (n : Nat) (gs : List Gate) (A' : Option Addr) (n' : Nat) (outs : List Int) : Prop where
  g : Gs H A n gs
  o : Outs H A' n' outs
  nn : ∀ g ∈ gs, 0 ≤ g.k
  lg : gs.length ≤ 100000
  lo : outs.length ≤ 100000
theorem Circ.ext {H H' : HH} {A A' : Option Addr} {n n' : Nat} {gs : List Gate} {outs : List Int} (h : Circ H A n gs A' n' outs) (X : Ext H H') : Circ H' A n gs A' n' outs := ⟨h.g.ext X, h.o.ext X, h.nn, h.lg, h.lo⟩
/-- The certificate is valid. -/
structure CK (P : Int) (gs : List Gate) (outs : List Int) (P' : Int) (gs' : List Gate) (outs' : List Int) (tt : List Int) : Prop where
  v : validB P gs outs = true
  v' : validB P' gs' outs' = true
  p : P = P'
  len : tt.length = gs.length
  olen : outs.length = outs'.length
  rng : ∀ i, i < tt.length → -1 ≤ tt.getD i 0 ∧ tt.getD i 0 < (gs'.length : Int)
  inl : (inG gs gs.length).length = (inG gs' gs'.length).length
  ins : ∀ i, i < (inG gs gs.length).length → tt.getD ((inG gs gs.length).getD i 0) 0 = (((inG gs' gs'.length).getD i 0 : Nat) : Int) ∧ gs.getD ((inG gs gs.length).getD i 0) gate0 = gs'.getD ((inG gs' gs'.length).getD i 0) gate0
  cor : ∀ i, i < gs.length → (gs.getD i gate0).kind ≠ 1 → 0 ≤ tt.getD i 0 → corrB (gs.getD i gate0) (gs'.getD (tt.getD i 0).toNat gate0) tt = true
  out : ∀ i, i < outs.length → tt.getD (outs.getD i 0).toNat 0 = outs'.getD i 0
theorem inG_get {gs : List Gate} {i : Nat} (h : i < (inG gs gs.length).length) : (inG gs gs.length).getD i 0 < gs.length ∧ (gs.getD ((inG gs gs.length).getD i 0) gate0).kind = 1 := by
  have e : (inG gs gs.length).getD i 0 = (inG gs gs.length)[i] := by simp [h]
  exact inG_mem (by rw [e]; exact List.getElem_mem _)
theorem VOK.outA {P : Int} {gs : List Gate} {outs : List Int} (h : VOK P gs outs) {i : Nat} (hi : i < outs.length) : 0 ≤ outs.getD i 0 ∧ outs.getD i 0 < (gs.length : Int) := by
  have e : outs.getD i 0 = outs[i] := by simp [hi]
  exact h.outs _ (by rw [e]; exact List.getElem_mem _)
theorem GOK.sideA {P : Int} {i : Nat} {g : Gate} (h : GOK P i g) (hs : sA g.kind = true) : 0 ≤ g.a ∧ g.a < i := by
  unfold sA at hs
  simp only [Bool.or_eq_true, beq_iff_eq] at hs
  by_cases h5 : g.kind = 5
  · exact (h.sc h5).2
  · have := h.two (by omega); exact ⟨this.1, this.2.1⟩
theorem GOK.sideB {P : Int} {i : Nat} {g : Gate} (h : GOK P i g) (hs : sB g.kind = true) : 0 ≤ g.b ∧ g.b < i := by
  unfold sB at hs
  simp only [Bool.or_eq_true, beq_iff_eq] at hs
  have := h.two (by omega); exact ⟨this.2.2.1, this.2.2.2⟩
theorem all_succ {Q : Nat → Prop} {j : Nat} (h : ∀ t, t < j → Q t) (hj : Q j) : ∀ t, t < j + 1 → Q t := fun t ht => by
  rcases Nat.lt_or_ge t j with h1 | h1
  · exact h t h1
  · obtain rfl : t = j := by omega
    exact hj
section
variable {base : Nat} {H : HH} {K : Value → HH → Prop} {A A' B B' T : Option Addr} {n n' c c' m m' d d' nt ct : Nat} {P P' : Int} {gs gs' : List Gate} {outs outs' : List Int} {tt : List Int}
theorem h_check (hG : Gl H) (h1 : Circ H A n gs A' n' outs) (h2 : Circ H B m gs' B' m' outs') (ht : Outs H T nt tt)
    (hk1 : CK P gs outs P' gs' outs' tt → ∀ H', Ext H H' → K (.bool true) H') (hk2 : ¬ CK P gs outs P' gs' outs' tt → ∀ H', Ext H H' → K (.bool false) H') :
    HCall Tryd.prog base 7 #[.agg #[.int .u64 P, .slice A n c, .slice A' n' c'], .agg #[.int .u64 P', .slice B m d, .slice B' m' d'], .agg #[.slice T nt ct]] H K := by
  refine optimize_CheckCertificate.spec ?_
  unfold optimize_CheckCertificate.sh
  refine h_cbox (fun xb H1 X1 cb => ⟨_, rfl, h_cbox (fun yb H2 X2 db => ⟨_, rfl, h_tbox (fun tb H3 X3 tk => ⟨_, rfl, ?_⟩)⟩)⟩)
  have X13 := X1.trans (X2.trans X3)
  have cb3 := (cb.ext X2).ext X3
  have db3 := db.ext X3
  refine ⟨_, _, _, _, _, _, _, cb3.all, h_valid (hG.ext X13) (h1.g.ext X13) (h1.o.ext X13) (fun H4 X4 => ⟨_, rfl, ?_⟩)⟩
  cases hv1 : validB P gs outs with
  | false =>
    rw [if_neg (by decide)]
    exact hk2 (fun h => by rw [h.v] at hv1; cases hv1) H4 (X13.trans X4)
  | true =>
  rw [if_pos (by decide)]
  have X14 := X13.trans X4
  refine ⟨_, _, _, _, _, _, _, (db3.ext X4).all, h_valid (hG.ext X14) (h2.g.ext X14) (h2.o.ext X14) (fun H5 X5 => ⟨_, rfl, ?_⟩)⟩
  have X15 := X14.trans X5
  have hk1' : CK P gs outs P' gs' outs' tt → ∀ H', Ext H5 H' → K (.bool true) H' := fun h H' X => hk1 h H' (X15.trans X)
  have hk2' : ¬ CK P gs outs P' gs' outs' tt → ∀ H', Ext H5 H' → K (.bool false) H' := fun h H' X => hk2 h H' (X15.trans X)
  clear hk1 hk2
  cases hv2 : validB P' gs' outs' with
  | false =>
    rw [if_neg (by decide)]
    exact hk2' (fun h => by rw [h.v'] at hv2; cases hv2) H5 (.refl _)
  | true =>
  rw [if_pos (by decide)]
  have cb5 := (cb3.ext X4).ext X5
  have db5 := (db3.ext X4).ext X5
  have tk5 := (tk.ext X4).ext X5
  have c1 := h1.ext X15
  have c2 := h2.ext X15
  have t5 := ht.ext X15
  have v1 := validB_iff.1 hv1
  have v2 := validB_iff.1 hv2
  obtain rfl := h1.g.1
  obtain rfl := h1.o.1
  obtain rfl := h2.g.1
  obtain rfl := h2.o.1
  obtain rfl := ht.1
  have lg := h1.lg
  have lg' := h2.lg
  have lo := h1.lo
  clear h1 h2 ht hG cb cb3 db db3 tk X1 X2 X3 X4 X5 X13 X14 X15
  refine ⟨_, fc0 xb, _, cb5.qp, _, fc0 yb, _, db5.qp, ?_⟩
  by_cases eP : P = P'
  rotate_left
  · rw [if_neg (by simpa using eP)]
    exact hk2' (fun h => eP h.p) H5 (.refl _)
  rw [if_pos (by simpa using eP)]
  refine ⟨_, ft0 tb, _, _, _, tk5.to, _, fc1 xb, _, _, _, cb5.qgs, ?_⟩
  by_cases eL : tt.length = gs.length
  rotate_left
  · rw [if_neg (by rw [Bool.not_eq_false, bne_iff_ne]; omega)]
    exact hk2' (fun h => eL h.len) H5 (.refl _)
  rw [if_pos (by rw [eL]; simp)]
  refine ⟨_, fc2 xb, _, _, _, cb5.qouts, _, fc2 yb, _, _, _, db5.qouts, ?_⟩
  by_cases eO : outs.length = outs'.length
  rotate_left
  · rw [if_pos (by rw [bne_iff_ne]; omega)]
    exact hk2' (fun h => eO h.olen) H5 (.refl _)
  rw [if_neg (by rw [eO]; simp)]
  refine ⟨_, ft0 tb, _, _, _, tk5.to, ?_⟩
  refine optimize_CheckCertificate.loop0 (fun r y H' => H' = H5 ∧ ∃ j : Nat, y = j ∧ j ≤ tt.length ∧ r = tt.length - j ∧ ∀ t, t < j → -1 ≤ tt.getD t 0 ∧ tt.getD t 0 < (gs'.length : Int)) tt.length ⟨rfl, 0, rfl, Nat.zero_le _, rfl, fun t h => by omega⟩ ?_
  rintro r y fr H6 ⟨rfl, j, rfl, hj, rfl, hrng⟩
  unfold optimize_CheckCertificate.B0
  by_cases hlt : j < tt.length
  · rw [if_pos (decide_eq_true (by omega))]
    obtain ⟨a, q1, q2⟩ := t5.at ct (i := j) hlt
    refine ⟨a, q1, _, q2, ?_⟩
    by_cases e1 : tt.getD j 0 < -1
    · rw [if_neg (by simpa using e1)]
      exact hk2' (fun h => by have := h.rng j hlt; omega) H6 (.refl _)
    rw [if_pos (by simpa using e1)]
    refine ⟨_, fc1 yb, _, _, _, db5.qgs, ?_⟩
    by_cases e2 : tt.getD j 0 ≥ (gs'.length : Int)
    · rw [if_pos (decide_eq_true e2)]
      exact hk2' (fun h => by have := h.rng j hlt; omega) H6 (.refl _)
    rw [if_neg (fun h => e2 (of_decide_eq_true h))]
    exact ⟨tt.length - j - 1, by omega, _, rfl, rfl, j + 1, nxt (n := 1000000) (by omega) (by decide), by omega, by omega, all_succ hrng ⟨by omega, by omega⟩⟩
  rw [if_neg (fun h => hlt (by have := of_decide_eq_true h; omega))]
  obtain rfl : j = tt.length := by omega
  clear hlt hj
  refine ⟨_, _, _, _, _, _, _, cb5.all, _, _, _, _, _, _, _, db5.all, h_inputs c1.g lg (fun Ax cx H7 X7 rx => ⟨_, _, _, rfl, (db5.ext X7).all, h_inputs (c2.g.ext X7) lg' (fun Ay cy H8 X8 ry => ⟨_, _, _, rfl, ?_⟩)⟩)⟩
  by_cases eI : (inG gs gs.length).length = (inG gs' gs'.length).length
  rotate_left
  · rw [if_pos (by rw [bne_iff_ne]; omega)]
    exact hk2' (fun h => eI h.inl) H8 (X7.trans X8)
  rw [if_neg (by rw [eI]; simp)]
  have X68 := X7.trans X8
  have cb8 := cb5.ext X68
  have db8 := db5.ext X68
  have tk8 := tk5.ext X68
  have d1 := c1.ext X68
  have d2 := c2.ext X68
  have t8 := t5.ext X68
  have rx8 := rx.ext X8
  have hk1 : CK P gs outs P' gs' outs' tt → ∀ H', Ext H8 H' → K (.bool true) H' := fun h H' X => hk1' h H' (X68.trans X)
  have hk2 : ¬ CK P gs outs P' gs' outs' tt → ∀ H', Ext H8 H' → K (.bool false) H' := fun h H' X => hk2' h H' (X68.trans X)
  clear cb5 db5 tk5 c1 c2 t5 rx hk1' hk2' X7 X8 X68
  have il := inG_le gs gs.length
  refine optimize_CheckCertificate.loop1 (fun r y H' => H' = H8 ∧ ∃ j : Nat, y = j ∧ j ≤ (inG gs gs.length).length ∧ r = (inG gs gs.length).length - j ∧ ∀ i, i < j → tt.getD ((inG gs gs.length).getD i 0) 0 = (((inG gs' gs'.length).getD i 0 : Nat) : Int) ∧ gs.getD ((inG gs gs.length).getD i 0) gate0 = gs'.getD ((inG gs' gs'.length).getD i 0) gate0) (inG gs gs.length).length ⟨rfl, 0, rfl, Nat.zero_le _, rfl, fun t h => by omega⟩ ?_
  rintro r y fr H9 ⟨rfl, j, rfl, hj, rfl, hins⟩
  unfold optimize_CheckCertificate.B1
  by_cases hlt : j < (inG gs gs.length).length
  · rw [if_pos (decide_eq_true (by omega))]
    obtain ⟨ia, ik⟩ := inG_get hlt
    obtain ⟨ja, jk⟩ := inG_get (gs := gs') (i := j) (by omega)
    obtain ⟨a1, q1, q2⟩ := rx8.at cx (i := j) hlt
    obtain ⟨a2, q3, q4⟩ := ry.at cy (i := j) (by omega)
    rw [zs_get] at q2 q4
    obtain ⟨a3, q5, q6⟩ := t8.at ct (i := (inG gs gs.length).getD j 0) (by omega)
    obtain ⟨a4, q7, q8⟩ := d1.g.at c ia
    obtain ⟨a5, q9, q10⟩ := d2.g.at d ja
    refine ⟨_, ft0 tb, _, _, _, tk8.to, a1, q1, _, q2, a3, q5, _, q6, a2, q3, _, q4, ?_⟩
    by_cases e1 : tt.getD ((inG gs gs.length).getD j 0) 0 = (((inG gs' gs'.length).getD j 0 : Nat) : Int)
    rotate_left
    · rw [if_neg (by rw [Bool.not_eq_false, bne_iff_ne]; exact e1)]
      exact hk2 (fun h => e1 (h.ins j hlt).1) H9 (.refl _)
    rw [if_pos (by rw [e1]; simp)]
    refine ⟨_, fc1 xb, _, _, _, cb8.qgs, a1, q1, _, q2, a4, q7, _, _, _, _, _, q8.all, _, fc1 yb, _, _, _, db8.qgs, a2, q3, _, q4, a5, q9, _, _, _, _, _, q10.all, _, aq_neqg _ _, ?_⟩
    by_cases e2 : gs.getD ((inG gs gs.length).getD j 0) gate0 = gs'.getD ((inG gs' gs'.length).getD j 0) gate0
    rotate_left
    · rw [if_pos (decide_eq_true e2)]
      exact hk2 (fun h => e2 (h.ins j hlt).2) H9 (.refl _)
    rw [if_neg (fun h => (of_decide_eq_true h) e2)]
    exact ⟨(inG gs gs.length).length - j - 1, by omega, _, rfl, rfl, j + 1, nxt (n := 1000000) (by omega) (by decide), by omega, by omega, all_succ hins ⟨e1, e2⟩⟩
  rw [if_neg (fun h => hlt (by have := of_decide_eq_true h; omega))]
  obtain rfl : j = (inG gs gs.length).length := by omega
  clear hlt hj rx8 ry
  refine ⟨_, fc1 xb, _, _, _, cb8.qgs, ?_⟩
  refine optimize_CheckCertificate.loop2 (fun r y H' => Ext H9 H' ∧ ∃ j : Nat, y = j ∧ j ≤ gs.length ∧ r = gs.length - j ∧ ∀ i, i < j → (gs.getD i gate0).kind ≠ 1 → 0 ≤ tt.getD i 0 → corrB (gs.getD i gate0) (gs'.getD (tt.getD i 0).toNat gate0) tt = true) gs.length ⟨.refl _, 0, rfl, Nat.zero_le _, rfl, fun t h => by omega⟩ ?_
  rintro r y fr H10 ⟨X10, j, rfl, hj, rfl, hcor⟩
  unfold optimize_CheckCertificate.B2
  by_cases hlt : j < gs.length
  · rw [if_pos (decide_eq_true (by omega))]
    have nx : IntKind.i64.wrap ((j : Int) + 1) = ((j + 1 : Nat) : Int) := nxt (n := 1000000) (by omega) (by decide)
    obtain ⟨a1, q1, q2⟩ := (d1.g.ext X10).at c hlt
    refine ⟨a1, q1, _, _, _, _, _, q2.all, h_gvar (fun ad H11 X11 ga => ?_)⟩
    have X911 := X10.trans X11
    obtain ⟨a3, q5, q6⟩ := (t8.ext X911).at ct (i := j) (by omega)
    refine ⟨_, ft0 tb, _, _, _, (tk8.ext X911).to, a3, q5, _, q6, _, fg0 ad, _, ga.kind, ?_⟩
    by_cases e1 : (gs.getD j gate0).kind = 1
    · rw [if_neg (by rw [e1]; decide)]
      exact ⟨gs.length - j - 1, by omega, _, rfl, X911, j + 1, nx, by omega, by omega, all_succ hcor (fun h => absurd e1 h)⟩
    rw [if_pos (by rw [bne_iff_ne]; exact e1)]
    by_cases e2 : tt.getD j 0 ≥ 0
    rotate_left
    · rw [if_neg (fun h => e2 (of_decide_eq_true h))]
      exact ⟨gs.length - j - 1, by omega, _, rfl, X911, j + 1, nx, by omega, by omega, all_succ hcor (fun _ h => absurd h e2)⟩
    rw [if_pos (decide_eq_true e2)]
    have hr := hrng j (by omega)
    obtain ⟨a4, q7, q8⟩ := (d2.g.ext X911).ix d e2 hr.2
    have gok := v1.gok d1.nn hlt
    refine ⟨_, _, _, _, _, ga.all, _, fc1 yb, _, _, _, (db8.ext X911).qgs, a4, q7, _, _, _, _, _, q8.all, _, ft0 tb, _, _, _, (tk8.ext X911).to, h_alike (g := gs.getD j gate0) (h := gs'.getD (tt.getD j 0).toNat gate0) (t8.ext X911) (fun hs => by have := gok.sideA hs; omega) (fun hs => by have := gok.sideB hs; omega) (fun H12 X12 => ⟨_, rfl, ?_⟩)⟩
    cases e3 : corrB (gs.getD j gate0) (gs'.getD (tt.getD j 0).toNat gate0) tt with
    | false =>
      rw [if_pos (by decide)]
      exact hk2 (fun h => by rw [h.cor j hlt e1 e2] at e3; cases e3) H12 (X911.trans X12)
    | true =>
      rw [if_neg (by decide)]
      exact ⟨gs.length - j - 1, by omega, _, rfl, X911.trans X12, j + 1, nx, by omega, by omega, all_succ hcor (fun _ _ => e3)⟩
  rw [if_neg (fun h => hlt (by have := of_decide_eq_true h; omega))]
  obtain rfl : j = gs.length := by omega
  clear hlt hj
  refine ⟨_, fc2 xb, _, _, _, (cb8.ext X10).qouts, ?_⟩
  refine optimize_CheckCertificate.loop3 (fun r y H' => H' = H10 ∧ ∃ j : Nat, y = j ∧ j ≤ outs.length ∧ r = outs.length - j ∧ ∀ i, i < j → tt.getD (outs.getD i 0).toNat 0 = outs'.getD i 0) outs.length ⟨rfl, 0, rfl, Nat.zero_le _, rfl, fun t h => by omega⟩ ?_
  rintro r y fr H11 ⟨rfl, j, rfl, hj, rfl, hout⟩
  unfold optimize_CheckCertificate.B3
  by_cases hlt : j < outs.length
  · rw [if_pos (decide_eq_true (by omega))]
    have ho := v1.outA hlt
    have ho' := v2.outA (i := j) (by omega)
    obtain ⟨a1, q1, q2⟩ := (d1.o.ext X10).at c' hlt
    obtain ⟨a2, q3, q4⟩ := (t8.ext X10).ix ct ho.1 (by omega)
    obtain ⟨a3, q5, q6⟩ := (d2.o.ext X10).at d' (i := j) (by omega)
    refine ⟨a1, q1, _, q2, _, ft0 tb, _, _, _, (tk8.ext X10).to, a2, q3, _, q4, ?_⟩
    by_cases e1 : tt.getD (outs.getD j 0).toNat 0 < 0
    · rw [if_neg (by simpa using e1)]
      exact hk2 (fun h => by have := h.out j hlt; omega) H11 X10
    rw [if_pos (by simpa using e1)]
    refine ⟨_, ft0 tb, _, _, _, (tk8.ext X10).to, a2, q3, _, q4, _, fc2 yb, _, _, _, (db8.ext X10).qouts, a3, q5, _, q6, ?_⟩
    by_cases e2 : tt.getD (outs.getD j 0).toNat 0 = outs'.getD j 0
    rotate_left
    · rw [if_pos (by rw [bne_iff_ne]; exact e2)]
      exact hk2 (fun h => e2 (h.out j hlt)) H11 X10
    rw [if_neg (by rw [e2]; simp)]
    exact ⟨outs.length - j - 1, by omega, _, rfl, rfl, j + 1, nxt (n := 1000000) (by omega) (by decide), by omega, by omega, all_succ hout e2⟩
  rw [if_neg (fun h => hlt (by have := of_decide_eq_true h; omega))]
  obtain rfl : j = outs.length := by omega
  exact hk1 ⟨hv1, hv2, eP, eL, eO, hrng, eI, hins, hcor, hout⟩ H11 X10
end
end Go.Proofs.YtjpaichcaaacbabDoor.HL
end
namespace Go.Proofs.YtjpaichcaaacbabDoor.HL
end Go.Proofs.YtjpaichcaaacbabDoor.HL
section
set_option linter.unusedVariables false
set_option linter.unusedSimpArgs false
set_option linter.unusedSectionVars false
set_option maxHeartbeats 4000000
namespace Go.Proofs.YtjpaichcaaacbabDoor.HL
open Go Go.Proofs.YtjpaichcaaacbabDoorNum Go.Proofs.YtjpaichcaaacbabDoor.FEv
/-- What identifies equivalent gates. -/
structure Key where
  kind : Int
  a : Int
  b : Int
  k : Int
deriving DecidableEq
def keyF (f : Nat → Nat) (g : Gate) : Key :=
  if cm g.kind = true ∧ (f g.a.toNat : Int) > (f g.b.toNat : Int) then ⟨g.kind, (f g.b.toNat : Int), (f g.a.toNat : Int), g.k⟩
  else ⟨g.kind, if sA g.kind = true then (f g.a.toNat : Int) else 0, if sB g.kind = true then (f g.b.toNat : Int) else 0, g.k⟩
/-- The operands come earlier. -/
def WF (gs : List Gate) : Prop := ∀ t, t < gs.length → (sA (gs.getD t gate0).kind = true → 0 ≤ (gs.getD t gate0).a ∧ (gs.getD t gate0).a < t) ∧ (sB (gs.getD t gate0).kind = true → 0 ≤ (gs.getD t gate0).b ∧ (gs.getD t gate0).b < t)
theorem VOK.wf {P : Int} {gs : List Gate} {outs : List Int} (h : VOK P gs outs) (hnn : ∀ g ∈ gs, 0 ≤ g.k) : WF gs := fun t ht => ⟨(h.gok hnn ht).sideA, (h.gok hnn ht).sideB⟩
def isKey (gs : List Gate) (f : Nat → Nat) (x : Key) (t : Nat) : Bool := (gs.getD t gate0).kind != 1 && decide (keyF f (gs.getD t gate0) = x)
def repG (gs : List Gate) (f : Nat → Nat) (i : Nat) : Nat := if (gs.getD i gate0).kind = 1 then i else ((List.range i).find? (isKey gs f (keyF f (gs.getD i gate0)))).getD i
/-- The representatives of the first gates. -/
def fL (gs : List Gate) : Nat → List Nat
  | 0 => []
  | i + 1 => fL gs i ++ [repG gs (fun k => (fL gs i).getD k 0) i]
def fN (gs : List Gate) (k : Nat) : Nat := (fL gs (k + 1)).getD k 0
theorem fL_len (gs : List Gate) : ∀ i, (fL gs i).length = i
  | 0 => rfl
  | i + 1 => by rw [fL, List.length_append, fL_len gs i]; rfl
theorem getD_app_lt {α : Type} {l l' : List α} {d : α} {k : Nat} (h : k < l.length) : (l ++ l').getD k d = l.getD k d := by
  rw [List.getD_eq_getElem?_getD, List.getD_eq_getElem?_getD, List.getElem?_append_left h]
theorem getD_app_len {α : Type} {l : List α} {x d : α} {k : Nat} (h : k = l.length) : (l ++ [x]).getD k d = x := by
  subst h
  rw [List.getD_eq_getElem?_getD, List.getElem?_append_right (Nat.le_refl _), Nat.sub_self]; rfl
theorem fL_get (gs : List Gate) {k : Nat} : ∀ {i : Nat}, k < i → (fL gs i).getD k 0 = fN gs k
  | 0, h => by omega
  | i + 1, h => by
    rcases Nat.lt_or_ge k i with h1 | h1
    · rw [fL, getD_app_lt (by rw [fL_len]; exact h1)]; exact fL_get gs h1
    · obtain rfl : k = i := by omega
      rfl
theorem keyF_congr {f f' : Nat → Nat} {g : Gate} {t : Nat} (ha : sA g.kind = true → 0 ≤ g.a ∧ g.a < t) (hb : sB g.kind = true → 0 ≤ g.b ∧ g.b < t) (h : ∀ k, k < t → f k = f' k) : keyF f g = keyF f' g := by
  by_cases sb : sB g.kind = true
  · unfold keyF
    obtain ⟨y0, y1⟩ := hb sb
    obtain ⟨x0, x1⟩ := ha (sB_sA sb)
    rw [h _ (by omega), h _ (by omega)]
  · have hc : ¬ cm g.kind = true := fun h => sb (cm_sB h)
    have key : ∀ f : Nat → Nat, keyF f g = ⟨g.kind, if sA g.kind = true then (f g.a.toNat : Int) else 0, 0, g.k⟩ := fun f => by
      unfold keyF
      rw [if_neg (fun h => hc h.1), if_neg sb]
    rw [key f, key f']
    by_cases sa : sA g.kind = true
    · obtain ⟨x0, x1⟩ := ha sa
      rw [if_pos sa, if_pos sa, h _ (by omega)]
    · rw [if_neg sa, if_neg sa]
theorem find_congr {α : Type} {p q : α → Bool} {l : List α} (h : ∀ x ∈ l, p x = q x) : l.find? p = l.find? q := by
  induction l with
  | nil => rfl
  | cons x l ih =>
    rw [List.find?_cons, List.find?_cons, h x (List.mem_cons_self ..), ih (fun y hy => h y (List.mem_cons_of_mem _ hy))]
/-- What the map of the keys met holds, over the final representatives. -/
def met (gs : List Gate) (i : Nat) (x : Key) : Option Nat := (List.range i).find? (isKey gs (fN gs) x)
section
variable {gs : List Gate} (W : WF gs)
include W
theorem fN_eq {i : Nat} (hi : i < gs.length) : fN gs i = if (gs.getD i gate0).kind = 1 then i else (met gs i (keyF (fN gs) (gs.getD i gate0))).getD i := by
  have e : fN gs i = repG gs (fun k => (fL gs i).getD k 0) i := by unfold fN; rw [fL]; exact getD_app_len (fL_len gs i).symm
  rw [e]
  unfold repG met
  have hk : ∀ k, k < i → (fL gs i).getD k 0 = fN gs k := fun k h => fL_get gs h
  have key : ∀ t, t ≤ i → keyF (fun k => (fL gs i).getD k 0) (gs.getD t gate0) = keyF (fN gs) (gs.getD t gate0) := fun t ht => keyF_congr (W t (by omega)).1 (W t (by omega)).2 (fun k h => hk k (by omega))
  rw [key i (Nat.le_refl _)]
  split
  · rfl
  · congr 1
    refine find_congr (fun t ht => ?_)
    unfold isKey
    rw [key t (by have := List.mem_range.1 ht; omega)]
theorem met_succ (i : Nat) (x : Key) : met gs (i + 1) x = (met gs i x).or (if isKey gs (fN gs) x i = true then some i else none) := by
  unfold met
  rw [List.range_succ, List.find?_append, List.find?_singleton]
theorem met_spec {i t : Nat} {x : Key} (h : met gs i x = some t) : t < i ∧ (gs.getD t gate0).kind ≠ 1 ∧ keyF (fN gs) (gs.getD t gate0) = x ∧ ∀ t', t' < t → isKey gs (fN gs) x t' = false := by
  unfold met at h
  rw [List.find?_range_eq_some] at h
  obtain ⟨h1, h2, h3⟩ := h
  unfold isKey at h1
  rw [Bool.and_eq_true, bne_iff_ne, decide_eq_true_eq] at h1
  exact ⟨List.mem_range.1 h2, h1.1, h1.2, fun t' ht => by have := h3 t' ht; simpa using this⟩
theorem fN_le {i : Nat} (hi : i < gs.length) : fN gs i ≤ i := by
  rw [fN_eq W hi]
  split
  · exact Nat.le_refl _
  · cases h : met gs i (keyF (fN gs) (gs.getD i gate0)) with
    | none => exact Nat.le_refl _
    | some t => have := (met_spec W h).1; exact Nat.le_of_lt this
theorem fN_in {i : Nat} (hi : i < gs.length) (h : (gs.getD i gate0).kind = 1) : fN gs i = i := by rw [fN_eq W hi, if_pos h]
end
def onB (nd : Nat → Bool) (j : Nat) : Nat → Bool := fun t => t == j || nd t
/-- A gate is met, from behind. -/
def ndStep (gs : List Gate) (nd : Nat → Bool) (i : Nat) : Nat → Bool :=
  let n1 := if (gs.getD i gate0).kind = 1 then onB nd i else nd
  if n1 i = false then n1 else
  let n2 := if sA (gs.getD i gate0).kind = true then onB n1 (fN gs (gs.getD i gate0).a.toNat) else n1
  if sB (gs.getD i gate0).kind = true then onB n2 (fN gs (gs.getD i gate0).b.toNat) else n2
def ndOut (gs : List Gate) (outs : List Int) (j : Nat) : Nat → Bool := fun t => (outs.take j).any fun o => fN gs o.toNat == t
/-- The last m gates are met. -/
def ndBack (gs : List Gate) (outs : List Int) : Nat → Nat → Bool
  | 0 => ndOut gs outs outs.length
  | m + 1 => ndStep gs (ndBack gs outs m) (gs.length - 1 - m)
def ndAll (gs : List Gate) (outs : List Int) : Nat → Bool := ndBack gs outs gs.length
def mapG (gs : List Gate) (tl : List Int) (g : Gate) : Gate := ⟨g.kind, g.frm, if sA g.kind = true then tl.getD (fN gs g.a.toNat) 0 else g.a, if sB g.kind = true then tl.getD (fN gs g.b.toNat) 0 else g.b, g.k⟩
def cL (gs : List Gate) (nd : Nat → Bool) : Nat → List Int × List Gate
  | 0 => ([], [])
  | i + 1 =>
    let r := cL gs nd i
    if nd (fN gs i) = false then (r.1 ++ [-1], r.2)
    else if fN gs i ≠ i then (r.1 ++ [r.1.getD (fN gs i) 0], r.2)
    else (r.1 ++ [(r.2.length : Int)], r.2 ++ [mapG gs r.1 (gs.getD i gate0)])
theorem cL_len (gs : List Gate) (nd : Nat → Bool) : ∀ i, (cL gs nd i).1.length = i
  | 0 => rfl
  | i + 1 => by
    have := cL_len gs nd i
    unfold cL
    dsimp only
    split
    · simp [this]
    · split
      · simp [this]
      · simp [this]
def optT (gs : List Gate) (outs : List Int) : List Int := (cL gs (ndAll gs outs) gs.length).1
def optG (gs : List Gate) (outs : List Int) : List Gate := (cL gs (ndAll gs outs) gs.length).2
def optO (gs : List Gate) (outs : List Int) : List Int := outs.map fun o => (optT gs outs).getD o.toNat 0
end Go.Proofs.YtjpaichcaaacbabDoor.HL
end
namespace Go.Proofs.YtjpaichcaaacbabDoor.HL
end Go.Proofs.YtjpaichcaaacbabDoor.HL
section
set_option linter.unusedVariables false
set_option linter.unusedSimpArgs false
set_option linter.unusedSectionVars false
set_option maxHeartbeats 8000000
namespace Go.Proofs.YtjpaichcaaacbabDoor.HL
open Go Go.Proofs.YtjpaichcaaacbabDoorNum Go.Proofs.YtjpaichcaaacbabDoor.FEv Go.Proofs.YtjpaichcaaacbabDoorW.PrintWords
theorem h_doM {α : Type} {P : Program} {base : Nat} {H : HH} {s : Sem α} {K : α → HH → Prop} {b : Nat} {o o' : Obj} {v : α} (hb : H b = some o) (hbase : base ≤ b)
    (hr : ∀ W : World, Sat H W → ∃ W', s.run P W = .ok v W' ∧ W'.os = W.os ∧ W'.tape = W.tape ∧ W'.output = W.output ∧ W'.heap.size = W.heap.size ∧ (∀ k, k ≠ b → W'.heap[k]? = W.heap[k]?) ∧ W'.heap[b]? = some o')
    (h : K v (upd H b o')) : HRun P base s H K := fun W hs hb' => by
  obtain ⟨W', h1, h2, h3, h4, h5, h6, h7⟩ := hr W hs
  refine ⟨v, W', _, h1, h, ⟨h2, h3, h4, by omega, fun k hk hn => h6 k (fun e => ?_), fun k o hk => ?_, fun k hk hn => ?_⟩⟩
  · subst e
    rcases hn with hn | hn
    · omega
    · rw [hb] at hn; cases hn
  · by_cases e : k = b
    · subst e; rw [upd_self] at hk; cases hk; exact h7
    · rw [upd_ne _ e] at hk; rw [h6 k e]; exact hs k o hk
  · rw [upd_ne _ (fun e => by subst e; rw [hb] at hn; cases hn)]; exact hn
theorem run_objM {P : Program} {b : Nat} {es : Array MapEntry} {c : Nat} {W : World} (h : W.heap[b]? = some (.map es c)) : (getObj b).run P W = .ok (.map es c) W := by simp [getObj, Sem.run, h]
theorem run_setobjM {P : Program} {b : Nat} {es : Array MapEntry} {c : Nat} {o : Obj} {W : World} (h : W.heap[b]? = some (.map es c)) : (setObj b o).run P W = .ok () { W with heap := W.heap.setIfInBounds b o } := by simp [setObj, Sem.run, h]
abbrev tKey : Nat := 73
abbrev tMet : Nat := 71
theorem unMet : Tryd.prog.underlying tMet = some (.map tKey 3) := by kernel_rfl
def kv (x : Key) : List Value := [.int .i64 x.kind, .int .i64 x.a, .int .i64 x.b, .int .u64 x.k]
theorem eq_key (g g' : Key) (W : World) : (Op.equalIn (9999 + 1) tKey (.agg (kv g).toArray) (.agg (kv g').toArray)).run Tryd.prog W = .ok (g.kind == g'.kind && (g.a == g'.a && (g.b == g'.b && g.k == g'.k))) W := by
  refine eqA_of Tryd.underlying73 (by kernel_rfl) ?_
  refine eqf_cons rfl (a := .int .i64 g.kind) (b := .int .i64 g'.kind) (by kernel_rfl) (by kernel_rfl) (run_equalIn_int _ _ _ _ .i64 _ _ (by kernel_rfl)) ?_
  refine eqf_cons rfl (a := .int .i64 g.a) (b := .int .i64 g'.a) (by kernel_rfl) (by kernel_rfl) (run_equalIn_int _ _ _ _ .i64 _ _ (by kernel_rfl)) ?_
  refine eqf_cons rfl (a := .int .i64 g.b) (b := .int .i64 g'.b) (by kernel_rfl) (by kernel_rfl) (run_equalIn_int _ _ _ _ .i64 _ _ (by kernel_rfl)) ?_
  exact eqf_last rfl (a := .int .u64 g.k) (b := .int .u64 g'.k) (by kernel_rfl) (by kernel_rfl) (run_equalIn_int _ _ _ _ .u64 _ _ (by kernel_rfl))
theorem key_eq (g g' : Key) : (g.kind == g'.kind && (g.a == g'.a && (g.b == g'.b && g.k == g'.k))) = decide (g = g') := by
  obtain ⟨a, b, c, d⟩ := g
  obtain ⟨a', b', c', d'⟩ := g'
  simp only [Key.mk.injEq, Bool.decide_and]
  rfl
theorem run_eqkey (g g' : Key) (W : World) : (Op.equal tKey (.agg (kv g).toArray) (.agg (kv g').toArray)).run Tryd.prog W = .ok (decide (g = g')) W := by
  have := eq_key g g' W
  rw [key_eq] at this
  exact this
theorem run_ckey (e : Bool) (x : Key) (W : World) : (Instr.checkKey e 10000 tKey (.agg (kv x).toArray)).run Tryd.prog W = .ok () W := by
  cases e <;> kernel_rfl
/-- What a search finds. -/
def look (ml : List (Key × Nat)) (x : Key) : Option Nat := (ml.find? fun e => decide (x = e.1)).map (·.2)
def ents (ml : List (Key × Nat)) : List (Value × Value) := ml.map fun e => (Value.agg (kv e.1).toArray, Value.int .i64 (e.2 : Int))
theorem run_asking (x : Key) (W : World) : ∀ (es : List MapEntry) (ml : List (Key × Nat)) (i : Nat), es.map (fun e => (e.key, e.val)) = ents ml → ∃ r, (Instr.findAsking tKey (.agg (kv x).toArray) es i).run Tryd.prog W = .ok r W ∧ r.map (·.2) = (look ml x).map fun (k : Nat) => Value.int .i64 (k : Int)
  | [], [], i, _ => ⟨none, rfl, rfl⟩
  | [], y :: ys, i, h => by simp [ents] at h
  | e :: es, [], i, h => by simp [ents] at h
  | e :: es, y :: ys, i, h => by
    unfold ents at h
    simp only [List.map_cons, List.cons.injEq, Prod.mk.injEq] at h
    obtain ⟨⟨h1, h2⟩, h3⟩ := h
    obtain ⟨r, ih1, ih2⟩ := run_asking x W es ys (i + 1) h3
    unfold Instr.findAsking
    rw [h1]
    by_cases hxy : x = y.1
    · refine ⟨some (i, e.val), ?_, ?_⟩
      · simp [run_eqkey, hxy]
      · unfold look
        rw [List.find?_cons, decide_eq_true hxy, h2]; rfl
    · refine ⟨r, ?_, ?_⟩
      · simp [run_eqkey, hxy, ih1]
      · rw [ih2]
        unfold look
        rw [List.find?_cons, decide_eq_false hxy]
theorem run_findK (x : Key) (W : World) (es : List MapEntry) (ml : List (Key × Nat)) (h : es.map (fun e => (e.key, e.val)) = ents ml) : ∃ r, (Instr.findKey tKey (.agg (kv x).toArray) es).run Tryd.prog W = .ok r W ∧ r.map (·.2) = (look ml x).map fun (k : Nat) => Value.int .i64 (k : Int) := by
  unfold Instr.findKey
  match es, ml, h with
  | [], [], _ => exact ⟨none, by simp [run_under Tryd.underlying73, Instr.findNow], rfl⟩
  | [], y :: ys, h => simp [ents] at h
  | e :: es, [], h => simp [ents] at h
  | e :: es, y :: ys, h =>
    obtain ⟨r, h1, h2⟩ := run_asking x W (e :: es) (y :: ys) 0 h
    refine ⟨r, ?_, h2⟩
    simp [run_under Tryd.underlying73, Instr.findNow, Instr.sameNow, h1]
def MapK (H : HH) (b : Nat) (ml : List (Key × Nat)) : Prop := ∃ (es : Array MapEntry) (clock : Nat), H b = some (.map es clock) ∧ es.toList.map (fun e => (e.key, e.val)) = ents ml
section
variable {base : Nat} {H : HH} {b : Nat} {ml : List (Key × Nat)}
theorem zeroInt : (Tryd.prog.info? 3).bind (·.zero) = some (.int .i64 0) := by kernel_rfl
theorem MapK.look (h : MapK H b ml) (x : Key) : QRun Tryd.prog (Instr.lookup tMet (.map (some b)) (.agg (kv x).toArray) true) H (.tuple #[.int .i64 (((HL.look ml x).getD 0 : Nat) : Int), .bool (HL.look ml x).isSome]) := fun W hs => by
  obtain ⟨es, clock, h1, h2⟩ := h
  obtain ⟨r, hr1, hr2⟩ := run_findK x W es.toList ml h2
  have hg := run_objM (P := Tryd.prog) (hs _ _ h1)
  obtain ⟨i, hi, hz⟩ := Option.bind_eq_some_iff.1 zeroInt
  unfold Instr.lookup
  cases hl : HL.look ml x with
  | none =>
    rw [hl] at hr2
    cases r with
    | none => simp [run_under unMet, hg, run_ckey, hr1, zeroValue, run_ti hi, hz]
    | some q => cases hr2
  | some k =>
    rw [hl] at hr2
    cases r with
    | none => cases hr2
    | some q =>
      obtain ⟨q1, q2⟩ := q
      have e : q2 = .int .i64 (k : Int) := by simpa using hr2
      subst e
      simp [run_under unMet, hg, run_ckey, hr1]
theorem MapK.add (h : MapK H b ml) (hbase : base ≤ b) {x : Key} (hx : HL.look ml x = none) (k : Nat) {K : Unit → HH → Prop} (hk : ∀ H', MapK H' b (ml ++ [(x, k)]) → (∀ k, k ≠ b → H' k = H k) → K () H') : HRun Tryd.prog base (Instr.mapUpdate tMet (.map (some b)) (.agg (kv x).toArray) (.int .i64 (k : Int))) H K := by
  obtain ⟨es, clock, h1, h2⟩ := h
  refine h_doM (o' := .map (es.push { key := .agg (kv x).toArray, val := .int .i64 (k : Int), born := clock }) (clock + 1)) h1 hbase (fun W hs => ⟨{ W with heap := W.heap.setIfInBounds b (.map (es.push { key := .agg (kv x).toArray, val := .int .i64 (k : Int), born := clock }) (clock + 1)) }, ?_, rfl, rfl, rfl, ?_, ?_, ?_⟩) (hk _ ⟨_, _, upd_self _ _ _, ?_⟩ (fun k hk => upd_ne _ hk))
  · have hg := run_objM (P := Tryd.prog) (hs _ _ h1)
    obtain ⟨r, hr1, hr2⟩ := run_findK x W es.toList ml h2
    rw [hx] at hr2
    cases r with
    | some q => cases hr2
    | none =>
      unfold Instr.mapUpdate
      simp [run_under unMet, hg, run_ckey, hr1, run_setobjM (hs _ _ h1)]
  · simp
  · intro k hk
    rw [Array.getElem?_setIfInBounds, if_neg (fun e => hk e.symm)]
  · have := (Array.getElem?_eq_some_iff.1 (hs _ _ h1)).1
    rw [Array.getElem?_setIfInBounds, if_pos rfl, if_pos this]
  · simp [h2, ents]
theorem h_mkMet {K : Value → HH → Prop} (hk : ∀ b H', base ≤ b → H b = none → Ext H H' → MapK H' b [] → K (.map (some b)) H') : HRun Tryd.prog base (Instr.makeMap tMet none) H K :=
  h_new (o := .map #[] 0) (f := fun b => .map (some b)) (fun W => rfl) (fun b hb hbase => hk b _ hbase hb (Ext.upd hb _) ⟨_, _, upd_self _ _ _, rfl⟩)
end
end Go.Proofs.YtjpaichcaaacbabDoor.HL
end
section
set_option linter.unusedVariables false
set_option linter.unusedSimpArgs false
set_option linter.unusedSectionVars false
set_option maxHeartbeats 8000000
namespace Go.Proofs.YtjpaichcaaacbabDoor.HL
open Go Go.Proofs.YtjpaichcaaacbabDoorNum Go.Proofs.YtjpaichcaaacbabDoor.FEv
theorem fL_snoc (gs : List Gate) (i : Nat) : fL gs (i + 1) = fL gs i ++ [fN gs i] := by
  have e : fN gs i = repG gs (fun k => (fL gs i).getD k 0) i := by unfold fN; rw [fL]; exact getD_app_len (fL_len gs i).symm
  rw [fL, e]
theorem look_snoc (ml : List (Key × Nat)) (x y : Key) (k : Nat) : look (ml ++ [(x, k)]) y = (look ml y).or (if y = x then some k else none) := by
  unfold look
  rw [List.find?_append, List.find?_singleton]
  by_cases e : y = x
  · rw [if_pos e, if_pos (decide_eq_true e)]
    cases ml.find? (fun e => decide (y = e.1)) <;> rfl
  · rw [if_neg e, if_neg (fun h => e (of_decide_eq_true h))]
    cases ml.find? (fun e => decide (y = e.1)) <;> rfl
theorem info82 : (Tryd.prog.info? tKey).map (·.size) = some 4 := by kernel_rfl
theorem fk (b j : Nat) (h : j < 4) : AQ Tryd.prog (Instr.fieldAt tKey (.pointer (some ⟨b, 0, none⟩)) j) (.pointer (some ⟨b, j, none⟩)) := by
  match j, h with
  | 0, _ => have := aq_fld (P := Tryd.prog) (s := tKey) (f := 0) (off := 0) (sz := 1) (by kernel_rfl) (by decide) ⟨b, 0, none⟩; rwa [add0] at this
  | 1, _ => have := aq_fld (P := Tryd.prog) (s := tKey) (f := 1) (off := 1) (sz := 1) (by kernel_rfl) (by decide) ⟨b, 0, none⟩; rwa [add0] at this
  | 2, _ => have := aq_fld (P := Tryd.prog) (s := tKey) (f := 2) (off := 2) (sz := 1) (by kernel_rfl) (by decide) ⟨b, 0, none⟩; rwa [add0] at this
  | 3, _ => have := aq_fld (P := Tryd.prog) (s := tKey) (f := 3) (off := 3) (sz := 1) (by kernel_rfl) (by decide) ⟨b, 0, none⟩; rwa [add0] at this
/-- The variable that holds a key. -/
structure KV (base : Nat) (F H : HH) (b : Nat) (x : Key) : Prop where
  ext : Ext F H
  new : F b = none
  own : base ≤ b
  at_ : H b = some (.cells (kv x).toArray tKey (0, 0))
section
variable {base : Nat} {F H H' : HH} {b : Nat} {x : Key} {K : Unit → HH → Prop}
theorem KV.qa (h : KV base F H b x) : QRun Tryd.prog (Instr.loadAt 3 (.pointer (some ⟨b, 1, none⟩))) H (.int .i64 x.a) := q_ld sc3 (by rw [cellH_blk h.at_]; rfl)
theorem KV.qb (h : KV base F H b x) : QRun Tryd.prog (Instr.loadAt 3 (.pointer (some ⟨b, 2, none⟩))) H (.int .i64 x.b) := q_ld sc3 (by rw [cellH_blk h.at_]; rfl)
theorem KV.all (h : KV base F H b x) : QRun Tryd.prog (Instr.loadAt tKey (.pointer (some ⟨b, 0, none⟩))) H (.agg #[.int .i64 x.kind, .int .i64 x.a, .int .i64 x.b, .int .u64 x.k]) :=
  q_lda (cs := kv x) (by kernel_rfl) info82 (fun j u hu => by
    rw [add0, cellH_blk h.at_, ← Array.getElem?_toList]
    exact hu)
theorem KV.sta (h : KV base F H b x) (v : Int) (hK : ∀ H', KV base F H' b ⟨x.kind, v, x.b, x.k⟩ → K () H') : HRun Tryd.prog base (Instr.storeAt 3 (.pointer (some ⟨b, 1, none⟩)) (.int .i64 v)) H K :=
  h_st info3 rfl h.at_ h.own (show 1 < 4 by decide) (hK _ ⟨ext_same h.ext h.new (fun k hk => upd_ne _ hk), h.new, h.own, upd_self _ _ _⟩)
theorem KV.stb (h : KV base F H b x) (v : Int) (hK : ∀ H', KV base F H' b ⟨x.kind, x.a, v, x.k⟩ → K () H') : HRun Tryd.prog base (Instr.storeAt 3 (.pointer (some ⟨b, 2, none⟩)) (.int .i64 v)) H K :=
  h_st info3 rfl h.at_ h.own (show 2 < 4 by decide) (hK _ ⟨ext_same h.ext h.new (fun k hk => upd_ne _ hk), h.new, h.own, upd_self _ _ _⟩)
theorem h_kvar {old : Value} {C : Addr → HH → Prop} (hk : ∀ b H', KV base H H' b x → C ⟨b, 0, none⟩ H') :
    HRun Tryd.prog base (Instr.alloc tKey true old) H fun v H1 => ∃ a : Addr, v = .pointer (some a) ∧ HRun Tryd.prog base (Instr.storeAt tKey (.pointer (some a)) (.agg #[.int .i64 x.kind, .int .i64 x.a, .int .i64 x.b, .int .u64 x.k])) H1 fun _ H2 => C a H2 :=
  h_var (vs := kv x) (z := .agg (kv ⟨0, 0, 0, 0⟩).toArray) (by kernel_rfl) rfl info82 rfl (fun b H' he hbase hn hb => hk _ H' ⟨he, hn, hbase, hb⟩)
theorem MapK.ext {ml : List (Key × Nat)} (h : MapK H b ml) (X : Ext H H') : MapK H' b ml := by
  obtain ⟨es, cl, h1, h2⟩ := h
  exact ⟨es, cl, X _ _ h1, h2⟩
end
theorem OwnZ.nil' {base : Nat} {F H : HH} (X : Ext F H) : OwnZ base F H none 0 0 [] := ⟨Own.nil _ _ _ _, X, fun b hb => by simp [Value.ownBlock] at hb⟩
section
variable {base : Nat} {F H : HH} {K : Value → HH → Prop} {N0 : Value → Value → HH → Prop} {A Ao : Option Addr} {n c co mb : Nat} {gs : List Gate} {ml : List (Key × Nat)} {fr : Fr}
theorem fi_round (W : WF gs) (hg : Gs F A n gs) (hz : gs.length ≤ 100000) {i : Nat} (hi : i < gs.length) (M : MapK H mb ml) (hml : ∀ x, look ml x = met gs i x) (o : OwnZ base F H Ao i co (zs (fL gs i))) (hmb : base ≤ mb) (hF : F mb = none)
    (hN : ∀ A' c' H' ml', MapK H' mb ml' → (∀ x, look ml' x = met gs (i + 1) x) → OwnZ base F H' A' (i + 1) c' (zs (fL gs (i + 1))) → N0 (.slice A' (i + 1) c') (.int .i64 (IntKind.i64.wrap ((i : Int) + 1))) H') :
    optimize_firsts.B0 base (some mb) A gs.length c gs.length Ao i co i fr N0 H K := by
  unfold optimize_firsts.B0
  obtain rfl := hg.1
  rw [if_pos (decide_eq_true (by omega))]
  obtain ⟨a, q1, q2⟩ := (hg.ext o.ext).at c hi
  refine ⟨a, q1, _, _, _, _, _, q2.all, h_gvar (fun ad H1 X1 ga => ⟨_, fg0 ad, _, ga.kind, ?_⟩)⟩
  have M1 := M.ext X1
  have o1 := o.more X1
  have hsn := fL_snoc gs i
  have mapNe : ∀ {H' : HH} {ml' : List (Key × Nat)} {A' : Option Addr} {n' c' : Nat} {l : List Int}, MapK H' mb ml' → OwnZ base F H' A' n' c' l → (Value.slice A' n' c').ownBlock ≠ some mb := fun M' o' e => by
    obtain ⟨es, cl, h1, _⟩ := M'
    obtain ⟨_, cu, hc⟩ := o'.1.known e
    rw [h1] at hc; cases hc
  have push : ∀ {H' : HH} {ml' : List (Key × Nat)}, MapK H' mb ml' → (∀ x, look ml' x = met gs (i + 1) x) → OwnZ base F H' Ao i co (zs (fL gs i)) → HRun Tryd.prog base (Instr.buildSlice tInts 1 #[(0, .int .i64 (fN gs i : Int))]) H' fun v1 H1 => ∃ (A1 : Option Addr) (l1 c1 : Nat), v1 = .slice A1 l1 c1 ∧ HRun Tryd.prog base (Builtin.append_ #[tInts, tInts] tInts #[.slice Ao i co, .slice A1 l1 c1]) H1 fun v2 H2 => ∃ (A' : Option Addr) (l' c' : Nat), v2 = .slice A' l' c' ∧ N0 (.slice A' l' c') (.int .i64 (IntKind.i64.wrap ((i : Int) + 1))) H2 := fun {H'} {ml'} M' hm o' =>
    o'.push (by omega) _ (fun A2 c2 H2 o2 g2 => hN A2 c2 H2 ml' (by
      obtain ⟨es, cl, h1, h2⟩ := M'
      exact ⟨es, cl, g2.keep _ _ (mapNe ⟨es, cl, h1, h2⟩ o') h1, h2⟩) hm (by rw [hsn, zs_snoc]; exact o2))
  by_cases k1 : (gs.getD i gate0).kind = 1
  · rw [if_pos (by simpa using k1)]
    have e := fN_in W hi k1
    have := push M1 (fun x => by
      rw [met_succ W, hml]
      unfold isKey
      rw [show ((gs.getD i gate0).kind != 1) = false by rw [k1]; rfl, Bool.false_and]
      cases met gs i x <;> rfl) o1
    rw [e] at this
    exact this
  rw [if_neg (by simpa using k1)]
  obtain ⟨wa, wb⟩ := W i hi
  obtain ⟨g, hgd⟩ : ∃ g, g = gs.getD i gate0 := ⟨_, rfl⟩
  rw [← hgd] at ga wa wb k1
  refine ⟨_, fg0 ad, _, ga.kind, _, fg4 ad, _, ga.k, _, _, _, _, (show AQ Tryd.prog (Instr.build tKey #[(0, .int .i64 g.kind), (3, .int .u64 g.k)]) (.agg #[.int .i64 g.kind, .int .i64 0, .int .i64 0, .int .u64 g.k]) from fun W => by kernel_rfl), ?_⟩
  refine h_kvar (x := ⟨g.kind, 0, 0, g.k⟩) (fun kb H2 kx => ⟨_, fg0 ad, _, (ga.ext kx.ext).kind, h_sides g.kind ⟨_, _, rfl, ?_⟩⟩)
  have rd : ∀ {H' : HH} {z : Int}, Ext H1 H' → 0 ≤ z → z < i → ∃ a, AQ Tryd.prog (Instr.indexAt tInts (.slice Ao i co) (.int .i64 z)) (.pointer (some a)) ∧ QRun Tryd.prog (Instr.loadAt 3 (.pointer (some a))) H' (.int .i64 (fN gs z.toNat : Int)) := fun X h0 h1 => by
    obtain ⟨a, u1, u2⟩ := (o1.row.ext X).ix co h0 h1
    rw [zs_get, fL_get gs (by omega)] at u2
    exact ⟨a, u1, u2⟩
  -- behind the key
  have s2 : ∀ {H' : HH}, KV base H1 H' kb (keyF (fN gs) g) → optimize_firsts.R2 base N0 [.map (some mb), .slice Ao i co, .int .i64 (i : Int), .pointer (some ⟨kb, 0, none⟩), .slice A gs.length c, .int .i64 ((gs.length : Nat) : Int), .int .i64 (i : Int)] H' K := fun {H'} kx => by
    refine optimize_firsts.cut2 ?_
    unfold optimize_firsts.T2 optimize_firsts.S2
    have M' := M1.ext kx.ext
    have o' := o1.more kx.ext
    refine ⟨_, _, _, _, kx.all, _, _, M'.look _, ?_⟩
    have hl := hml (keyF (fN gs) g)
    have ef := fN_eq W hi
    rw [← hgd, if_neg k1, ← hl] at ef
    have ik : ∀ y, isKey gs (fN gs) y i = decide (keyF (fN gs) g = y) := fun y => by
      unfold isKey
      rw [← hgd, show (g.kind != 1) = true from bne_iff_ne.2 k1, Bool.true_and]
    cases hlk : look ml (keyF (fN gs) g) with
    | none =>
      rw [hlk] at ef
      rw [if_pos (by rfl)]
      refine ⟨_, _, _, _, kx.all, M'.add hmb hlk i (fun H3 M3 s3 => ?_)⟩
      refine optimize_firsts.cut3 ?_
      unfold optimize_firsts.T3 optimize_firsts.S3
      have o3 : OwnZ base F H3 Ao i co (zs (fL gs i)) := ⟨o'.1.move (fun g o hg ho => by rw [s3 g (fun e => mapNe M' o' (by rw [hg, e]))]; exact ho), ext_same o'.ext hF s3, o'.2.off⟩
      have := push M3 (fun y => by
        rw [look_snoc, met_succ W, hml, ik]
        by_cases e : y = keyF (fN gs) g
        · rw [if_pos e, if_pos (decide_eq_true e.symm)]
        · rw [if_neg e, if_neg (fun h => e (of_decide_eq_true h).symm)]) o3
      rw [show fN gs i = i from ef] at this
      exact this
    | some t =>
      rw [hlk] at ef
      rw [if_neg (show ¬ ((!(some t).isSome) = true) from fun h => by cases h)]
      refine optimize_firsts.cut3 ?_
      unfold optimize_firsts.T3 optimize_firsts.S3
      have := push M' (fun y => by
        rw [met_succ W, hml, ik]
        by_cases e : keyF (fN gs) g = y
        · subst e
          rw [hl] at hlk
          rw [hlk]; rfl
        · rw [if_neg (fun h => e (of_decide_eq_true h))]
          cases met gs i y <;> rfl) o'
      rw [show fN gs i = t from ef] at this
      exact this
  have s1 : ∀ {H' : HH}, KV base H1 H' kb ⟨g.kind, if sA g.kind = true then (fN gs g.a.toNat : Int) else 0, if sB g.kind = true then (fN gs g.b.toNat : Int) else 0, g.k⟩ → optimize_firsts.R1 base N0 [.map (some mb), .slice Ao i co, .int .i64 (i : Int), .pointer (some ad), .pointer (some ⟨kb, 0, none⟩), .slice A gs.length c, .int .i64 ((gs.length : Nat) : Int), .int .i64 (i : Int)] H' K := fun {H'} kx => by
    refine optimize_firsts.cut1 ?_
    unfold optimize_firsts.T1 optimize_firsts.S1
    refine ⟨_, fg0 ad, _, (ga.ext kx.ext).kind, h_either g.kind ⟨_, rfl, ?_⟩⟩
    cases hc : cm g.kind with
    | false =>
      rw [if_neg (by decide)]
      refine s2 ?_
      unfold keyF
      rw [if_neg (fun h => by rw [hc] at h; cases h.1)]
      exact kx
    | true =>
      rw [if_pos rfl]
      have sb := cm_sB hc
      have sa := sB_sA sb
      rw [if_pos sa, if_pos sb] at kx
      refine ⟨_, fk kb 1 (by decide), _, kx.qa, _, fk kb 2 (by decide), _, kx.qb, ?_⟩
      by_cases hgt : (fN gs g.a.toNat : Int) > (fN gs g.b.toNat : Int)
      · rw [if_pos (decide_eq_true hgt)]
        refine ⟨_, fk kb 2 (by decide), _, kx.qb, _, fk kb 1 (by decide), _, kx.qa, _, fk kb 1 (by decide), kx.sta _ (fun H5 k5 => ⟨_, fk kb 2 (by decide), k5.stb _ (fun H6 k6 => s2 ?_)⟩)⟩
        unfold keyF
        rw [if_pos ⟨hc, hgt⟩]
        exact k6
      · rw [if_neg (fun h => hgt (of_decide_eq_true h))]
        refine s2 ?_
        unfold keyF
        rw [if_neg (fun h => hgt h.2), if_pos sa, if_pos sb]
        exact kx
  have s0 : ∀ {H' : HH}, KV base H1 H' kb ⟨g.kind, if sA g.kind = true then (fN gs g.a.toNat : Int) else 0, 0, g.k⟩ → optimize_firsts.R0 base N0 [.map (some mb), .slice Ao i co, .int .i64 (i : Int), .pointer (some ad), .pointer (some ⟨kb, 0, none⟩), .bool (sB g.kind), .slice A gs.length c, .int .i64 ((gs.length : Nat) : Int), .int .i64 (i : Int)] H' K := fun {H'} kx => by
    refine optimize_firsts.cut0 ?_
    unfold optimize_firsts.T0 optimize_firsts.S0
    by_cases sb : sB g.kind = true
    · rw [if_pos sb]
      obtain ⟨y0, y1⟩ := wb sb
      obtain ⟨a6, t3, t4⟩ := rd kx.ext y0 y1
      refine ⟨_, fg3 ad, _, (ga.ext kx.ext).sb, a6, t3, _, t4, _, fk kb 2 (by decide), kx.stb _ (fun H5 k5 => s1 ?_)⟩
      rw [if_pos sb]
      exact k5
    · rw [if_neg sb]
      refine s1 ?_
      rw [if_neg sb]
      exact kx
  by_cases sa : sA g.kind = true
  · rw [if_pos sa]
    obtain ⟨x0, x1⟩ := wa sa
    obtain ⟨a5, t1, t2⟩ := rd kx.ext x0 x1
    refine ⟨_, fg2 ad, _, (ga.ext kx.ext).sa, a5, t1, _, t2, _, fk kb 1 (by decide), kx.sta _ (fun H5 k5 => s0 ?_)⟩
    rw [if_pos sa]
    exact k5
  · rw [if_neg sa]
    refine s0 ?_
    rw [if_neg sa]
    exact kx
end
section
variable {base : Nat} {H : HH} {K : Value → HH → Prop} {A A' : Option Addr} {n n' c c' : Nat} {P : Int} {gs : List Gate}
theorem h_firsts (W : WF gs) (hg : Gs H A n gs) (hz : gs.length ≤ 100000) (hk : ∀ A1 c1 H', Ext H H' → Outs H' A1 gs.length (zs (fL gs gs.length)) → K (.slice A1 gs.length c1) H') : HCall Tryd.prog base 23 #[.agg #[.int .u64 P, .slice A n c, .slice A' n' c']] H K := by
  refine optimize_firsts.spec ?_
  unfold optimize_firsts.sh
  obtain rfl := hg.1
  refine h_cbox (fun xb H1 X1 cb => ⟨_, rfl, h_mkMet (fun mb H2 hmb hn X2 M => ⟨_, rfl, _, fc1 xb, _, _, _, (cb.ext X2).qgs, ?_⟩)⟩)
  refine optimize_firsts.loop0 (fun r A1 l1 c1 y H' => ∃ j : Nat, y = j ∧ j ≤ gs.length ∧ r = gs.length - j ∧ l1 = j ∧ ∃ ml, MapK H' mb ml ∧ (∀ x, look ml x = met gs j x) ∧ OwnZ base H1 H' A1 j c1 (zs (fL gs j))) gs.length ⟨0, rfl, Nat.zero_le _, rfl, rfl, [], M, fun x => rfl, OwnZ.nil' X2⟩ ?_
  rintro r A1 l1 c1 y fr H3 ⟨j, rfl, hj, rfl, rfl, ml, M3, hml, o3⟩
  by_cases hlt : l1 < gs.length
  · refine fi_round W (hg.ext X1) hz hlt M3 hml o3 hmb hn (fun A4 c4 H4 ml' M4 hm4 o4 => ?_)
    exact ⟨gs.length - l1 - 1, by omega, _, _, _, _, rfl, rfl, l1 + 1, nxt (n := 1000000) (by omega) (by decide), by omega, by omega, rfl, ml', M4, hm4, o4⟩
  · unfold optimize_firsts.B0
    rw [if_neg (fun h => hlt (by have := of_decide_eq_true h; omega))]
    obtain rfl : l1 = gs.length := by omega
    exact hk _ _ _ (X1.trans o3.ext) o3.row
end
end Go.Proofs.YtjpaichcaaacbabDoor.HL
end
section
set_option linter.unusedVariables false
set_option linter.unusedSimpArgs false
set_option linter.unusedSectionVars false
set_option maxHeartbeats 8000000
namespace Go.Proofs.YtjpaichcaaacbabDoor.HL
open Go Go.Proofs.YtjpaichcaaacbabDoorNum Go.Proofs.YtjpaichcaaacbabDoor.FEv
section
variable {base : Nat} {F H H' : HH} {A : Option Addr} {n c : Nat} {l : List Int} {K : Unit → HH → Prop}
theorem OwnZ.put (o : OwnZ base F H A n c l) {j : Nat} (hj : j < n) (x : Int) (hk : ∀ g cur H', (Value.slice A n c).ownBlock = some g → H g = some (.cells cur 3 (0, 0)) → F g = none → OwnZ base F H' A n c (l.set j x) → (∀ k, k ≠ g → H' k = H k) → K () H') :
    ∃ a, AQ Tryd.prog (Instr.indexAt tInts (.slice A n c) (.int .i64 j)) (.pointer (some a)) ∧ HRun Tryd.prog base (Instr.storeAt 3 (.pointer (some a)) (.int .i64 x)) H K := by
  obtain ⟨g, cur, e1, hb, hg, hi, hc⟩ := Own.at o.1 hj
  subst e1
  have hn : F g = none := o.2.off g (by simp [Value.ownBlock])
  refine ⟨_, aq_own unInts info3 hj, h_st info3 rfl hg hb hi (hk g cur _ (by simp [Value.ownBlock]) hg hn ⟨?_, ext_same o.ext hn (fun k hk => upd_ne _ hk), o.2.off⟩ (fun k hk => upd_ne _ hk))⟩
  have := Own.put o.1 (by simp [Value.ownBlock]) hg j (.int .i64 x)
  rwa [show (is l).set j (.int .i64 x) = is (l.set j x) by simp [is, List.map_set]] at this
/-- A block changes that is not its own. -/
theorem OwnZ.same (o : OwnZ base F H A n c l) {g : Nat} (hF : F g = none) (hne : (Value.slice A n c).ownBlock ≠ some g) (s : ∀ k, k ≠ g → H' k = H k) : OwnZ base F H' A n c l :=
  ⟨o.1.move (fun k x hk hx => by rw [s k (fun e => hne (by rw [hk, e]))]; exact hx), ext_same o.ext hF s, o.2.off⟩
theorem OwnZ.tag (o : OwnZ base F H A n c l) {g : Nat} (hg : (Value.slice A n c).ownBlock = some g) : ∃ cur, H g = some (.cells cur 3 (0, 0)) := (o.1.known hg).2
theorem Rl.same {gs : List Gate} (o : Rl base F H A n c gs) {g : Nat} (hF : F g = none) (hne : (Value.slice A n c).ownBlock ≠ some g) (s : ∀ k, k ≠ g → H' k = H k) : Rl base F H' A n c gs :=
  ⟨ext_same o.ext hF s, o.own.move (fun k x hk hx => by rw [s k (fun e => hne (by rw [hk, e]))]; exact hx), o.off⟩
theorem Rl.tag {gs : List Gate} (o : Rl base F H A n c gs) {g : Nat} (hg : (Value.slice A n c).ownBlock = some g) : ∃ cur, H g = some (.cells cur tGate (0, 0)) := (o.own.known hg).2
theorem Rl.more {gs : List Gate} (o : Rl base F H A n c gs) (X : Ext H H') : Rl base F H' A n c gs := ⟨o.ext.trans X, o.own.ext X, o.off⟩
end
/-- The new circuit's box, its gates, the certificate's row. -/
structure S3 (base : Nat) (F H : HH) (ob : Nat) (P : Int) (Ag : Option Addr) (ng cg : Nat) (Ac : Option Addr) (n cc : Nat) (tl : List Int) (og : List Gate) : Prop where
  obF : F ob = none
  obB : base ≤ ob
  cb : CB H ob P Ag ng cg none 0 0
  ct : OwnZ base F H Ac n cc tl
  rl : Rl base F H Ag ng cg og
section
variable {base : Nat} {F H H' : HH} {ob : Nat} {P : Int} {Ag Ac : Option Addr} {ng cg n cc : Nat} {tl : List Int} {og : List Gate}
theorem S3.ext (h : S3 base F H ob P Ag ng cg Ac n cc tl og) : Ext F H := h.ct.ext
theorem S3.more (h : S3 base F H ob P Ag ng cg Ac n cc tl og) (X : Ext H H') : S3 base F H' ob P Ag ng cg Ac n cc tl og := ⟨h.obF, h.obB, h.cb.ext X, h.ct.more X, h.rl.more X⟩
theorem S3.ctob (h : S3 base F H ob P Ag ng cg Ac n cc tl og) : (Value.slice Ac n cc).ownBlock ≠ some ob := fun e => by
  obtain ⟨cu, hc⟩ := h.ct.tag e
  have := h.cb
  unfold CB at this
  rw [this] at hc
  exact absurd (cells_tag hc) (by decide)
theorem S3.rlob (h : S3 base F H ob P Ag ng cg Ac n cc tl og) : (Value.slice Ag ng cg).ownBlock ≠ some ob := fun e => by
  obtain ⟨cu, hc⟩ := h.rl.tag e
  have := h.cb
  unfold CB at this
  rw [this] at hc
  exact absurd (cells_tag hc) (by decide)
theorem S3.ctrl (h : S3 base F H ob P Ag ng cg Ac n cc tl og) {g : Nat} (h1 : (Value.slice Ac n cc).ownBlock = some g) : (Value.slice Ag ng cg).ownBlock ≠ some g := fun e => by
  obtain ⟨cu, hc⟩ := h.ct.tag h1
  obtain ⟨cu', hc'⟩ := h.rl.tag e
  rw [hc] at hc'
  exact absurd (cells_tag hc') (by decide)
/-- A block changes that is none of them. -/
theorem S3.same (h : S3 base F H ob P Ag ng cg Ac n cc tl og) {g : Nat} (hF : F g = none) (h1 : g ≠ ob) (h2 : (Value.slice Ac n cc).ownBlock ≠ some g) (h3 : (Value.slice Ag ng cg).ownBlock ≠ some g) (s : ∀ k, k ≠ g → H' k = H k) : S3 base F H' ob P Ag ng cg Ac n cc tl og :=
  ⟨h.obF, h.obB, by have := h.cb; unfold CB at this ⊢; rw [s ob (fun e => h1 e.symm)]; exact this, h.ct.same hF h2 s, h.rl.same hF h3 s⟩
theorem S3.putc (h : S3 base F H ob P Ag ng cg Ac n cc tl og) {j : Nat} (hj : j < n) (x : Int) {K : Unit → HH → Prop} (hk : ∀ g cur H', H g = some (.cells cur 3 (0, 0)) → S3 base F H' ob P Ag ng cg Ac n cc (tl.set j x) og → (∀ k, k ≠ g → H' k = H k) → K () H') :
    ∃ a, AQ Tryd.prog (Instr.indexAt tInts (.slice Ac n cc) (.int .i64 j)) (.pointer (some a)) ∧ HRun Tryd.prog base (Instr.storeAt 3 (.pointer (some a)) (.int .i64 x)) H K :=
  h.ct.put hj x (fun g cur H' hg1 hg hF o s => hk g cur H' hg ⟨h.obF, h.obB, by
    have := h.cb
    unfold CB at this ⊢
    rw [s ob (fun e => h.ctob (by rw [hg1, e]))]; exact this, o, h.rl.same hF (h.ctrl hg1) s⟩ s)
/-- A gate is added. -/
theorem S3.addg (h : S3 base F H ob P Ag ng cg Ac n cc tl og) (hl : ng ≤ 100000) (g : Gate) {K : Unit → HH → Prop} {ty : Nat} (hk : ∀ A' c' H', S3 base F H' ob P A' (ng + 1) c' Ac n cc tl (og ++ [g]) → K () H') :
    HRun Tryd.prog base (Instr.buildSlice tGates 1 #[(0, .agg (gv g).toArray)]) H fun v1 H1 => ∃ (A1 : Option Addr) (l1 c1 : Nat), v1 = .slice A1 l1 c1 ∧ HRun Tryd.prog base (Builtin.append_ #[tGates, tGates] ty #[.slice Ag ng cg, .slice A1 l1 c1]) H1 fun v2 H2 => ∃ (A2 : Option Addr) (l2 c2 : Nat), v2 = .slice A2 l2 c2 ∧
      ∃ a, AQ Tryd.prog (Instr.fieldAt tC (.pointer (some ⟨ob, 0, none⟩)) 1) (.pointer (some a)) ∧ HRun Tryd.prog base (Instr.storeAt tGates (.pointer (some a)) (.slice A2 l2 c2)) H2 K := by
  have hfill : Instr.fill (fun i => some (i * 5, 5)) (madeCells (Value.agg (gv gate0).toArray).cells (1 * 5)) [(0, .agg (gv g).toArray)] = some (gv g).toArray := by kernel_rfl
  refine h_lit (sz := 5) (z := .agg (gv gate0).toArray) (cs := (gv g).toArray) unGates (by kernel_rfl) (by decide) hfill (by decide) (fun gb hgb hbase => ⟨_, _, _, rfl, ?_⟩)
  have X1 : Ext H (upd H gb (.cells (gv g).toArray tGate)) := Ext.upd hgb _
  have h1 := h.more X1
  have hrd : Rd (upd H gb (.cells (gv g).toArray tGate)) (some ⟨gb, 0, none⟩) (gv g) := .inr ⟨_, rfl, fun i u hu => by
    rw [add0, cellH_blk (upd_self _ _ _), ← Array.getElem?_toList]; exact hu⟩
  generalize upd H gb (.cells (gv g).toArray tGate) = H1 at X1 h1 hrd ⊢
  refine h_app (m := 1) (ys := gv g) (z := .agg (gv gate0).toArray) unGates aq_gate0 rfl (by decide) h1.rl.own hrd rfl (fun u hu => gv_one hu) (fun e => by cases e) (by omega) (by decide) (fun A2 c2 H2 ho gr => ⟨_, _, _, rfl, _, fc1 ob, ?_⟩)
  have hfr : Frz F H1 (.slice Ag ng cg) := ⟨h1.ext, h1.rl.off⟩
  have hfr2 := hfr.grow gr
  have cb2 : CB H2 ob P Ag ng cg none 0 0 := gr.keep ob _ h1.rlob h1.cb
  have ct2 : OwnZ base F H2 Ac n cc tl := ⟨h1.ct.1.move (fun k x hk hx => gr.keep k x (fun e => h1.ctrl hk e) hx), hfr2.ext, h1.ct.2.off⟩
  refine cb_gates cb2 h.obB (fun H3 cb3 s3 => hk A2 c2 H3 ⟨h.obF, h.obB, cb3, ct2.same h.obF (fun e => ?_) s3, ⟨ext_same hfr2.ext h.obF s3, ?_, hfr2.off⟩⟩)
  · obtain ⟨cu, hc⟩ := ct2.tag e
    unfold CB at cb2
    rw [cb2] at hc
    exact absurd (cells_tag hc) (by decide)
  · have ho' : Own base H2 tGate 5 (.slice A2 (ng + 1) c2) (ng + 1) (gc (og ++ [g])) := by
      have : gc (og ++ [g]) = gc og ++ gv g := by simp [gc]
      rw [this]; exact ho
    refine ho'.move (fun k x hkx hx => by
      have hne : k ≠ ob := fun e => by
        obtain ⟨_, cu, hc⟩ := ho'.known hkx
        unfold CB at cb2
        rw [e, cb2] at hc
        exact absurd (cells_tag hc) (by decide)
      rw [s3 k hne]
      exact hx)
end
/-- A gate's own variable: a field changes. -/
theorem gb_set {base : Nat} {H : HH} {b j : Nat} {g g' : Gate} {v : Int} {K : Unit → HH → Prop} (hb : H b = some (.cells (gv g).toArray tGate (0, 0))) (hbase : base ≤ b) (hj : j < 5) (he : (gv g).toArray.setIfInBounds j (.int .i64 v) = (gv g').toArray)
    (hk : ∀ H', H' b = some (.cells (gv g').toArray tGate (0, 0)) → (∀ k, k ≠ b → H' k = H k) → K () H') : HRun Tryd.prog base (Instr.storeAt 3 (.pointer (some ⟨b, j, none⟩)) (.int .i64 v)) H K :=
  h_st info3 rfl hb hbase (by show j < (gv g).toArray.size; exact hj) (by rw [he]; exact hk _ (upd_self _ _ _) (fun k hk => upd_ne _ hk))
section
variable {base : Nat} {F H : HH} {K : Value → HH → Prop} {N1 : Value → HH → Prop} {A A' Af : Option Addr} {n' c c' cf' nb xb : Nat} {P : Int} {gs : List Gate} {outs : List Int} {nd : Nat → Bool} {x2 x3 : Addr} {fr : Fr}
theorem onB_self (nd : Nat → Bool) (j : Nat) : onB nd j j = true := by simp [onB]
theorem onB_ne (nd : Nat → Bool) {j t : Nat} (h : t ≠ j) : onB nd j t = nd t := by
  unfold onB
  rw [show (t == j) = false by simpa using h, Bool.false_or]
/-- Something more is needed. -/
theorem bb_on {m j : Nat} (h : BB base H nb m nd) (hj : j < m) (hF : F nb = none) (X : Ext F H) {K : Unit → HH → Prop} (hk : ∀ H', Ext F H' → BB base H' nb m (onB nd j) → (∀ k, k ≠ nb → H' k = H k) → K () H') : HRun Tryd.prog base (Instr.storeAt 4 (.pointer (some ⟨nb, j, none⟩)) (.bool true)) H K :=
  h.put hj true (onB_self nd j) (fun k _ hne => onB_ne nd hne) (fun H' h' s => hk H' (ext_same X hF s) h' s)
/-- A round of the search backwards. -/
theorem nd_round (W : WF gs) (hg : Gs F A gs.length gs) (cb : CB F xb P A gs.length c A' n' c') (hz : gs.length ≤ 100000) {i : Nat} (hi : i < gs.length) (X : Ext F H) (hF : F nb = none) (rf : Outs F Af gs.length (zs (fL gs gs.length))) (bb : BB base H nb gs.length nd)
    (hN : ∀ H', Ext F H' → BB base H' nb gs.length (ndStep gs nd i) → N1 (.int .i64 (IntKind.i64.wrap ((i : Int) - 1))) H') :
    optimize_Optimize.B1 base ⟨xb, 0, none⟩ x2 x3 Af gs.length cf' (some ⟨nb, 0, none⟩) gs.length gs.length i fr N1 H K := by
  unfold optimize_Optimize.B1
  rw [if_pos (decide_eq_true (by omega))]
  obtain ⟨a, q1, q2⟩ := (hg.ext X).at c hi
  refine ⟨_, fc1 xb, _, _, _, (cb.ext X).qgs, a, q1, _, _, _, _, _, q2.all, h_bare (fun gb H1 B => ?_)⟩
  obtain ⟨wa, wb⟩ := W i hi
  have hN : ∀ H' nd', nd' = ndStep gs nd i → Ext F H' → BB base H' nb gs.length nd' → N1 (.int .i64 (IntKind.i64.wrap ((i : Int) - 1))) H' := fun H' nd' e X b => hN H' X (e ▸ b)
  unfold ndStep at hN
  dsimp only at hN
  obtain ⟨g, hgd⟩ : ∃ g, g = gs.getD i gate0 := ⟨_, rfl⟩
  rw [← hgd] at B wa wb hN
  obtain ⟨n1, hn1⟩ : ∃ n1, n1 = if g.kind = 1 then onB nd i else nd := ⟨_, rfl⟩
  rw [← hn1] at hN
  obtain ⟨n2, hn2⟩ : ∃ n2, n2 = if sA g.kind = true then onB n1 (fN gs g.a.toNat) else n1 := ⟨_, rfl⟩
  rw [← hn2] at hN
  have X1 := X.trans B.ext
  have bb1 := bb.ext B.ext
  have hgn : gb ≠ nb := fun e => by
    obtain ⟨_, cu, hc⟩ := bb1.blk
    have := B.at_
    rw [e, hc] at this
    exact absurd (cells_tag this) (by decide)
  have keep : ∀ {H' : HH}, (∀ k, k ≠ nb → H' k = H1 k) → GAt H' ⟨gb, 0, none⟩ g := fun s => gat_blk (by rw [s gb hgn]; exact B.at_)
  have rd : ∀ {H' : HH} {z : Int}, Ext F H' → 0 ≤ z → z < i → ∃ a, AQ Tryd.prog (Instr.indexAt tInts (.slice Af gs.length cf') (.int .i64 z)) (.pointer (some a)) ∧ QRun Tryd.prog (Instr.loadAt 3 (.pointer (some a))) H' (.int .i64 (fN gs z.toNat : Int)) := fun X h0 h1 => by
    obtain ⟨a, u1, u2⟩ := (rf.ext X).ix cf' h0 (by omega)
    rw [zs_get, fL_get gs (by omega)] at u2
    exact ⟨a, u1, u2⟩
  have s1 : ∀ (H' : HH), n1 i = true → Ext F H' → BB base H' nb gs.length n2 → GAt H' ⟨gb, 0, none⟩ g →
      optimize_Optimize.R1 base N1 [.pointer (some ⟨xb, 0, none⟩), .pointer (some x2), .pointer (some x3), .slice Af gs.length cf', .slice (some ⟨nb, 0, none⟩) gs.length gs.length, .int .i64 (i : Int), .pointer (some ⟨gb, 0, none⟩), .bool (sB g.kind)] H' K := fun H' e2 X' b' ga => by
    refine optimize_Optimize.cut1 ?_
    unfold optimize_Optimize.T1 optimize_Optimize.S1
    by_cases sb : sB g.kind = true
    · rw [if_pos sb]
      obtain ⟨y0, y1⟩ := wb sb
      obtain ⟨a6, t3, t4⟩ := rd X' y0 y1
      have hf := fN_le W (i := g.b.toNat) (by omega)
      have hj : fN gs g.b.toNat < gs.length := by omega
      refine ⟨_, fg3 _, _, ga.sb, a6, t3, _, t4, _, (b'.at hj).1, bb_on b' hj hF X' (fun H3 X3 b3 s3 => hN H3 _ ?_ X3 b3)⟩
      rw [if_neg (by rw [e2]; decide), if_pos sb]
    · rw [if_neg sb]
      refine hN H' n2 ?_ X' b'
      rw [if_neg (by rw [e2]; decide), if_neg sb]
  have s0 : ∀ (H' : HH), Ext F H' → BB base H' nb gs.length n1 → (∀ k, k ≠ nb → H' k = H1 k) →
      optimize_Optimize.R0 base N1 [.pointer (some ⟨xb, 0, none⟩), .pointer (some x2), .pointer (some x3), .slice Af gs.length cf', .slice (some ⟨nb, 0, none⟩) gs.length gs.length, .int .i64 (i : Int), .pointer (some ⟨gb, 0, none⟩)] H' K := fun H' X' b' s' => by
    refine optimize_Optimize.cut0 ?_
    unfold optimize_Optimize.T0 optimize_Optimize.S0
    refine ⟨_, (b'.at hi).1, _, (b'.at hi).2, ?_⟩
    have ga := keep s'
    cases e2 : n1 i with
    | false =>
      rw [if_pos (by decide)]
      refine hN H' n1 ?_ X' b'
      rw [if_pos e2]
    | true =>
      rw [if_neg (by decide)]
      refine ⟨_, fg0 _, _, ga.kind, h_sides g.kind ⟨_, _, rfl, ?_⟩⟩
      by_cases sa : sA g.kind = true
      · rw [if_pos sa]
        obtain ⟨x0, x1⟩ := wa sa
        obtain ⟨a5, t1, t2⟩ := rd X' x0 x1
        have hf := fN_le W (i := g.a.toNat) (by omega)
        have hj : fN gs g.a.toNat < gs.length := by omega
        refine ⟨_, fg2 _, _, ga.sa, a5, t1, _, t2, _, (b'.at hj).1, bb_on b' hj hF X' (fun H3 X3 b3 s3 => s1 H3 e2 X3 (by rw [hn2, if_pos sa]; exact b3) (keep (fun k hk => by rw [s3 k hk, s' k hk])))⟩
      · rw [if_neg sa]
        exact s1 H' e2 X' (by rw [hn2, if_neg sa]; exact b') ga
  refine ⟨_, fg0 _, _, B.gat.kind, ?_⟩
  by_cases k1 : g.kind = 1
  · rw [if_pos (by simpa using k1)]
    refine ⟨_, (bb1.at hi).1, bb_on bb1 hi hF X1 (fun H3 X3 b3 s3 => s0 H3 X3 (by rw [hn1, if_pos k1]; exact b3) s3)⟩
  · rw [if_neg (by simpa using k1)]
    exact s0 H1 X1 (by rw [hn1, if_neg k1]; exact bb1) (fun k _ => rfl)
end
end Go.Proofs.YtjpaichcaaacbabDoor.HL
end
section
set_option linter.unusedVariables false
set_option linter.unusedSimpArgs false
set_option linter.unusedSectionVars false
set_option maxHeartbeats 8000000
namespace Go.Proofs.YtjpaichcaaacbabDoor.HL
open Go Go.Proofs.YtjpaichcaaacbabDoorNum Go.Proofs.YtjpaichcaaacbabDoor.FEv
theorem set_pad {l : List Int} {i n : Nat} (hl : l.length = i) (hi : i < n) (x : Int) : (l ++ List.replicate (n - i) 0).set i x = (l ++ [x]) ++ List.replicate (n - (i + 1)) 0 := by
  rw [List.set_append_right _ _ (by omega), hl, Nat.sub_self, show n - i = (n - (i + 1)) + 1 by omega, List.replicate_succ, List.set_cons_zero, List.append_assoc]; rfl
theorem set_pad2 {l r : List Int} {i : Nat} (hl : l.length = i) (y x : Int) : ((l ++ [y]) ++ r).set i x = (l ++ [x]) ++ r := by
  rw [List.set_append_left _ _ (by rw [List.length_append, List.length_singleton]; omega), List.set_append_right _ _ (by omega), hl, Nat.sub_self]; rfl
theorem get_pad {l r : List Int} {i k : Nat} (hl : l.length = i) (hk : k < i) (y : Int) : ((l ++ [y]) ++ r).getD k 0 = l.getD k 0 := by
  rw [getD_app_lt (by rw [List.length_append]; omega), getD_app_lt (by omega)]
section
variable {base : Nat} {F H : HH} {K : Value → HH → Prop} {N2 : Value → HH → Prop} {A A' Af Ag Ac : Option Addr} {n' c c' cf' nb xb ob tb ng cg cc : Nat} {P : Int} {gs : List Gate} {outs : List Int} {nd : Nat → Bool} {x2 x3 : Addr} {fr : Fr}
theorem oc_round (W : WF gs) (hg : Gs F A gs.length gs) (cb : CB F xb P A gs.length c A' n' c') (hz : gs.length ≤ 100000) {i : Nat} (hi : i < gs.length) (rf : Outs F Af gs.length (zs (fL gs gs.length))) (bb : BB base F nb gs.length nd) (tk : TB F tb Ac gs.length cc)
    (S : S3 base F H ob P Ag ng cg Ac gs.length cc ((cL gs nd i).1 ++ List.replicate (gs.length - i) 0) (cL gs nd i).2)
    (hN : ∀ A1 n1 c1 H', S3 base F H' ob P A1 n1 c1 Ac gs.length cc ((cL gs nd (i + 1)).1 ++ List.replicate (gs.length - (i + 1)) 0) (cL gs nd (i + 1)).2 → N2 (.int .i64 (IntKind.i64.wrap ((i : Int) + 1))) H')
    (hng : (cL gs nd i).2.length ≤ i) :
    optimize_Optimize.B2 base ⟨xb, 0, none⟩ x2 x3 Af gs.length cf' (some ⟨nb, 0, none⟩) gs.length gs.length ⟨ob, 0, none⟩ ⟨tb, 0, none⟩ A gs.length c gs.length i fr N2 H K := by
  unfold optimize_Optimize.B2
  rw [if_pos (decide_eq_true (by omega))]
  obtain ⟨a, q1, q2⟩ := (hg.ext S.ext).at c hi
  have hl := cL_len gs nd i
  have hrl := S.rl.len
  have ec : cL gs nd (i + 1) = if nd (fN gs i) = false then ((cL gs nd i).1 ++ [-1], (cL gs nd i).2) else if fN gs i ≠ i then ((cL gs nd i).1 ++ [(cL gs nd i).1.getD (fN gs i) 0], (cL gs nd i).2) else ((cL gs nd i).1 ++ [((cL gs nd i).2.length : Int)], (cL gs nd i).2 ++ [mapG gs (cL gs nd i).1 (gs.getD i gate0)]) := rfl
  rw [ec] at hN
  generalize (cL gs nd i).1 = tl at *
  generalize (cL gs nd i).2 = og at *
  obtain ⟨wa, wb⟩ := W i hi
  obtain ⟨g, hgd⟩ : ∃ g, g = gs.getD i gate0 := ⟨_, rfl⟩
  rw [← hgd] at q2 wa wb hN
  refine ⟨a, q1, _, _, _, _, _, q2.all, h_bare (g := g) (fun gb H1 B => ?_)⟩
  have S1 := S.more B.ext
  have gF : F gb = none := S.ext.none B.new
  have g_ob : gb ≠ ob := fun e => by
    have h1 := B.new
    have h2 := S.cb
    unfold CB at h2
    rw [e, h2] at h1; cases h1
  have g_ct : (Value.slice Ac gs.length cc).ownBlock ≠ some gb := fun e => by
    obtain ⟨cu, hc⟩ := S.ct.tag e
    rw [B.new] at hc; cases hc
  have g_rl : (Value.slice Ag ng cg).ownBlock ≠ some gb := fun e => by
    obtain ⟨cu, hc⟩ := S.rl.tag e
    rw [B.new] at hc; cases hc
  have gkeep : ∀ {H' H2 : HH} {g0 : Nat} {cur : Array Value} {g' : Gate}, H2 gb = some (.cells (gv g').toArray tGate (0, 0)) → H2 g0 = some (.cells cur 3 (0, 0)) → (∀ k, k ≠ g0 → H' k = H2 k) → H' gb = some (.cells (gv g').toArray tGate (0, 0)) := fun h1 h2 s => by
    rw [s gb (fun e => by rw [e, h2] at h1; exact absurd (cells_tag h1) (by decide))]; exact h1
  refine ⟨_, ft0 tb, _, _, _, (tk.ext S1.ext).to, S1.putc hi (-1) (fun g0 cur H2 hg0 S2 s2 => ?_)⟩
  rw [set_pad hl hi] at S2
  have B2 := gkeep B.at_ hg0 s2
  have hfi := fN_le W hi
  have rd : ∀ {H' : HH} {z : Int}, Ext F H' → 0 ≤ z → z < (i : Int) + 1 → ∃ a, AQ Tryd.prog (Instr.indexAt tInts (.slice Af gs.length cf') (.int .i64 z)) (.pointer (some a)) ∧ QRun Tryd.prog (Instr.loadAt 3 (.pointer (some a))) H' (.int .i64 (fN gs z.toNat : Int)) := fun X h0 h1 => by
    obtain ⟨a, u1, u2⟩ := (rf.ext X).ix cf' h0 (by omega)
    rw [zs_get, fL_get gs (by omega)] at u2
    exact ⟨a, u1, u2⟩
  obtain ⟨a3, u1, u2⟩ := rd (z := (i : Int)) S2.ext (by omega) (by omega)
  rw [Int.toNat_natCast] at u2
  have hfl : fN gs i < gs.length := by omega
  refine ⟨a3, u1, _, u2, _, (bb.at hfl).1, _, ((bb.ext S2.ext).at hfl).2, ?_⟩
  cases hnd : nd (fN gs i) with
  | false =>
    rw [if_pos (by decide)]
    rw [if_pos hnd] at hN
    exact hN _ _ _ H2 S2
  | true =>
  rw [if_neg (by decide)]
  rw [if_neg (by rw [hnd]; decide)] at hN
  refine ⟨a3, u1, _, u2, ?_⟩
  by_cases hne : fN gs i = i
  rotate_left
  · rw [if_pos (by rw [bne_iff_ne]; omega)]
    rw [if_pos hne] at hN
    have htk := (tk.ext S2.ext).to
    obtain ⟨a4, v1, v2⟩ := S2.ct.row.at cc hfl
    rw [get_pad hl (by omega)] at v2
    refine ⟨_, ft0 tb, _, _, _, htk, _, ft0 tb, _, _, _, htk, a3, u1, _, u2, a4, v1, _, v2, S2.putc hi _ (fun g1 cur1 H3 hg1 S3' s3 => ?_)⟩
    rw [set_pad2 hl] at S3'
    exact hN _ _ _ H3 S3'
  rw [if_neg (by rw [hne]; simp)]
  rw [if_neg (by omega)] at hN
  -- the last steps
  have e3 : ∀ (g' : Gate) (H' : HH), g' = mapG gs tl g → S3 base F H' ob P Ag ng cg Ac gs.length cc ((tl ++ [-1]) ++ List.replicate (gs.length - (i + 1)) 0) og → H' gb = some (.cells (gv g').toArray tGate (0, 0)) →
      optimize_Optimize.R3 base N2 [.pointer (some ⟨xb, 0, none⟩), .pointer (some x2), .pointer (some x3), .slice Af gs.length cf', .slice (some ⟨nb, 0, none⟩) gs.length gs.length, .pointer (some ⟨ob, 0, none⟩), .pointer (some ⟨tb, 0, none⟩), .int .i64 (i : Int), .pointer (some ⟨gb, 0, none⟩), .slice A gs.length c, .int .i64 ((gs.length : Nat) : Int), .int .i64 (i : Int)] H' K := fun g' H' eg S' hb => by
    refine optimize_Optimize.cut3 ?_
    unfold optimize_Optimize.T3 optimize_Optimize.S3
    refine ⟨_, ft0 tb, _, _, _, (tk.ext S'.ext).to, _, fc1 ob, _, _, _, S'.cb.qgs, S'.putc hi _ (fun g1 cur1 H3 hg1 S4 s4 => ?_)⟩
    rw [set_pad2 hl] at S4
    have hb4 := gkeep hb hg1 s4
    refine ⟨_, fc1 ob, _, _, _, S4.cb.qgs, _, _, _, _, _, (gat_blk hb4).all, S4.addg (by omega) g' (fun A5 c5 H5 S5 => ?_)⟩
    rw [eg] at S5
    rw [hrl] at S5
    exact hN _ _ _ H5 S5
  have st : ∀ {H' H3 : HH} {g1 g2 : Gate}, S3 base F H' ob P Ag ng cg Ac gs.length cc ((tl ++ [-1]) ++ List.replicate (gs.length - (i + 1)) 0) og → (∀ k, k ≠ gb → H3 k = H' k) → S3 base F H3 ob P Ag ng cg Ac gs.length cc ((tl ++ [-1]) ++ List.replicate (gs.length - (i + 1)) 0) og := fun S' s => S'.same gF g_ob g_ct g_rl s
  have e2 : ∀ (g' : Gate) (H' : HH), g' = ⟨g.kind, g.frm, if sA g.kind = true then tl.getD (fN gs g.a.toNat) 0 else g.a, g.b, g.k⟩ → S3 base F H' ob P Ag ng cg Ac gs.length cc ((tl ++ [-1]) ++ List.replicate (gs.length - (i + 1)) 0) og → H' gb = some (.cells (gv g').toArray tGate (0, 0)) →
      optimize_Optimize.R2 base N2 [.pointer (some ⟨xb, 0, none⟩), .pointer (some x2), .pointer (some x3), .slice Af gs.length cf', .slice (some ⟨nb, 0, none⟩) gs.length gs.length, .pointer (some ⟨ob, 0, none⟩), .pointer (some ⟨tb, 0, none⟩), .int .i64 (i : Int), .pointer (some ⟨gb, 0, none⟩), .bool (sB g.kind), .slice A gs.length c, .int .i64 ((gs.length : Nat) : Int), .int .i64 (i : Int)] H' K := fun g' H' eg S' hb => by
    refine optimize_Optimize.cut2 ?_
    unfold optimize_Optimize.T2 optimize_Optimize.S2
    by_cases sb : sB g.kind = true
    · rw [if_pos sb]
      obtain ⟨y0, y1⟩ := wb sb
      obtain ⟨a6, t3, t4⟩ := rd S'.ext y0 (by omega)
      have hf := fN_le W (i := g.b.toNat) (by omega)
      obtain ⟨a7, t5, t6⟩ := S'.ct.row.at cc (i := fN gs g.b.toNat) (by omega)
      rw [get_pad hl (by omega)] at t6
      have gb' := gat_blk hb
      have q3 := gb'.sb
      rw [show g'.b = g.b by rw [eg]] at q3
      refine ⟨_, ft0 tb, _, _, _, (tk.ext S'.ext).to, _, fg3 _, _, q3, a6, t3, _, t4, a7, t5, _, t6, _, fb gb 3 (by decide), gb_set (g' := ⟨g'.kind, g'.frm, g'.a, tl.getD (fN gs g.b.toNat) 0, g'.k⟩) hb B.own (by decide) rfl (fun H3 hb3 s3 => e3 _ H3 ?_ (st (g1 := g) (g2 := g) S' s3) hb3)⟩
      rw [eg]
      unfold mapG
      rw [if_pos sb]
    · rw [if_neg sb]
      refine e3 g' H' ?_ S' hb
      rw [eg]
      unfold mapG
      rw [if_neg sb]
  have gb2 := gat_blk B2
  refine ⟨_, fg0 _, _, gb2.kind, h_sides g.kind ⟨_, _, rfl, ?_⟩⟩
  by_cases sa : sA g.kind = true
  · rw [if_pos sa]
    obtain ⟨x0, x1⟩ := wa sa
    obtain ⟨a6, t3, t4⟩ := rd S2.ext x0 (by omega)
    have hf := fN_le W (i := g.a.toNat) (by omega)
    obtain ⟨a7, t5, t6⟩ := S2.ct.row.at cc (i := fN gs g.a.toNat) (by omega)
    rw [get_pad hl (by omega)] at t6
    refine ⟨_, ft0 tb, _, _, _, (tk.ext S2.ext).to, _, fg2 _, _, gb2.sa, a6, t3, _, t4, a7, t5, _, t6, _, fb gb 2 (by decide), gb_set (g' := ⟨g.kind, g.frm, tl.getD (fN gs g.a.toNat) 0, g.b, g.k⟩) B2 B.own (by decide) rfl (fun H3 hb3 s3 => e2 _ H3 ?_ (st (g1 := g) (g2 := g) S2 s3) hb3)⟩
    rw [if_pos sa]
  · rw [if_neg sa]
    refine e2 g H2 ?_ S2 B2
    rw [if_neg sa]
end
end Go.Proofs.YtjpaichcaaacbabDoor.HL
end
section
set_option linter.unusedVariables false
set_option linter.unusedSimpArgs false
set_option linter.unusedSectionVars false
set_option maxHeartbeats 8000000
namespace Go.Proofs.YtjpaichcaaacbabDoor.HL
open Go Go.Proofs.YtjpaichcaaacbabDoorNum Go.Proofs.YtjpaichcaaacbabDoor.FEv
theorem cL_le (gs : List Gate) (nd : Nat → Bool) : ∀ i, (cL gs nd i).2.length ≤ i
  | 0 => Nat.le_refl _
  | i + 1 => by
    have := cL_le gs nd i
    unfold cL
    dsimp only
    split
    · exact Nat.le_succ_of_le this
    · split
      · exact Nat.le_succ_of_le this
      · rw [List.length_append, List.length_singleton]; omega
theorem ndOut_succ {gs : List Gate} {outs : List Int} {j : Nat} (h : j < outs.length) (t : Nat) : ndOut gs outs (j + 1) t = onB (ndOut gs outs j) (fN gs (outs.getD j 0).toNat) t := by
  unfold ndOut onB
  have eo : outs.getD j 0 = outs[j] := by simp [h]
  rw [List.take_add_one, List.getElem?_eq_getElem h, List.any_append, Option.toList_some, List.any_cons, List.any_nil, Bool.or_false, Bool.or_comm, eo]
  congr 1
  rw [Bool.eq_iff_iff, beq_iff_eq, beq_iff_eq]
  exact eq_comm
/-- A block is hidden. -/
def hideB (H : HH) (b : Nat) : HH := fun k => if k = b then none else H k
theorem hide_ext (H : HH) (b : Nat) : Ext (hideB H b) H := fun k o h => by
  unfold hideB at h
  split at h
  · cases h
  · exact h
theorem hide_at (H : HH) (b : Nat) : hideB H b b = none := by unfold hideB; rw [if_pos rfl]
theorem hide_ne (H : HH) {b k : Nat} (h : k ≠ b) : hideB H b k = H k := by unfold hideB; rw [if_neg h]
theorem ext_hide {F H : HH} {b : Nat} (X : Ext F H) (hF : F b = none) : Ext F (hideB H b) := fun k o h => by
  rw [hide_ne _ (fun e => by rw [e, hF] at h; cases h)]; exact X k o h
section
variable {base : Nat} {H : HH}
theorem h_mkZ {q : Nat} (hq : q ≤ 1000000) {k1 k2 : IntKind} {K : Value → HH → Prop} (h : ∀ A' c' H', OwnZ base H H' A' q c' (List.replicate q 0) → K (.slice A' q c') H') :
    HRun Tryd.prog base (Instr.makeSlice tInts (.int k1 q) (.int k2 q)) H K :=
  h_mkN hq (fun g H' hb o X hn => h _ _ H' ⟨by
    have : ns ((List.range q).map fun _ => 0) = is (List.replicate q 0) := by
      unfold ns is
      rw [List.map_const', List.length_range, List.map_replicate, List.map_replicate]; rfl
    unfold NB at o
    rw [this] at o
    exact o, X, fun b hb' => by
    have e : g = b := by simpa [Value.ownBlock] using hb'
    rw [← e]; exact hn⟩)
theorem h_tvar {A : Option Addr} {n c : Nat} {old : Value} {C : Addr → HH → Prop} (hk : ∀ b H', Ext H H' → H b = none → TB H' b A n c → C ⟨b, 0, none⟩ H') :
    HRun Tryd.prog base (Instr.alloc tCert true old) H fun v H1 => ∃ a : Addr, v = .pointer (some a) ∧ HRun Tryd.prog base (Instr.storeAt tCert (.pointer (some a)) (.agg #[.slice A n c])) H1 fun _ H2 => C a H2 :=
  h_var (vs := [.slice A n c]) (z := .agg #[.slice none 0 0]) (by kernel_rfl) rfl (by kernel_rfl) rfl (fun b H' he hbase hn hb => hk _ H' he hn hb)
/-- A number is pushed; something is read between. -/
theorem OwnZ.pushQ {F : HH} {A : Option Addr} {n c : Nat} {l : List Int} (o : OwnZ base F H A n c l) (hl : n ≤ 100000) (x : Int) {Q : HH → Prop} (hQ : ∀ H', Ext H H' → Q H') {C : Option Addr → Nat → Nat → HH → Prop} (hk : ∀ A' c' H', OwnZ base F H' A' (n + 1) c' (l ++ [x]) → Grows H H' (.slice A n c) (.slice A' (n + 1) c') → C A' (n + 1) c' H') {ty : Nat} :
    HRun Tryd.prog base (Instr.buildSlice tInts 1 #[(0, .int .i64 x)]) H fun v1 H1 => ∃ (A1 : Option Addr) (l1 c1 : Nat), v1 = .slice A1 l1 c1 ∧ Q H1 ∧ HRun Tryd.prog base (Builtin.append_ #[tInts, tInts] ty #[.slice A n c, .slice A1 l1 c1]) H1 fun v2 H2 => ∃ (A' : Option Addr) (l' c' : Nat), v2 = .slice A' l' c' ∧ C A' l' c' H2 := by
  have hfill : Instr.fill (fun i => some (i * 1, 1)) (madeCells (Value.int .i64 0).cells (1 * 1)) [(0, .int .i64 x)] = some #[.int .i64 x] := by kernel_rfl
  refine h_lit (sz := 1) (z := .int .i64 0) (cs := #[.int .i64 x]) unInts (by kernel_rfl) (by decide) hfill (by decide) (fun b hb hbase => ⟨_, _, _, rfl, hQ _ (Ext.upd hb _), ?_⟩)
  have he : Ext H (upd H b (.cells #[.int .i64 x] 3)) := Ext.upd hb _
  refine h_app (m := 1) (ys := [.int .i64 x]) unInts inf3 rfl (by decide) (o.1.ext he) (.inr ⟨_, rfl, fun i w hw => ?_⟩) (by simp) (by simp [Value.oneCell']) (by simp) (by omega) (by decide) (fun A' c' H' h1 h2 => ⟨_, _, _, rfl, hk A' c' H' ⟨by simpa [is] using h1, o.2.grow (h2.trans_ext he)⟩ (h2.trans_ext he)⟩)
  match i, hw with
  | 0, hw =>
    cases hw
    show cellH _ ((⟨b, 0, none⟩ : Addr).add 0) = _
    simp [Addr.add, cellH, upd_self]
/-- The circuit's outputs are another row. -/
theorem cb_outs {b : Nat} {p : Int} {A A' A1 : Option Addr} {n c n' c' n1 c1 : Nat} {K : Unit → HH → Prop} (h : CB H b p A n c A' n' c') (hb : base ≤ b) (hK : ∀ H', CB H' b p A n c A1 n1 c1 → (∀ k, k ≠ b → H' k = H k) → K () H') :
    HRun Tryd.prog base (Instr.storeAt tInts (.pointer (some ⟨b, 2, none⟩)) (.slice A1 n1 c1)) H K :=
  h_st (by kernel_rfl) rfl h hb (show 2 < 3 by decide) (hK _ (upd_self _ _ _) (fun k hk => upd_ne _ hk))
theorem q_res2 {l : List Value} {x y : Nat} {p : Int} {A A' T : Option Addr} {n c n' c' nt ct : Nat} (h2 : l[2]? = some (.pointer (some ⟨x, 0, none⟩))) (h3 : l[3]? = some (.pointer (some ⟨y, 0, none⟩))) (hx : CB H x p A n c A' n' c') (hy : TB H y T nt ct) :
    QRun Tryd.prog (results Tryd.f11 l.toArray) H (.tuple #[.agg #[.int .u64 p, .slice A n c, .slice A' n' c'], .agg #[.slice T nt ct]]) := fun W hs => by
  have er : Tryd.f11.results = #[.cell 2 tC, .cell 3 tCert] := by kernel_rfl
  have hl := hx.all W hs
  have hl' := hy.all W hs
  simp only [Instr.loadAt, Instr.sureAddr] at hl hl'
  have e2 : l.toArray.getD 2 undef = .pointer (some ⟨x, 0, none⟩) := by simp [Array.getD_eq_getD_getElem?, h2]
  have e3 : l.toArray.getD 3 undef = .pointer (some ⟨y, 0, none⟩) := by simp [Array.getD_eq_getD_getElem?, h3]
  unfold results
  rw [er]
  simp_all [asAddr]
end
section
variable {base : Nat} {H : HH} {K : Value → HH → Prop} {A A' : Option Addr} {n n' c c' : Nat} {P : Int} {gs : List Gate} {outs : List Int}
theorem h_optimize (W : WF gs) (hO : ∀ i, i < outs.length → 0 ≤ outs.getD i 0 ∧ outs.getD i 0 < (gs.length : Int)) (hC : Circ H A n gs A' n' outs)
    (hk : ∀ A1 n1 c1 A2 c2 A3 c3 H', Ext H H' → Gs H' A1 n1 (optG gs outs) → n1 ≤ c1 → Outs H' A2 outs.length (optO gs outs) → Outs H' A3 gs.length (optT gs outs) → K (.tuple #[.agg #[.int .u64 P, .slice A1 n1 c1, .slice A2 outs.length c2], .agg #[.slice A3 gs.length c3]]) H') :
    HCall Tryd.prog base 11 #[.agg #[.int .u64 P, .slice A n c, .slice A' n' c']] H K := by
  refine optimize_Optimize.spec ?_
  unfold optimize_Optimize.sh
  obtain rfl := hC.g.1
  obtain rfl := hC.o.1
  have lg := hC.lg
  have lo := hC.lo
  refine h_cbox (fun xb H1 X1 cb1 => ⟨_, rfl, h_alloc (z := .agg #[.int .u64 0, .slice none 0 0, .slice none 0 0]) (by kernel_rfl) (fun rb rn rbase => ⟨_, rfl, h_alloc (z := .agg #[.slice none 0 0]) (by kernel_rfl) (fun tb' tn tbase => ⟨_, rfl, ?_⟩)⟩)⟩)
  have E1 : Ext H1 (upd H1 rb (.cells (Value.agg #[.int .u64 0, .slice none 0 0, .slice none 0 0]).cells tC (0, 0))) := Ext.upd rn _
  have e1 : (upd H1 rb (.cells (Value.agg #[.int .u64 0, .slice none 0 0, .slice none 0 0]).cells tC (0, 0))) rb = some _ := upd_self _ _ _
  generalize upd H1 rb (.cells (Value.agg #[.int .u64 0, .slice none 0 0, .slice none 0 0]).cells tC (0, 0)) = H2 at E1 e1 tn ⊢
  have E2 : Ext H2 (upd H2 tb' (.cells (Value.agg #[.slice none 0 0]).cells tCert (0, 0))) := Ext.upd tn _
  have e2 : (upd H2 tb' (.cells (Value.agg #[.slice none 0 0]).cells tCert (0, 0))) tb' = some _ := upd_self _ _ _
  generalize upd H2 tb' (.cells (Value.agg #[.slice none 0 0]).cells tCert (0, 0)) = H3 at E2 e2 ⊢
  have eR : H3 rb = some (.cells (Value.agg #[.int .u64 0, .slice none 0 0, .slice none 0 0]).cells tC (0, 0)) := E2 _ _ e1
  have X13 := E1.trans E2
  have cb3 := cb1.ext X13
  have rH : H rb = none := X1.none rn
  have tH : H tb' = none := (X1.trans E1).none tn
  have X03 := X1.trans X13
  have C3 := hC.ext X03
  refine ⟨_, _, _, _, _, _, _, cb3.all, h_firsts W C3.g lg (fun Af cf H4 X4 rf => ⟨_, _, _, rfl, _, fc1 xb, _, _, _, (cb3.ext X4).qgs, h_mkB (by omega) (fun nb H5 hnb bb5 X5 nbn => ⟨_, _, _, rfl, _, fc2 xb, _, _, _, ((cb3.ext X4).ext X5).qouts, ?_⟩)⟩)⟩
  have cb4 := cb3.ext X4
  have C4 := C3.ext X4
  -- what the outputs need
  have fle : ∀ {z : Int}, 0 ≤ z → z < (gs.length : Int) → fN gs z.toNat < gs.length := fun {z} h0 h1 => by have := fN_le W (i := z.toNat) (by omega); omega
  have rd : ∀ {H' : HH} {z : Int}, Ext H4 H' → 0 ≤ z → z < (gs.length : Int) → ∃ a, AQ Tryd.prog (Instr.indexAt tInts (.slice Af gs.length cf) (.int .i64 z)) (.pointer (some a)) ∧ QRun Tryd.prog (Instr.loadAt 3 (.pointer (some a))) H' (.int .i64 (fN gs z.toNat : Int)) := fun X h0 h1 => by
    obtain ⟨a, u1, u2⟩ := (rf.ext X).ix cf h0 h1
    rw [zs_get, fL_get gs (by omega)] at u2
    exact ⟨a, u1, u2⟩
  refine optimize_Optimize.loop0 (fun r y H' => ∃ j : Nat, y = j ∧ j ≤ outs.length ∧ r = outs.length - j ∧ Ext H4 H' ∧ BB base H' nb gs.length (ndOut gs outs j)) outs.length ⟨0, rfl, Nat.zero_le _, rfl, X5, bb5.congr (fun k hk => by simp [ndOut])⟩ ?_
  rintro r y fr H6 ⟨j, rfl, hj, rfl, X6, bb6⟩
  unfold optimize_Optimize.B0
  by_cases hlt : j < outs.length
  · rw [if_pos (decide_eq_true (by omega))]
    obtain ⟨o0, o1⟩ := hO j hlt
    obtain ⟨a1, q1, q2⟩ := (C4.o.ext X6).at c' hlt
    obtain ⟨a2, q3, q4⟩ := rd X6 o0 o1
    have hf := fle o0 o1
    refine ⟨a1, q1, _, q2, a2, q3, _, q4, _, (bb6.at hf).1, bb_on bb6 hf nbn X6 (fun H7 X7 b7 s7 => ?_)⟩
    refine ⟨outs.length - j - 1, by omega, _, rfl, j + 1, nxt (n := 1000000) (by omega) (by decide), by omega, by omega, X7, b7.congr (fun t ht => ndOut_succ hlt t)⟩
  rw [if_neg (fun h => hlt (by have := of_decide_eq_true h; omega))]
  obtain rfl : j = outs.length := by omega
  clear hlt hj
  refine ⟨_, fc1 xb, _, _, _, (cb4.ext X6).qgs, ?_⟩
  rw [show IntKind.i64.wrap (((gs.length : Nat) : Int) - 1) = ((gs.length : Nat) : Int) - 1 from w64 (by omega) (by omega)]
  refine optimize_Optimize.loop1 (fun r y H' => ∃ m : Nat, m ≤ gs.length ∧ y = ((gs.length : Nat) : Int) - 1 - m ∧ r = gs.length - m ∧ Ext H4 H' ∧ BB base H' nb gs.length (ndBack gs outs m)) gs.length ⟨0, Nat.zero_le _, by omega, rfl, X6, bb6⟩ ?_
  rintro r y fr H7 ⟨m, hm, rfl, rfl, X7, bb7⟩
  by_cases hlt : m < gs.length
  · rw [show ((gs.length : Nat) : Int) - 1 - (m : Int) = ((gs.length - 1 - m : Nat) : Int) by omega]
    refine nd_round W C4.g cb4 lg (i := gs.length - 1 - m) (by omega) X7 nbn rf bb7 (fun H8 X8 b8 => ?_)
    exact ⟨gs.length - m - 1, by omega, _, rfl, m + 1, by omega, by rw [w64 (by omega) (by omega)]; omega, by omega, X8, b8⟩
  unfold optimize_Optimize.B1
  rw [if_neg (fun h => hlt (by have := of_decide_eq_true h; omega))]
  obtain rfl : m = gs.length := by omega
  clear hlt hm
  have bbF : BB base H7 nb gs.length (ndAll gs outs) := bb7
  have cb7 := cb4.ext X7
  have C7 := C4.ext X7
  have rf7 := rf.ext X7
  have R7 : H7 rb = _ := X7 _ _ (X4 _ _ eR)
  have T7 : H7 tb' = _ := X7 _ _ (X4 _ _ e2)
  have X07 := X03.trans (X4.trans X7)
  clear bb5 bb6 bb7 X5 X6 cb1 cb3 cb4 C3 C4 hC X4 X7 E1 E2 e1 e2 X13 X1 eR rn tn X03 rf rd
  refine ⟨_, fc0 xb, _, cb7.qp, _, _, _, _, _, _, _, (show AQ Tryd.prog (Instr.build tC #[(0, .int .u64 P)]) (.agg #[.int .u64 P, .slice none 0 0, .slice none 0 0]) from fun W => by kernel_rfl), ?_⟩
  refine h_cvar3 (fun ob H8 X8 obn obB cd8 => ⟨_, fc1 xb, _, _, _, (cb7.ext X8).qgs, h_mkZ (by omega) (fun Ac cc H9 oc => ⟨_, _, _, rfl, _, _, _, (show AQ Tryd.prog (Instr.build tCert #[(0, .slice Ac gs.length cc)]) (.agg #[.slice Ac gs.length cc]) from fun W => by kernel_rfl), h_tvar (fun tb H10 X10 tbn tk => ⟨_, fc1 xb, _, _, _, ((cb7.ext X8).ext (oc.ext.trans X10)).qgs, ?_⟩)⟩)⟩)
  -- what is fixed from here on
  obtain ⟨F, hF⟩ : ∃ F : HH, F = upd H7 tb (.cells #[.slice Ac gs.length cc] tCert) := ⟨_, rfl⟩
  have tb7 : H7 tb = none := (X8.trans oc.ext).none tbn
  have XF : Ext H7 F := by rw [hF]; exact Ext.upd tb7 _
  have tkF : TB F tb Ac gs.length cc := by rw [hF]; exact upd_self _ _ _
  have X710 := X8.trans (oc.ext.trans X10)
  have XF10 : Ext F H10 := fun b o hb => by
    by_cases e : b = tb
    · subst e
      unfold TB at tkF
      rw [tkF] at hb; cases hb; exact tk
    · rw [hF, upd_ne _ e] at hb; exact X710 b o hb
  have obF : F ob = none := by
    have : ob ≠ tb := fun e => by
      have h1 := cd8
      unfold CB at h1
      have h2 := oc.ext.none tbn
      rw [← e, h1] at h2; cases h2
    rw [hF, upd_ne _ this]; exact obn
  have ocF : OwnZ base F H10 Ac gs.length cc (List.replicate gs.length 0) := ⟨oc.1.ext X10, XF10, fun b hb => by
    have : b ≠ tb := fun e => by
      obtain ⟨cu, hc⟩ := oc.tag hb
      rw [e, tbn] at hc; cases hc
    rw [hF, upd_ne _ this]; exact X8.none (oc.2.off b hb)⟩
  have S : S3 base F H10 ob P none 0 0 Ac gs.length cc ((cL gs (ndAll gs outs) 0).1 ++ List.replicate (gs.length - 0) 0) (cL gs (ndAll gs outs) 0).2 :=
    ⟨obF, obB, cd8.ext (oc.ext.trans X10), ocF, ⟨XF10, Own.nil _ _ _ _, fun b hb => by simp [Value.ownBlock] at hb⟩⟩
  have cbF := cb7.ext XF
  have CF := C7.ext XF
  have rfF := rf7.ext XF
  have bF := bbF.ext XF
  have RF := XF _ _ R7
  have TF := XF _ _ T7
  have X0F := X07.trans XF
  clear oc X8 X10 tk cd8 tbn XF10 X710 ocF obF hF tb7 obn cb7 C7 rf7 bbF R7 T7 X07 XF
  refine optimize_Optimize.loop2 (fun r y H' => ∃ j : Nat, y = j ∧ j ≤ gs.length ∧ r = gs.length - j ∧ ∃ A1 n1 c1, S3 base F H' ob P A1 n1 c1 Ac gs.length cc ((cL gs (ndAll gs outs) j).1 ++ List.replicate (gs.length - j) 0) (cL gs (ndAll gs outs) j).2) gs.length ⟨0, rfl, Nat.zero_le _, rfl, _, _, _, S⟩ ?_
  clear S
  rintro r y fr H11 ⟨j, rfl, hj, rfl, Ag, ng, cg, S⟩
  by_cases hlt : j < gs.length
  · refine oc_round W CF.g cbF lg hlt rfF bF tkF S (fun A12 n12 c12 H12 S12 => ?_) (cL_le _ _ _)
    exact ⟨gs.length - j - 1, by omega, _, rfl, j + 1, nxt (n := 1000000) (by omega) (by decide), by omega, by omega, _, _, _, S12⟩
  unfold optimize_Optimize.B2
  rw [if_neg (fun h => hlt (by have := of_decide_eq_true h; omega))]
  obtain rfl : j = gs.length := by omega
  clear hlt hj
  rw [Nat.sub_self, List.replicate_zero, List.append_nil] at S
  have eT : (cL gs (ndAll gs outs) gs.length).1 = optT gs outs := rfl
  have eG : (cL gs (ndAll gs outs) gs.length).2 = optG gs outs := rfl
  rw [eT, eG] at S
  have lT : (optT gs outs).length = gs.length := cL_len _ _ _
  refine ⟨_, fc2 xb, _, _, _, (cbF.ext S.ext).qouts, ?_⟩
  -- the box is hidden
  have XH : Ext F (hideB H11 ob) := ext_hide S.ext S.obF
  have XH' := hide_ext H11 ob
  have obN := hide_at H11 ob
  have ctH : OwnZ base (hideB H11 ob) (hideB H11 ob) Ac gs.length cc (optT gs outs) ∨ True := .inr trivial
  have ct0 : Own base (hideB H11 ob) 3 1 (.slice Ac gs.length cc) gs.length (is (optT gs outs)) := S.ct.1.move (fun k x hk hx => by rw [hide_ne _ (fun e => S.ctob (by rw [hk, e]))]; exact hx)
  have rl0 : Own base (hideB H11 ob) tGate 5 (.slice Ag ng cg) ng (gc (optG gs outs)) := S.rl.own.move (fun k x hk hx => by rw [hide_ne _ (fun e => S.rlob (by rw [hk, e]))]; exact hx)
  have cb11 := S.cb
  have obB := S.obB
  have ngl := S.rl.len
  generalize hideB H11 ob = F2 at XH XH' obN ct0 rl0
  have rowT : Outs F2 Ac gs.length (optT gs outs) := by
    obtain ⟨A8, c8, e, _, h2⟩ := ct0.slice
    cases e
    exact ⟨lT.symm, h2⟩
  have tk2 := tkF.ext XH
  have C2 := CF.ext XH
  refine optimize_Optimize.loop3 (fun r y H' => ∃ j : Nat, y = j ∧ j ≤ outs.length ∧ r = outs.length - j ∧ ∃ Ao co, CB H' ob P Ag ng cg Ao j co ∧ OwnZ base F2 H' Ao j co ((optO gs outs).take j)) outs.length ⟨0, rfl, Nat.zero_le _, rfl, _, _, cb11, OwnZ.nil' XH'⟩ ?_
  rintro r y fr H12 ⟨j, rfl, hj, rfl, Ao, co, cb12, oo⟩
  unfold optimize_Optimize.B3
  have lO : (optO gs outs).length = outs.length := by simp [optO]
  have ooTag : ∀ {H' : HH} {A1 : Option Addr} {n1 c1 : Nat} {l : List Int}, OwnZ base F2 H' A1 n1 c1 l → ∀ {Ax : Option Addr} {nx cx : Nat}, CB H' ob P Ag ng cg Ax nx cx → (Value.slice A1 n1 c1).ownBlock ≠ some ob := fun o _ _ _ cbx e => by
    obtain ⟨cu, hc⟩ := o.tag e
    unfold CB at cbx
    rw [cbx] at hc
    exact absurd (cells_tag hc) (by decide)
  by_cases hlt : j < outs.length
  · rw [if_pos (decide_eq_true (by omega))]
    obtain ⟨o0, o1⟩ := hO j hlt
    obtain ⟨a1, q1, q2⟩ := (C2.o.ext oo.ext).at c' hlt
    obtain ⟨a2, q3, q4⟩ := (rowT.ext oo.ext).ix cc o0 o1
    refine ⟨a1, q1, _, q2, _, fc2 ob, _, _, _, cb12.qouts, _, ft0 tb, _, _, _, (tk2.ext oo.ext).to, a2, q3, _, q4, ?_⟩
    refine oo.pushQ (by omega) _ (fun H' X => cb12.qouts.up X) (fun A13 c13 H13 o13 g13 => ⟨_, fc2 ob, ?_⟩)
    have cb13 : CB H13 ob P Ag ng cg Ao j co := g13.keep _ _ (ooTag oo cb12) cb12
    refine cb_outs cb13 obB (fun H14 cb14 s14 => ?_)
    have o14 := o13.same obN (ooTag o13 cb13) s14
    refine ⟨outs.length - j - 1, by omega, _, rfl, j + 1, nxt (n := 1000000) (by omega) (by decide), by omega, by omega, _, _, cb14, ?_⟩
    have eo : outs.getD j 0 = outs[j] := by simp [hlt]
    have e : (optO gs outs).take (j + 1) = (optO gs outs).take j ++ [(optT gs outs).getD (outs.getD j 0).toNat 0] := by
      rw [List.take_add_one, List.getElem?_eq_getElem (by omega), eo]
      simp [optO]
    rw [e]
    exact o14
  rw [if_neg (fun h => hlt (by have := of_decide_eq_true h; omega))]
  obtain rfl : j = outs.length := by omega
  rw [List.take_of_length_le (by omega)] at oo
  refine ⟨_, _, _, _, _, _, _, cb12.all, _, _, _, (tk2.ext oo.ext).all, ?_⟩
  have R12 := oo.ext _ _ (XH _ _ RF)
  have T12 := oo.ext _ _ (XH _ _ TF)
  refine h_sta (old := (Value.agg #[.int .u64 0, .slice none 0 0, .slice none 0 0]).cells) (vs := [.int .u64 P, .slice Ag ng cg, .slice Ao outs.length co]) (by kernel_rfl) rfl R12 rbase rfl ?_
  obtain ⟨H13, hH13⟩ : ∃ H13, H13 = upd H12 rb (.cells [.int .u64 P, .slice Ag ng cg, .slice Ao outs.length co].toArray tC (0, 0)) := ⟨_, rfl⟩
  rw [← hH13]
  have cr13 : CB H13 rb P Ag ng cg Ao outs.length co := by rw [hH13]; exact upd_self _ _ _
  have s13 : ∀ k, k ≠ rb → H13 k = H12 k := fun k hk => by rw [hH13]; exact upd_ne _ hk
  have tk12 := tk2.ext oo.ext
  have tk13 : TB H13 tb Ac gs.length cc := by
    have : tb ≠ rb := fun e => by
      unfold TB at tk12
      rw [e, R12] at tk12
      exact absurd (cells_tag tk12) (by decide)
    unfold TB at tk12 ⊢
    rw [s13 tb this]; exact tk12
  have hTR : tb' ≠ rb := fun e => by
    rw [e, R12] at T12
    exact absurd (cells_tag T12) (by decide)
  refine ⟨tk13.all, h_sta (old := (Value.agg #[.slice none 0 0]).cells) (vs := [.slice Ac gs.length cc]) (by kernel_rfl) rfl (by rw [s13 tb' hTR]; exact T12) tbase rfl ?_⟩
  obtain ⟨H14, hH14⟩ : ∃ H14, H14 = upd H13 tb' (.cells [.slice Ac gs.length cc].toArray tCert (0, 0)) := ⟨_, rfl⟩
  rw [← hH14]
  have tk14 : TB H14 tb' Ac gs.length cc := by rw [hH14]; exact upd_self _ _ _
  have s14 : ∀ k, k ≠ tb' → H14 k = H13 k := fun k hk => by rw [hH14]; exact upd_ne _ hk
  have cr14 : CB H14 rb P Ag ng cg Ao outs.length co := by
    unfold CB at cr13 ⊢
    rw [s14 rb (fun e => hTR e.symm)]; exact cr13
  have X012 := X0F.trans (XH.trans oo.ext)
  have X014 : Ext H H14 := ext_same (ext_same X012 rH s13) tH s14
  have keepO : ∀ {T sz n : Nat} {v : Value} {xs : List Value}, T ≠ tC → T ≠ tCert → Own base H12 T sz v n xs → Own base H14 T sz v n xs := fun hT1 hT2 o => o.move (fun k x hkx hx => by
    obtain ⟨_, cu, hc⟩ := o.known hkx
    have h1 : k ≠ rb := fun e => by rw [e, R12] at hc; exact hT1 (cells_tag hc).symm
    have h2 : k ≠ tb' := fun e => by rw [e, T12] at hc; exact hT2 (cells_tag hc).symm
    rw [s14 k h2, s13 k h1]; exact hx)
  have oG := keepO (by decide) (by decide) (rl0.ext oo.ext)
  have oT := keepO (by decide) (by decide) (ct0.ext oo.ext)
  have oO := keepO (by decide) (by decide) oo.1
  refine ⟨_, q_res2 rfl rfl cr14 tk14, ?_⟩
  obtain ⟨A8, c8, e8, hc8, g8⟩ := oG.slice
  cases e8
  obtain ⟨A9, c9, e9, _, g9⟩ := oO.slice
  cases e9
  obtain ⟨A10, c10, e10, _, g10⟩ := oT.slice
  cases e10
  exact hk _ _ _ _ _ _ _ H14 X014 ⟨ngl, g8⟩ hc8 ⟨lO.symm, g9⟩ ⟨lT.symm, g10⟩
end
end Go.Proofs.YtjpaichcaaacbabDoor.HL
end
section
set_option linter.unusedVariables false
set_option linter.unusedSimpArgs false
set_option linter.unusedSectionVars false
set_option maxHeartbeats 8000000
namespace Go.Proofs.YtjpaichcaaacbabDoor.HL
open Go Go.Proofs.YtjpaichcaaacbabDoorNum Go.Proofs.YtjpaichcaaacbabDoor.FEv
abbrev ex1 : List Gate := [⟨1, 1, 0, 0, 0⟩, ⟨1, 1, 0, 0, 0⟩, ⟨3, 0, 0, 1, 0⟩, ⟨3, 0, 1, 0, 0⟩, ⟨6, 0, 2, 3, 0⟩]
abbrev wa1 : List Gate := [⟨1, 1, 0, 0, 0⟩, ⟨1, 1, 0, 0, 0⟩, ⟨3, 0, 0, 1, 0⟩, ⟨6, 0, 2, 2, 0⟩]
section
variable {base : Nat} {H : HH} {K : Value → HH → Prop} {A A' B B' : Option Addr} {n n' m m' c c' d d' : Nat} {P P' : Int} {gs gs' : List Gate} {outs outs' : List Int}
theorem rd_blk {gb T : Nat} {z : Nat × Nat} {cs : Array Value} {xs : List Value} (h : H gb = some (.cells cs T z)) (e : cs.toList = xs) : Rd H (some ⟨gb, 0, none⟩) xs :=
  .inr ⟨_, rfl, fun i u hu => by rw [add0, cellH_blk h, ← Array.getElem?_toList, e]; exact hu⟩
theorem lit_g5 {C : Value → HH → Prop} (hk : ∀ gb H', Ext H H' → H gb = none → H' gb = some (.cells (gc ex1).toArray tGate (0, 0)) → C (.slice (some ⟨gb, 0, none⟩) 5 5) H') : HRun Tryd.prog base (Instr.buildSlice tGates 5 #[(0, .agg #[.int .i64 1, .int .i64 1, .int .i64 0, .int .i64 0, .int .u64 0]), (1, .agg #[.int .i64 1, .int .i64 1, .int .i64 0, .int .i64 0, .int .u64 0]), (2, .agg #[.int .i64 3, .int .i64 0, .int .i64 0, .int .i64 1, .int .u64 0]), (3, .agg #[.int .i64 3, .int .i64 0, .int .i64 1, .int .i64 0, .int .u64 0]), (4, .agg #[.int .i64 6, .int .i64 0, .int .i64 2, .int .i64 3, .int .u64 0])]) H C := by
  have hfill : Instr.fill (fun i => some (i * 5, 5)) (madeCells (Value.agg (gv gate0).toArray).cells (5 * 5)) [(0, .agg #[.int .i64 1, .int .i64 1, .int .i64 0, .int .i64 0, .int .u64 0]), (1, .agg #[.int .i64 1, .int .i64 1, .int .i64 0, .int .i64 0, .int .u64 0]), (2, .agg #[.int .i64 3, .int .i64 0, .int .i64 0, .int .i64 1, .int .u64 0]), (3, .agg #[.int .i64 3, .int .i64 0, .int .i64 1, .int .i64 0, .int .u64 0]), (4, .agg #[.int .i64 6, .int .i64 0, .int .i64 2, .int .i64 3, .int .u64 0])] = some (gc ex1).toArray := by kernel_rfl
  exact h_lit (sz := 5) (z := .agg (gv gate0).toArray) (cs := (gc ex1).toArray) unGates (by kernel_rfl) (by decide) hfill (by decide) (fun gb hgb hbase => hk _ _ (Ext.upd hgb _) hgb (upd_self _ _ _))
theorem lit_gw {C : Value → HH → Prop} (hk : ∀ A' H', Ext H H' → Gs H' A' 4 wa1 → C (.slice A' 4 4) H') : HRun Tryd.prog base (Instr.buildSlice tGates 4 #[(0, .agg #[.int .i64 1, .int .i64 1, .int .i64 0, .int .i64 0, .int .u64 0]), (1, .agg #[.int .i64 1, .int .i64 1, .int .i64 0, .int .i64 0, .int .u64 0]), (2, .agg #[.int .i64 3, .int .i64 0, .int .i64 0, .int .i64 1, .int .u64 0]), (3, .agg #[.int .i64 6, .int .i64 0, .int .i64 2, .int .i64 2, .int .u64 0])]) H C := by
  have hfill : Instr.fill (fun i => some (i * 5, 5)) (madeCells (Value.agg (gv gate0).toArray).cells (4 * 5)) [(0, .agg #[.int .i64 1, .int .i64 1, .int .i64 0, .int .i64 0, .int .u64 0]), (1, .agg #[.int .i64 1, .int .i64 1, .int .i64 0, .int .i64 0, .int .u64 0]), (2, .agg #[.int .i64 3, .int .i64 0, .int .i64 0, .int .i64 1, .int .u64 0]), (3, .agg #[.int .i64 6, .int .i64 0, .int .i64 2, .int .i64 2, .int .u64 0])] = some (gc wa1).toArray := by kernel_rfl
  exact h_lit (sz := 5) (z := .agg (gv gate0).toArray) (cs := (gc wa1).toArray) unGates (by kernel_rfl) (by decide) hfill (by decide) (fun gb hgb hbase => hk _ _ (Ext.upd hgb _) ⟨rfl, rd_blk (upd_self _ _ _) rfl⟩)
theorem lit_o1b {x : Int} {C : Value → HH → Prop} (hk : ∀ gb H', Ext H H' → H gb = none → H' gb = some (.cells #[.int .i64 x] 3 (0, 0)) → C (.slice (some ⟨gb, 0, none⟩) 1 1) H') : HRun Tryd.prog base (Instr.buildSlice tInts 1 #[(0, .int .i64 x)]) H C := by
  have hfill : Instr.fill (fun i => some (i * 1, 1)) (madeCells (Value.int .i64 0).cells (1 * 1)) [(0, .int .i64 x)] = some #[.int .i64 x] := by kernel_rfl
  exact h_lit (sz := 1) (z := .int .i64 0) (cs := #[.int .i64 x]) unInts (by kernel_rfl) (by decide) hfill (by decide) (fun gb hgb hbase => hk _ _ (Ext.upd hgb _) hgb (upd_self _ _ _))
theorem lit_o5 {x y z u v : Int} {C : Value → HH → Prop} (hk : ∀ A' H', Ext H H' → Outs H' A' 5 [x, y, z, u, v] → C (.slice A' 5 5) H') : HRun Tryd.prog base (Instr.buildSlice tInts 5 #[(0, .int .i64 x), (1, .int .i64 y), (2, .int .i64 z), (3, .int .i64 u), (4, .int .i64 v)]) H C := by
  have hfill : Instr.fill (fun i => some (i * 1, 1)) (madeCells (Value.int .i64 0).cells (5 * 1)) [(0, .int .i64 x), (1, .int .i64 y), (2, .int .i64 z), (3, .int .i64 u), (4, .int .i64 v)] = some #[.int .i64 x, .int .i64 y, .int .i64 z, .int .i64 u, .int .i64 v] := by kernel_rfl
  exact h_lit (sz := 1) (z := .int .i64 0) (cs := #[.int .i64 x, .int .i64 y, .int .i64 z, .int .i64 u, .int .i64 v]) unInts (by kernel_rfl) (by decide) hfill (by decide) (fun gb hgb hbase => hk _ _ (Ext.upd hgb _) ⟨rfl, rd_blk (upd_self _ _ _) rfl⟩)
theorem q_res1 {l : List Value} {x : Nat} {p : Int} (h2 : l[0]? = some (.pointer (some ⟨x, 0, none⟩))) (hx : CB H x p A n c A' n' c') :
    QRun Tryd.prog (results Tryd.f18 l.toArray) H (.agg #[.int .u64 p, .slice A n c, .slice A' n' c']) := fun W hs => by
  have er : Tryd.f18.results = #[.cell 0 tC] := by kernel_rfl
  have hl := hx.all W hs
  simp only [Instr.loadAt, Instr.sureAddr] at hl
  have e2 : l.toArray.getD 0 undef = .pointer (some ⟨x, 0, none⟩) := by simp [Array.getD_eq_getD_getElem?, h2]
  unfold results
  rw [er]
  simp_all [asAddr]
theorem h_example (hk : ∀ A1 A2 H', Ext H H' → Circ H' A1 5 ex1 A2 1 [4] → K (.agg #[.int .u64 31, .slice A1 5 5, .slice A2 1 1]) H') : HCall Tryd.prog base 18 #[] H K := by
  refine privitylaw36_example.spec ?_
  unfold privitylaw36_example.sh
  refine h_alloc (z := .agg #[.int .u64 0, .slice none 0 0, .slice none 0 0]) (by kernel_rfl) (fun rb rn rbase => ⟨_, rfl, ?_⟩)
  have E1 : Ext H (upd H rb (.cells (Value.agg #[.int .u64 0, .slice none 0 0, .slice none 0 0]).cells tC (0, 0))) := Ext.upd rn _
  have e1 : (upd H rb (.cells (Value.agg #[.int .u64 0, .slice none 0 0, .slice none 0 0]).cells tC (0, 0))) rb = some _ := upd_self _ _ _
  generalize upd H rb (.cells (Value.agg #[.int .u64 0, .slice none 0 0, .slice none 0 0]).cells tC (0, 0)) = H1 at E1 e1 ⊢
  refine ⟨_, _, _, _, _, (show AQ Tryd.prog (Instr.build tGate #[(0, .int .i64 1), (1, .int .i64 1)]) (.agg #[.int .i64 1, .int .i64 1, .int .i64 0, .int .i64 0, .int .u64 0]) from fun W => by kernel_rfl), _, _, _, _, _, (show AQ Tryd.prog (Instr.build tGate #[(0, .int .i64 1), (1, .int .i64 1)]) (.agg #[.int .i64 1, .int .i64 1, .int .i64 0, .int .i64 0, .int .u64 0]) from fun W => by kernel_rfl), _, _, _, _, _, (show AQ Tryd.prog (Instr.build tGate #[(0, .int .i64 3), (2, .int .i64 0), (3, .int .i64 1)]) (.agg #[.int .i64 3, .int .i64 0, .int .i64 0, .int .i64 1, .int .u64 0]) from fun W => by kernel_rfl), _, _, _, _, _, (show AQ Tryd.prog (Instr.build tGate #[(0, .int .i64 3), (2, .int .i64 1), (3, .int .i64 0)]) (.agg #[.int .i64 3, .int .i64 0, .int .i64 1, .int .i64 0, .int .u64 0]) from fun W => by kernel_rfl), _, _, _, _, _, (show AQ Tryd.prog (Instr.build tGate #[(0, .int .i64 6), (2, .int .i64 2), (3, .int .i64 3)]) (.agg #[.int .i64 6, .int .i64 0, .int .i64 2, .int .i64 3, .int .u64 0]) from fun W => by kernel_rfl), ?_⟩
  refine lit_g5 (fun gb H2 X2 gn g2 => ⟨_, _, _, rfl, lit_o1b (fun ob H3 X3 on o3 => ⟨_, _, _, rfl, _, _, _, _, _, _, _, (show AQ Tryd.prog (Instr.build tC #[(0, .int .u64 31), (1, .slice (some ⟨gb, 0, none⟩) 5 5), (2, .slice (some ⟨ob, 0, none⟩) 1 1)]) (.agg #[.int .u64 31, .slice (some ⟨gb, 0, none⟩) 5 5, .slice (some ⟨ob, 0, none⟩) 1 1]) from fun W => by kernel_rfl), ?_⟩)⟩)
  have R3 := X3 _ _ (X2 _ _ e1)
  have g3 := X3 _ _ g2
  refine h_sta (old := (Value.agg #[.int .u64 0, .slice none 0 0, .slice none 0 0]).cells) (vs := [.int .u64 31, .slice (some ⟨gb, 0, none⟩) 5 5, .slice (some ⟨ob, 0, none⟩) 1 1]) (by kernel_rfl) rfl R3 rbase rfl ?_
  have n1 : gb ≠ rb := fun e => by rw [e, R3] at g3; exact absurd (cells_tag g3) (by decide)
  have n2 : ob ≠ rb := fun e => by rw [e, R3] at o3; exact absurd (cells_tag o3) (by decide)
  refine ⟨_, q_res1 rfl (upd_self _ _ _), hk _ _ _ (ext_same (E1.trans (X2.trans X3)) rn (fun k hk => upd_ne _ hk)) ⟨⟨rfl, rd_blk (by rw [upd_ne _ n1]; exact g3) rfl⟩, ⟨rfl, rd_blk (by rw [upd_ne _ n2]; exact o3) rfl⟩, by decide, by decide, by decide⟩⟩
/-- Two circuits are compared. -/
theorem h_equal32 (h1 : Circ H A n gs A' n' outs) (h2 : Circ H B m gs' B' m' outs') (hk1 : P = P' ∧ gs = gs' ∧ outs = outs' → ∀ H', Ext H H' → K (.bool true) H') (hk2 : ¬ (P = P' ∧ gs = gs' ∧ outs = outs') → ∀ H', Ext H H' → K (.bool false) H') :
    HCall Tryd.prog base 19 #[.agg #[.int .u64 P, .slice A n c, .slice A' n' c'], .agg #[.int .u64 P', .slice B m d, .slice B' m' d']] H K := by
  refine privityref32_Equal.spec ?_
  unfold privityref32_Equal.sh
  refine h_cbox (fun xb H1 X1 cb => ⟨_, rfl, h_cbox (fun yb H2 X2 db => ⟨_, rfl, ?_⟩)⟩)
  have X := X1.trans X2
  have cb := cb.ext X2
  have c1 := h1.ext X
  have c2 := h2.ext X
  obtain rfl := h1.g.1
  obtain rfl := h1.o.1
  obtain rfl := h2.g.1
  obtain rfl := h2.o.1
  have lg := h1.lg
  have lo := h1.lo
  refine ⟨_, fc0 xb, _, cb.qp, _, fc0 yb, _, db.qp, ?_⟩
  by_cases eP : P = P'
  rotate_left
  · rw [if_neg (by simpa using eP)]
    exact hk2 (fun h => eP h.1) H2 X
  rw [if_pos (by simpa using eP)]
  refine ⟨_, fc1 xb, _, _, _, cb.qgs, _, fc1 yb, _, _, _, db.qgs, ?_⟩
  by_cases eL : gs.length = gs'.length
  rotate_left
  · rw [if_neg (by rw [Bool.not_eq_false, bne_iff_ne]; omega)]
    exact hk2 (fun h => eL (by rw [h.2.1])) H2 X
  rw [if_pos (by rw [eL]; simp)]
  refine ⟨_, fc2 xb, _, _, _, cb.qouts, _, fc2 yb, _, _, _, db.qouts, ?_⟩
  by_cases eO : outs.length = outs'.length
  rotate_left
  · rw [if_pos (by rw [bne_iff_ne]; omega)]
    exact hk2 (fun h => eO (by rw [h.2.2])) H2 X
  rw [if_neg (by rw [eO]; simp)]
  refine privityref32_Equal.loop0 (fun r y H' => H' = H2 ∧ ∃ j : Nat, y = j ∧ j ≤ gs.length ∧ r = gs.length - j ∧ ∀ t, t < j → gs.getD t gate0 = gs'.getD t gate0) gs.length ⟨rfl, 0, rfl, Nat.zero_le _, rfl, fun t h => by omega⟩ ?_
  rintro r y fr H3 ⟨rfl, j, rfl, hj, rfl, hall⟩
  unfold privityref32_Equal.B0
  refine ⟨_, fc1 xb, _, _, _, cb.qgs, ?_⟩
  by_cases hlt : j < gs.length
  · rw [if_pos (decide_eq_true (by omega))]
    obtain ⟨a1, q1, q2⟩ := c1.g.at c hlt
    obtain ⟨a2, q3, q4⟩ := c2.g.at d (i := j) (by omega)
    refine ⟨_, fc1 xb, _, _, _, cb.qgs, a1, q1, _, _, _, _, _, q2.all, _, fc1 yb, _, _, _, db.qgs, a2, q3, _, _, _, _, _, q4.all, _, aq_neqg _ _, ?_⟩
    by_cases e2 : gs.getD j gate0 = gs'.getD j gate0
    rotate_left
    · rw [if_pos (decide_eq_true e2)]
      exact hk2 (fun h => e2 (by rw [h.2.1])) H3 X
    rw [if_neg (fun h => (of_decide_eq_true h) e2)]
    exact ⟨gs.length - j - 1, by omega, _, rfl, rfl, j + 1, nxt (n := 1000000) (by omega) (by decide), by omega, by omega, all_succ hall e2⟩
  rw [if_neg (fun h => hlt (by have := of_decide_eq_true h; omega))]
  obtain rfl : j = gs.length := by omega
  have eg : gs = gs' := by
    apply List.ext_getElem eL
    intro t h1 h2
    have := hall t h1
    simpa [h1, h2] using this
  refine privityref32_Equal.loop1 (fun r y H' => H' = H3 ∧ ∃ j : Nat, y = j ∧ j ≤ outs.length ∧ r = outs.length - j ∧ ∀ t, t < j → outs.getD t 0 = outs'.getD t 0) outs.length ⟨rfl, 0, rfl, Nat.zero_le _, rfl, fun t h => by omega⟩ ?_
  rintro r y fr H4 ⟨rfl, j, rfl, hj, rfl, hall2⟩
  unfold privityref32_Equal.B1
  refine ⟨_, fc2 xb, _, _, _, cb.qouts, ?_⟩
  by_cases hlt : j < outs.length
  · rw [if_pos (decide_eq_true (by omega))]
    obtain ⟨a1, q1, q2⟩ := c1.o.at c' hlt
    obtain ⟨a2, q3, q4⟩ := c2.o.at d' (i := j) (by omega)
    refine ⟨_, fc2 xb, _, _, _, cb.qouts, a1, q1, _, q2, _, fc2 yb, _, _, _, db.qouts, a2, q3, _, q4, ?_⟩
    by_cases e2 : outs.getD j 0 = outs'.getD j 0
    rotate_left
    · rw [if_pos (by rw [bne_iff_ne]; exact e2)]
      exact hk2 (fun h => e2 (by rw [h.2.2])) H4 X
    rw [if_neg (by rw [e2]; simp)]
    exact ⟨outs.length - j - 1, by omega, _, rfl, rfl, j + 1, nxt (n := 1000000) (by omega) (by decide), by omega, by omega, all_succ hall2 e2⟩
  rw [if_neg (fun h => hlt (by have := of_decide_eq_true h; omega))]
  obtain rfl : j = outs.length := by omega
  have eo : outs = outs' := by
    apply List.ext_getElem eO
    intro t h1 h2
    have := hall2 t h1
    simpa [h1, h2] using this
  exact hk1 ⟨eP, eg, eo⟩ H4 X
theorem h_few36 (hg : Gs H A n gs) (ho : Outs H A' n' outs) (hk1 : gs.length ≤ 60 → outs.length ≤ 60 → ∀ H', Ext H H' → K (.bool true) H') (hk2 : ∀ H', Ext H H' → K (.bool false) H') :
    HCall Tryd.prog base 6 #[.agg #[.int .u64 P, .slice A n c, .slice A' n' c']] H K := by
  refine privitylaw36_few.spec ?_
  unfold privitylaw36_few.sh
  obtain rfl := hg.1
  obtain rfl := ho.1
  refine h_cbox (fun xb H1 X1 cb => ⟨_, rfl, _, fc1 xb, _, _, _, cb.qgs, ?_⟩)
  by_cases e1 : gs.length ≤ 60
  rotate_left
  · rw [if_neg (fun h => e1 (by have := of_decide_eq_true h; omega))]
    exact hk2 H1 X1
  rw [if_pos (decide_eq_true (by omega))]
  refine ⟨_, fc2 xb, _, _, _, cb.qouts, ?_⟩
  by_cases e2 : outs.length ≤ 60
  · rw [decide_eq_true (by omega : ((outs.length : Nat) : Int) ≤ 60)]
    exact hk1 e1 e2 H1 X1
  · rw [decide_eq_false (by omega : ¬ ((outs.length : Nat) : Int) ≤ 60)]
    exact hk2 H1 X1
end
theorem ex_ck : CK 31 ex1 [4] 31 wa1 [3] [0, 1, 2, 2, 3] := ⟨by decide +kernel, by decide +kernel, rfl, rfl, rfl, by decide, by decide, by decide, by decide, by decide⟩
theorem nil_ck : CK 31 [] [] 31 [] [] [] := ⟨by decide +kernel, by decide +kernel, rfl, rfl, rfl, by decide, by decide, by decide, by decide, by decide⟩
theorem circ_nil (H : HH) : Circ H none 0 [] none 0 [] := ⟨⟨rfl, .inl rfl⟩, ⟨rfl, .inl rfl⟩, by decide, by decide, by decide⟩
section
variable {base : Nat} {H : HH} {K : Value → HH → Prop}
theorem h_awake36 (hG : Gl H) (hk : ∀ H', Ext H H' → K (.bool true) H') : HCall Tryd.prog base 8 #[] H K := by
  refine privitylaw36_awake.spec ?_
  unfold privitylaw36_awake.sh
  refine h_example (fun A1 A2 H1 X1 ce => ⟨_, _, _, _, _, _, _, rfl, h_optimize (by unfold WF; decide) (by decide) ce (fun B1 n1 c1 B2 c2 B3 c3 H2 X2 og hc1 oo ot => ⟨_, _, _, _, _, _, _, _, _, _, rfl, ?_⟩)⟩)
  have eG : optG ex1 [4] = wa1 := by decide +kernel
  have eO : optO ex1 [4] = [3] := by decide +kernel
  have eT : optT ex1 [4] = [0, 1, 2, 2, 3] := by decide +kernel
  rw [eG] at og
  rw [eO] at oo
  rw [eT] at ot
  obtain rfl := og.1
  refine h_alloc (z := .agg #[.int .u64 0, .slice none 0 0, .slice none 0 0]) (by kernel_rfl) (fun rb rn rbase => ⟨_, rfl, h_alloc (z := .agg #[.slice none 0 0]) (by kernel_rfl) (fun tb tn tbase => ⟨_, rfl, ?_⟩)⟩)
  have hne : tb ≠ rb := fun e => by rw [e, upd_self] at tn; cases tn
  have tn' : H2 tb = none := by rwa [upd_ne _ hne] at tn
  have E2 : Ext H2 (upd (upd H2 rb (.cells (Value.agg #[.int .u64 0, .slice none 0 0, .slice none 0 0]).cells tC (0, 0))) tb (.cells (Value.agg #[.slice none 0 0]).cells tCert (0, 0))) := (Ext.upd rn _).trans (Ext.upd tn _)
  refine h_sta (old := (Value.agg #[.int .u64 0, .slice none 0 0, .slice none 0 0]).cells) (vs := [.int .u64 31, .slice B1 4 c1, .slice B2 1 c2]) (by kernel_rfl) rfl (by rw [upd_ne _ (fun e => hne e.symm)]; exact upd_self _ _ _) rbase rfl ?_
  have E3 := ext_same E2 rn (H4 := upd _ rb (.cells [.int .u64 31, .slice B1 4 c1, .slice B2 1 c2].toArray tC (0, 0))) (fun k hk => upd_ne _ hk)
  refine h_sta (old := (Value.agg #[.slice none 0 0]).cells) (vs := [.slice B3 5 c3]) (by kernel_rfl) rfl (by rw [upd_ne _ hne]; exact upd_self _ _ _) tbase rfl ?_
  have E4 := ext_same E3 tn' (H4 := upd _ tb (.cells [.slice B3 5 c3].toArray tCert (0, 0))) (fun k hk => upd_ne _ hk)
  have cv : CB (upd (upd (upd (upd H2 rb (.cells (Value.agg #[.int .u64 0, .slice none 0 0, .slice none 0 0]).cells tC (0, 0))) tb (.cells (Value.agg #[.slice none 0 0]).cells tCert (0, 0))) rb (.cells [.int .u64 31, .slice B1 4 c1, .slice B2 1 c2].toArray tC (0, 0))) tb (.cells [.slice B3 5 c3].toArray tCert (0, 0))) rb 31 B1 4 c1 B2 1 c2 := by
    unfold CB
    rw [upd_ne _ (fun e => hne e.symm)]; exact upd_self _ _ _
  have tv : TB (upd (upd (upd (upd H2 rb (.cells (Value.agg #[.int .u64 0, .slice none 0 0, .slice none 0 0]).cells tC (0, 0))) tb (.cells (Value.agg #[.slice none 0 0]).cells tCert (0, 0))) rb (.cells [.int .u64 31, .slice B1 4 c1, .slice B2 1 c2].toArray tC (0, 0))) tb (.cells [.slice B3 5 c3].toArray tCert (0, 0))) tb B3 5 c3 := upd_self _ _ _
  generalize upd (upd (upd (upd H2 rb (.cells (Value.agg #[.int .u64 0, .slice none 0 0, .slice none 0 0]).cells tC (0, 0))) tb (.cells (Value.agg #[.slice none 0 0]).cells tCert (0, 0))) rb (.cells [.int .u64 31, .slice B1 4 c1, .slice B2 1 c2].toArray tC (0, 0))) tb (.cells [.slice B3 5 c3].toArray tCert (0, 0)) = H3 at E4 cv tv ⊢
  have X03 := X1.trans (X2.trans E4)
  have co : Circ H3 B1 4 wa1 B2 1 [3] := ⟨og.ext E4, oo.ext E4, by decide, by decide, by decide⟩
  have ot3 : Outs H3 B3 5 [0, 1, 2, 2, 3] := ot.ext E4
  have G3 := hG.ext X03
  clear og oo ot E2 E3 E4 eG eO eT X2 X1 hG ce
  refine ⟨_, _, _, _, _, (show AQ Tryd.prog (Instr.build tGate #[(0, .int .i64 1), (1, .int .i64 1)]) (.agg #[.int .i64 1, .int .i64 1, .int .i64 0, .int .i64 0, .int .u64 0]) from fun W => by kernel_rfl), _, _, _, _, _, (show AQ Tryd.prog (Instr.build tGate #[(0, .int .i64 1), (1, .int .i64 1)]) (.agg #[.int .i64 1, .int .i64 1, .int .i64 0, .int .i64 0, .int .u64 0]) from fun W => by kernel_rfl), _, _, _, _, _, (show AQ Tryd.prog (Instr.build tGate #[(0, .int .i64 3), (2, .int .i64 0), (3, .int .i64 1)]) (.agg #[.int .i64 3, .int .i64 0, .int .i64 0, .int .i64 1, .int .u64 0]) from fun W => by kernel_rfl), _, _, _, _, _, (show AQ Tryd.prog (Instr.build tGate #[(0, .int .i64 6), (2, .int .i64 2), (3, .int .i64 2)]) (.agg #[.int .i64 6, .int .i64 0, .int .i64 2, .int .i64 2, .int .u64 0]) from fun W => by kernel_rfl), ?_⟩
  refine lit_gw (fun D1 H4 X4 dg => ⟨_, _, _, rfl, lit_o1 (fun D2 H5 X5 do_ => ⟨_, _, _, rfl, _, _, _, _, _, _, _, (show AQ Tryd.prog (Instr.build tC #[(0, .int .u64 31), (1, .slice D1 4 4), (2, .slice D2 1 1)]) (.agg #[.int .u64 31, .slice D1 4 4, .slice D2 1 1]) from fun W => by kernel_rfl), h_cvar (fun db H6 X6 dv => ?_)⟩)⟩)
  have X36 := X4.trans (X5.trans X6)
  have cw : Circ H6 D1 4 wa1 D2 1 [3] := ⟨dg.ext (X5.trans X6), do_.ext X6, by decide, by decide, by decide⟩
  refine ⟨_, _, _, _, _, _, _, (cv.ext X36).all, _, _, _, _, _, _, _, dv.all, h_equal32 (co.ext X36) cw (fun _ H7 X7 => ⟨_, rfl, ?_⟩) (fun h => absurd ⟨rfl, rfl, rfl⟩ h)⟩
  rw [if_pos rfl]
  have X37 := X36.trans X7
  refine ⟨_, ft0 tb, _, _, _, (tv.ext X37).to, lit_o5 (fun D3 H8 X8 l5 => ⟨_, _, _, rfl, ((tv.ext X37).ext X8).to, h_ints ((ot3.ext X37).ext X8) l5 (by decide) ⟨_, rfl, ?_⟩⟩)⟩
  rw [if_pos (by decide)]
  have X38 := X37.trans X8
  refine ⟨_, _, _, _, _, _, _, (cv.ext X38).all, _, _, _, (tv.ext X38).all, h_example (fun A4 A5 H9 X9 ce => ⟨_, _, _, _, _, _, _, rfl, ((tv.ext X38).ext X9).all, ((cv.ext X38).ext X9).all, ?_⟩)⟩
  have X39 := X38.trans X9
  refine h_check (G3.ext X39) ce (co.ext X39) (ot3.ext X39) (fun _ H10 X10 => ⟨_, rfl, ?_⟩) (fun h => absurd ex_ck h)
  rw [if_pos rfl]
  have X310 := X39.trans X10
  refine ⟨_, _, _, _, _, _, _, (cv.ext X310).all, _, _, _, (show AQ Tryd.prog (Instr.build tCert #[]) (.agg #[.slice none 0 0]) from fun W => by kernel_rfl), h_example (fun A6 A7 H11 X11 ce' => ⟨_, _, _, _, _, _, _, rfl, ((cv.ext X310).ext X11).all, ?_⟩)⟩
  have X311 := X310.trans X11
  refine h_check (G3.ext X311) ce' (co.ext X311) (Outs.none _) (fun h => absurd h.len (by decide)) (fun _ H12 X12 => ⟨_, rfl, ?_⟩)
  rw [if_pos (by decide)]
  have X312 := X311.trans X12
  refine ⟨_, _, _, _, _, _, _, (show AQ Tryd.prog (Instr.build tC #[(0, .int .u64 31)]) (.agg #[.int .u64 31, .slice none 0 0, .slice none 0 0]) from fun W => by kernel_rfl), _, _, _, _, _, _, _, (show AQ Tryd.prog (Instr.build tC #[(0, .int .u64 31)]) (.agg #[.int .u64 31, .slice none 0 0, .slice none 0 0]) from fun W => by kernel_rfl), _, _, _, (show AQ Tryd.prog (Instr.build tCert #[]) (.agg #[.slice none 0 0]) from fun W => by kernel_rfl), ?_⟩
  refine h_check (G3.ext X312) (circ_nil _) (circ_nil _) (Outs.none _) (fun _ H13 X13 => ⟨_, rfl, hk H13 (X03.trans (X312.trans X13))⟩) (fun h => absurd nil_ck h)
end
end Go.Proofs.YtjpaichcaaacbabDoor.HL
end
namespace Go.Proofs.YtjpaichcaaacbabDoor.HL
end Go.Proofs.YtjpaichcaaacbabDoor.HL
namespace Go.Proofs.YtjpaichcaaacbabDoor.HL
end Go.Proofs.YtjpaichcaaacbabDoor.HL
section
set_option linter.unusedVariables false
set_option linter.unusedSimpArgs false
set_option linter.unusedSectionVars false
set_option maxHeartbeats 8000000
namespace Go.Proofs.YtjpaichcaaacbabDoor.HL
open Go Go.Proofs.YtjpaichcaaacbabDoorNum Go.Proofs.YtjpaichcaaacbabDoor.FEv
section
variable {base : Nat} {H : HH} {A A' T : Option Addr} {n n' c c' nt ct : Nat} {P : Int} {gs : List Gate} {outs tt : List Int}
theorem VOK.outs' {gs : List Gate} {outs : List Int} (h : VOK P gs outs) : ∀ i, i < outs.length → 0 ≤ outs.getD i 0 ∧ outs.getD i 0 < (gs.length : Int) := fun i hi => h.outA hi
end
end Go.Proofs.YtjpaichcaaacbabDoor.HL
end
namespace Go.Proofs.YtjpaichcaaacbabDoor.HL
end Go.Proofs.YtjpaichcaaacbabDoor.HL
namespace Go.Proofs.YtjpaichcaaacbabDoor.HL
end Go.Proofs.YtjpaichcaaacbabDoor.HL
section
set_option linter.unusedVariables false
set_option linter.unusedSimpArgs false
set_option linter.unusedSectionVars false
set_option maxHeartbeats 8000000
namespace Go.Proofs.YtjpaichcaaacbabDoor.HL
open Go Go.Proofs.YtjpaichcaaacbabDoorNum Go.Proofs.YtjpaichcaaacbabDoor.FEv
theorem addO (g o j : Nat) : (⟨g, o, none⟩ : Addr).add j = ⟨g, o + j, none⟩ := by unfold Addr.add; split <;> simp_all
/-- A circuit that lies within a variable. -/
def CAt (H : HH) (b o : Nat) (p : Int) (A : Option Addr) (n c : Nat) (A' : Option Addr) (n' c' : Nat) : Prop := ∀ j u, [Value.int .u64 p, .slice A n c, .slice A' n' c'][j]? = some u → cellH H ⟨b, o + j, none⟩ = some u
/-- A slice that lies within a variable. -/
def SAt (H : HH) (b o : Nat) (A : Option Addr) (n c : Nat) : Prop := cellH H ⟨b, o, none⟩ = some (.slice A n c)
theorem ftO (b o : Nat) : AQ Tryd.prog (Instr.fieldAt tCert (.pointer (some ⟨b, o, none⟩)) 0) (.pointer (some ⟨b, o, none⟩)) := by
  have := aq_fld (P := Tryd.prog) (s := tCert) (f := 0) (off := 0) (sz := 1) (by kernel_rfl) (by decide) ⟨b, o, none⟩
  rwa [addO] at this
section
variable {H H' : HH} {b o : Nat} {p : Int} {A A' : Option Addr} {n c n' c' : Nat}
theorem CAt.ext (h : CAt H b o p A n c A' n' c') (X : Ext H H') : CAt H' b o p A n c A' n' c' := fun j u hu => cellH_ext X (h j u hu)
theorem SAt.ext (h : SAt H b o A n c) (X : Ext H H') : SAt H' b o A n c := cellH_ext X h
theorem CAt.all (h : CAt H b o p A n c A' n' c') : QRun Tryd.prog (Instr.loadAt tC (.pointer (some ⟨b, o, none⟩))) H (.agg #[.int .u64 p, .slice A n c, .slice A' n' c']) :=
  q_lda (cs := [.int .u64 p, .slice A n c, .slice A' n' c']) (by kernel_rfl) (by kernel_rfl) (fun j u hu => by rw [addO]; exact h j u hu)
theorem SAt.cert (h : SAt H b o A n c) : QRun Tryd.prog (Instr.loadAt tCert (.pointer (some ⟨b, o, none⟩))) H (.agg #[.slice A n c]) :=
  q_lda (cs := [.slice A n c]) (by kernel_rfl) (by kernel_rfl) (fun j u hu => by
    rw [addO]
    match j, hu with
    | 0, hu => cases hu; exact h)
theorem SAt.ints (h : SAt H b o A n c) : QRun Tryd.prog (Instr.loadAt tInts (.pointer (some ⟨b, o, none⟩))) H (.slice A n c) := q_ld scInts h
end
section
end
end Go.Proofs.YtjpaichcaaacbabDoor.HL
end
section
set_option linter.unusedVariables false
set_option linter.unusedSimpArgs false
set_option linter.unusedSectionVars false
set_option maxHeartbeats 4000000
namespace Go.Proofs.YtjpaichcaaacbabDoor.HL
open Go Go.Proofs.YtjpaichcaaacbabDoorNum Go.Proofs.YtjpaichcaaacbabDoor.FEv
def chain (tt uu : List Int) (k : Int) : Int := if k ≥ 0 then uu.getD k.toNat 0 else k
def chainL (tt uu : List Int) : List Int := tt.map (chain tt uu)
theorem chain_get {tt uu : List Int} {i : Nat} (h : i < tt.length) : (chainL tt uu).getD i 0 = chain tt uu (tt.getD i 0) := by
  unfold chainL
  rw [List.getD_eq_getElem?_getD, List.getElem?_map, List.getElem?_eq_getElem h]
  simp [h]
theorem chain_pos {tt uu : List Int} {k : Int} (h : 0 ≤ k) : chain tt uu k = uu.getD k.toNat 0 := if_pos h
section
variable {P P' P'' : Int} {gs gs' gs'' : List Gate} {outs outs' outs'' tt uu : List Int}
theorem CK.comp (h : CK P gs outs P' gs' outs' tt) (k : CK P' gs' outs' P'' gs'' outs'' uu) (hnn : ∀ g ∈ gs, 0 ≤ g.k) : CK P gs outs P'' gs'' outs'' (chainL tt uu) := by
  have v := validB_iff.1 h.v
  have v' := validB_iff.1 h.v'
  have ll : (chainL tt uu).length = tt.length := by simp [chainL]
  have hrng : ∀ {i}, i < gs.length → -1 ≤ tt.getD i 0 ∧ tt.getD i 0 < (gs'.length : Int) := fun hi => h.rng _ (by rw [h.len]; exact hi)
  have krng : ∀ {i}, i < gs'.length → -1 ≤ uu.getD i 0 ∧ uu.getD i 0 < (gs''.length : Int) := fun hi => k.rng _ (by rw [k.len]; exact hi)
  refine ⟨h.v, k.v', h.p.trans k.p, by rw [ll]; exact h.len, h.olen.trans k.olen, fun i hi => ?_, h.inl.trans k.inl, fun i hi => ?_, fun i hi h1 ht => ?_, fun i hi => ?_⟩
  · rw [ll] at hi
    rw [chain_get hi]
    have := h.rng i hi
    unfold chain
    split
    · exact krng (by omega)
    · omega
  · have a := h.ins i hi
    have b := k.ins i (by rw [← h.inl]; exact hi)
    have lt := (inG_get hi).1
    rw [chain_get (by rw [h.len]; exact lt), a.1, chain_pos (by omega), Int.toNat_natCast]
    exact ⟨b.1, a.2.trans b.2⟩
  · rw [chain_get (by rw [h.len]; exact hi)] at ht ⊢
    have r := hrng hi
    have t0 : 0 ≤ tt.getD i 0 := by
      unfold chain at ht
      split at ht
      · assumption
      · exact ht
    rw [chain_pos t0] at ht ⊢
    have hq : (tt.getD i 0).toNat < gs'.length := by omega
    have c1 := h.cor i hi h1 t0
    have gk : (gs'.getD (tt.getD i 0).toNat gate0).kind = (gs.getD i gate0).kind := by
      unfold corrB at c1
      rw [Bool.and_eq_true, beq_iff_eq] at c1
      exact c1.1
    have c2 := k.cor _ hq (by rw [gk]; exact h1) ht
    have g1 := v.gok hnn hi
    have oA : sA (gs.getD i gate0).kind = true → ∀ y, y = (gs.getD i gate0).a.toNat → 0 ≤ tt.getD y 0 → (chainL tt uu).getD y 0 = uu.getD (tt.getD y 0).toNat 0 := fun sa y hy y0 => by
      have := g1.sideA sa
      rw [chain_get (by rw [h.len]; omega), chain_pos y0]
    have oB : sB (gs.getD i gate0).kind = true → ∀ y, y = (gs.getD i gate0).b.toNat → 0 ≤ tt.getD y 0 → (chainL tt uu).getD y 0 = uu.getD (tt.getD y 0).toNat 0 := fun sb y hy y0 => by
      have := g1.sideB sb
      rw [chain_get (by rw [h.len]; omega), chain_pos y0]
    generalize gs.getD i gate0 = g at *
    generalize gs'.getD (tt.getD i 0).toNat gate0 = g' at *
    generalize gs''.getD (uu.getD (tt.getD i 0).toNat 0).toNat gate0 = g'' at *
    clear h1
    unfold corrB at c1 c2 ⊢
    rw [gk] at c2
    simp only [Bool.and_eq_true, beq_iff_eq, Bool.or_eq_true, Bool.not_eq_true', decide_eq_true_eq] at c1 c2 ⊢
    obtain ⟨_, d2, d3⟩ := c1
    obtain ⟨e1, e2, e3⟩ := c2
    refine ⟨e1, by omega, ?_⟩
    cases sa : sA g.kind with
    | false => exact .inl rfl
    | true =>
    right
    rw [sa] at d3 e3
    simp only [Bool.true_eq_false, reduceCtorEq, false_or] at d3 e3
    obtain ⟨x0, d3⟩ := d3
    obtain ⟨x1, e3⟩ := e3
    have ea := oA sa _ rfl x0
    cases sb : sB g.kind with
    | false =>
      rw [sb] at d3 e3
      simp only [Bool.false_eq_true, if_false, beq_iff_eq] at d3 e3 ⊢
      rw [ea, ← d3]
      exact ⟨x1, e3⟩
    | true =>
      rw [sb] at d3 e3
      simp only [if_true, Bool.and_eq_true, beq_iff_eq, Bool.or_eq_true, decide_eq_true_eq] at d3 e3 ⊢
      obtain ⟨y0, d3⟩ := d3
      obtain ⟨y1, e3⟩ := e3
      have eb := oB sb _ rfl y0
      rw [ea, eb]
      rcases d3 with ⟨p1, p2⟩ | ⟨hc, p1, p2⟩
      · rw [← p1, ← p2]
        exact ⟨x1, y1, e3⟩
      · rw [← p1, ← p2]
        refine ⟨y1, x1, ?_⟩
        rcases e3 with ⟨q1, q2⟩ | ⟨_, q1, q2⟩
        · exact .inr ⟨hc, q1, q2⟩
        · exact .inl ⟨q1, q2⟩
  · have ho := v.outA hi
    have a := h.out i hi
    have ho' := v'.outA (i := i) (by rw [← h.olen]; exact hi)
    rw [chain_get (by rw [h.len]; omega), a, chain_pos ho'.1]
    exact k.out i (by rw [← h.olen]; exact hi)
end
end Go.Proofs.YtjpaichcaaacbabDoor.HL
end
section
set_option linter.unusedVariables false
set_option linter.unusedSimpArgs false
set_option linter.unusedSectionVars false
set_option maxHeartbeats 8000000
namespace Go.Proofs.YtjpaichcaaacbabDoor.HL
open Go Go.Proofs.YtjpaichcaaacbabDoorNum Go.Proofs.YtjpaichcaaacbabDoor.FEv
abbrev tChain : Nat := 30
theorem fy0 (b : Nat) : AQ Tryd.prog (Instr.fieldAt tChain (.pointer (some ⟨b, 0, none⟩)) 0) (.pointer (some ⟨b, 0, none⟩)) := by
  have := aq_fld (P := Tryd.prog) (s := tChain) (f := 0) (off := 0) (sz := 3) (by kernel_rfl) (by decide) ⟨b, 0, none⟩
  rwa [add0] at this
theorem fy1 (b : Nat) : AQ Tryd.prog (Instr.fieldAt tChain (.pointer (some ⟨b, 0, none⟩)) 1) (.pointer (some ⟨b, 3, none⟩)) := by
  have := aq_fld (P := Tryd.prog) (s := tChain) (f := 1) (off := 3) (sz := 3) (by kernel_rfl) (by decide) ⟨b, 0, none⟩
  rwa [add0] at this
theorem fy2 (b : Nat) : AQ Tryd.prog (Instr.fieldAt tChain (.pointer (some ⟨b, 0, none⟩)) 2) (.pointer (some ⟨b, 6, none⟩)) := by
  have := aq_fld (P := Tryd.prog) (s := tChain) (f := 2) (off := 6) (sz := 3) (by kernel_rfl) (by decide) ⟨b, 0, none⟩
  rwa [add0] at this
theorem fy3 (b : Nat) : AQ Tryd.prog (Instr.fieldAt tChain (.pointer (some ⟨b, 0, none⟩)) 3) (.pointer (some ⟨b, 9, none⟩)) := by
  have := aq_fld (P := Tryd.prog) (s := tChain) (f := 3) (off := 9) (sz := 1) (by kernel_rfl) (by decide) ⟨b, 0, none⟩
  rwa [add0] at this
theorem fy4 (b : Nat) : AQ Tryd.prog (Instr.fieldAt tChain (.pointer (some ⟨b, 0, none⟩)) 4) (.pointer (some ⟨b, 10, none⟩)) := by
  have := aq_fld (P := Tryd.prog) (s := tChain) (f := 4) (off := 10) (sz := 1) (by kernel_rfl) (by decide) ⟨b, 0, none⟩
  rwa [add0] at this
/-- A certificate's box and its own row. -/
structure T1 (base : Nat) (F H : HH) (tb : Nat) (At : Option Addr) (nt ct : Nat) (tl : List Int) : Prop where
  tbF : F tb = none
  tbB : base ≤ tb
  tk : TB H tb At nt ct
  ct : OwnZ base F H At nt ct tl
section
variable {base : Nat} {F H : HH} {tb : Nat} {At : Option Addr} {nt ct : Nat} {tl : List Int}
theorem T1.ext (h : T1 base F H tb At nt ct tl) : Ext F H := h.ct.ext
theorem T1.cttb (h : T1 base F H tb At nt ct tl) : (Value.slice At nt ct).ownBlock ≠ some tb := fun e => by
  obtain ⟨cu, hc⟩ := h.ct.tag e
  have := h.tk
  unfold TB at this
  rw [this] at hc
  exact absurd (cells_tag hc) (by decide)
theorem T1.push (h : T1 base F H tb At nt ct tl) (hl : nt ≤ 100000) (x : Int) {ty : Nat} {K : Unit → HH → Prop} (hk : ∀ A' c' H', T1 base F H' tb A' (nt + 1) c' (tl ++ [x]) → K () H') :
    HRun Tryd.prog base (Instr.buildSlice tInts 1 #[(0, .int .i64 x)]) H fun v1 H1 => ∃ (A1 : Option Addr) (l1 c1 : Nat), v1 = .slice A1 l1 c1 ∧ HRun Tryd.prog base (Builtin.append_ #[tInts, tInts] ty #[.slice At nt ct, .slice A1 l1 c1]) H1 fun v2 H2 => ∃ (A' : Option Addr) (l' c' : Nat), v2 = .slice A' l' c' ∧
      ∃ a, AQ Tryd.prog (Instr.fieldAt tCert (.pointer (some ⟨tb, 0, none⟩)) 0) (.pointer (some a)) ∧ HRun Tryd.prog base (Instr.storeAt tInts (.pointer (some a)) (.slice A' l' c')) H2 K :=
  h.ct.push hl x (C := fun A' l' c' H2 => ∃ a, AQ Tryd.prog (Instr.fieldAt tCert (.pointer (some ⟨tb, 0, none⟩)) 0) (.pointer (some a)) ∧ HRun Tryd.prog base (Instr.storeAt tInts (.pointer (some a)) (.slice A' l' c')) H2 K) (fun A' c' H2 o2 g2 => ⟨_, ft0 tb, by
    have tk2 : TB H2 tb At nt ct := g2.keep tb _ h.cttb h.tk
    have hO : (Value.slice A' (nt + 1) c').ownBlock ≠ some tb := fun e => by
      obtain ⟨cu, hc⟩ := o2.tag e
      unfold TB at tk2
      rw [tk2] at hc
      exact absurd (cells_tag hc) (by decide)
    exact h_st (by kernel_rfl) rfl tk2 h.tbB (show 0 < 1 by decide) (hk _ _ _ ⟨h.tbF, h.tbB, upd_self _ _ _, o2.same h.tbF hO (fun k hk => upd_ne _ hk)⟩)⟩)
end
section
variable {base : Nat} {H : HH} {K : Value → HH → Prop} {A A' B B' C C' T U : Option Addr} {n n' c c' m m' d d' q q' e e' nt ct nu cu : Nat} {P P' P'' : Int} {gs gs' gs'' : List Gate} {outs outs' outs'' tt uu : List Int}
theorem h_ybox (hk : ∀ b H', Ext H H' → CAt H' b 0 P A n c A' n' c' → CAt H' b 3 P' B m d B' m' d' → CAt H' b 6 P'' C q e C' q' e' → SAt H' b 9 T nt ct → SAt H' b 10 U nu cu → K (.pointer (some ⟨b, 0, none⟩)) H') :
    HRun Tryd.prog base (Instr.box tChain (.agg #[.int .u64 P, .slice A n c, .slice A' n' c', .int .u64 P', .slice B m d, .slice B' m' d', .int .u64 P'', .slice C q e, .slice C' q' e', .slice T nt ct, .slice U nu cu])) H K :=
  h_box (fun b hb hbase => hk b _ (Ext.upd hb _)
    (fun j u hu => by
      rw [cellH_blk (upd_self _ _ _)]
      match j, hu with
      | 0, hu => cases hu; rfl
      | 1, hu => cases hu; rfl
      | 2, hu => cases hu; rfl)
    (fun j u hu => by
      rw [cellH_blk (upd_self _ _ _)]
      match j, hu with
      | 0, hu => cases hu; rfl
      | 1, hu => cases hu; rfl
      | 2, hu => cases hu; rfl)
    (fun j u hu => by
      rw [cellH_blk (upd_self _ _ _)]
      match j, hu with
      | 0, hu => cases hu; rfl
      | 1, hu => cases hu; rfl
      | 2, hu => cases hu; rfl)
    (by unfold SAt; rw [cellH_blk (upd_self _ _ _)]; rfl) (by unfold SAt; rw [cellH_blk (upd_self _ _ _)]; rfl))
theorem law_OptimizeCertificatesCompose (hG : Gl H) (hg : Gs H A n gs) (ho : Outs H A' n' outs) (hnn : ∀ g ∈ gs, 0 ≤ g.k) (hg2 : Gs H B m gs') (ho2 : Outs H B' m' outs') (hnn2 : ∀ g ∈ gs', 0 ≤ g.k) (hg3 : Gs H C q gs'') (ho3 : Outs H C' q' outs'') (hnn3 : ∀ g ∈ gs'', 0 ≤ g.k) (ht : Outs H T nt tt) (hu : Outs H U nu uu) :
    HCall Tryd.prog base 3 #[.agg #[.int .u64 P, .slice A n c, .slice A' n' c', .int .u64 P', .slice B m d, .slice B' m' d', .int .u64 P'', .slice C q e, .slice C' q' e', .slice T nt ct, .slice U nu cu]] H fun v _ => v = .bool true := by
  refine privitylaw36_OptimizeCertificatesCompose.spec ?_
  unfold privitylaw36_OptimizeCertificatesCompose.sh
  have aw : ∀ {H' : HH}, Ext H H' → HCall Tryd.prog base 8 #[] H' (fun v H => ∃ b : Bool, v = .bool b ∧ Value.bool b = .bool true) := fun X => h_awake36 (hG.ext X) (fun _ _ => ⟨_, rfl, rfl⟩)
  refine h_ybox (fun xb H1 X1 c1 c2 c3 st su => ⟨_, rfl, _, fy0 xb, _, _, _, _, _, _, _, c1.all, h_few36 (hg.ext X1) (ho.ext X1) (fun f1 f2 H2 X2 => ⟨_, rfl, ?_⟩) (fun H2 X2 => ⟨_, rfl, ?_⟩)⟩)
  rotate_left
  · rw [if_neg (by decide)]
    exact aw (X1.trans X2)
  rw [if_pos (by decide)]
  have X12 := X1.trans X2
  refine ⟨_, fy1 xb, _, _, _, _, _, _, _, (c2.ext X2).all, h_few36 (hg2.ext X12) (ho2.ext X12) (fun f3 f4 H3 X3 => ⟨_, rfl, ?_⟩) (fun H3 X3 => ⟨_, rfl, ?_⟩)⟩
  rotate_left
  · rw [if_neg (by decide)]
    exact aw (X12.trans X3)
  rw [if_pos (by decide)]
  have X13 := X12.trans X3
  refine ⟨_, fy2 xb, _, _, _, _, _, _, _, ((c3.ext X2).ext X3).all, h_few36 (hg3.ext X13) (ho3.ext X13) (fun f5 f6 H4 X4 => ⟨_, rfl, ?_⟩) (fun H4 X4 => ⟨_, rfl, ?_⟩)⟩
  rotate_left
  · rw [if_neg (by decide)]
    exact aw (X13.trans X4)
  rw [if_pos (by decide)]
  have X14 := X13.trans X4
  have X24 := X2.trans (X3.trans X4)
  have c14 := c1.ext X24
  have c24 := c2.ext X24
  have c34 := c3.ext X24
  have st4 := st.ext X24
  have su4 := su.ext X24
  refine ⟨_, fy3 xb, _, ftO xb 9, _, _, _, st4.ints, ?_⟩
  by_cases hl : ((nt : Nat) : Int) > 70
  · rw [if_neg (by rw [decide_eq_true hl]; decide)]
    exact aw X14
  rw [if_pos (decide_eq_false hl)]
  refine ⟨_, fy4 xb, _, ftO xb 10, _, _, _, su4.ints, ?_⟩
  by_cases hl2 : ((nu : Nat) : Int) > 70
  · rw [if_neg (by rw [decide_eq_true hl2]; decide)]
    exact aw X14
  rw [if_pos (decide_eq_false hl2)]
  have e1 := hg.1
  have e2 := ho.1
  have e3 := hg2.1
  have e4 := ho2.1
  have e5 := hg3.1
  have e6 := ho3.1
  have C1 : Circ H4 A n gs A' n' outs := ⟨hg.ext X14, ho.ext X14, hnn, by omega, by omega⟩
  have C2 : Circ H4 B m gs' B' m' outs' := ⟨hg2.ext X14, ho2.ext X14, hnn2, by omega, by omega⟩
  have C3 : Circ H4 C q gs'' C' q' outs'' := ⟨hg3.ext X14, ho3.ext X14, hnn3, by omega, by omega⟩
  have t4 := ht.ext X14
  have u4 := hu.ext X14
  refine ⟨_, fy0 xb, _, _, _, _, _, _, _, c14.all, _, fy1 xb, _, _, _, _, _, _, _, c24.all, _, fy3 xb, _, _, _, st4.cert, h_check (hG.ext X14) C1 C2 t4 (fun ck H5 X5 => ⟨_, rfl, ?_⟩) (fun ck H5 X5 => ⟨_, rfl, ?_⟩)⟩
  rotate_left
  · rw [if_neg (by decide)]
    exact aw (X14.trans X5)
  rw [if_pos (by decide)]
  have X15 := X14.trans X5
  refine ⟨_, fy1 xb, _, _, _, _, _, _, _, (c24.ext X5).all, _, fy2 xb, _, _, _, _, _, _, _, (c34.ext X5).all, _, fy4 xb, _, _, _, (su4.ext X5).cert, h_check (hG.ext X15) (C2.ext X5) (C3.ext X5) (u4.ext X5) (fun ck' H6 X6 => ⟨_, rfl, ?_⟩) (fun ck' H6 X6 => ⟨_, rfl, ?_⟩)⟩
  rotate_left
  · rw [if_pos (by decide)]
    exact aw (X15.trans X6)
  rw [if_neg (by decide)]
  have X16 := X15.trans X6
  have X46 := X5.trans X6
  refine h_alloc (z := .agg #[.slice none 0 0]) (by kernel_rfl) (fun tb tn tB => ⟨_, rfl, ?_⟩)
  have E7 : Ext H6 (upd H6 tb (.cells (Value.agg #[.slice none 0 0]).cells tCert (0, 0))) := Ext.upd tn _
  have tk7 : TB (upd H6 tb (.cells (Value.agg #[.slice none 0 0]).cells tCert (0, 0))) tb none 0 0 := upd_self _ _ _
  generalize upd H6 tb (.cells (Value.agg #[.slice none 0 0]).cells tCert (0, 0)) = H7 at E7 tk7 ⊢
  have S : T1 base H6 H7 tb none 0 0 ((chainL tt uu).take 0) := ⟨tn, tB, tk7, OwnZ.nil' E7⟩
  have c16 := c14.ext X46
  have c36 := c34.ext X46
  have st6 := st4.ext X46
  have su6 := su4.ext X46
  have t6 := t4.ext X46
  have u6 := u4.ext X46
  have C16 := C1.ext X46
  have C36 := C3.ext X46
  have lt := t6.1
  have lu := u6.1
  have ll : (chainL tt uu).length = tt.length := by simp [chainL]
  have k1 := ck.len
  have k2 := ck'.len
  have rng := ck.rng
  refine privitylaw36_OptimizeCertificatesCompose.loop0 (fun k y H' => ∃ j : Nat, y = j ∧ j ≤ tt.length ∧ k = tt.length - j ∧ ∃ At ct, T1 base H6 H' tb At j ct ((chainL tt uu).take j)) tt.length ⟨0, rfl, Nat.zero_le _, rfl, _, _, S⟩ ?_
  clear S E7 tk7 c14 c24 c34 st4 su4 t4 u4 C1 C2 C3 st su c1 c2 c3 X1 X2 X3 X4 X5 X6 X12 X13 X14 X15 X24
  rintro k y fr H8 ⟨j, rfl, hj, rfl, At, ct', S⟩
  unfold privitylaw36_OptimizeCertificatesCompose.B0
  have X8 := S.ext
  refine ⟨_, fy3 xb, _, ftO xb 9, _, _, _, (st6.ext X8).ints, ?_⟩
  by_cases hlt : j < tt.length
  rotate_left
  · rw [if_neg (fun h => hlt (by have := of_decide_eq_true h; omega))]
    obtain rfl : j = tt.length := by omega
    rw [List.take_of_length_le (by omega)] at S
    refine h_awake36 (hG.ext (X16.trans X8)) (fun H9 X9 => ⟨_, rfl, ?_⟩)
    rw [if_pos rfl]
    have X89 := X8.trans X9
    refine ⟨_, fy0 xb, _, _, _, _, _, _, _, (c16.ext X89).all, _, fy2 xb, _, _, _, _, _, _, _, (c36.ext X89).all, _, _, _, (S.tk.ext X9).all, ?_⟩
    exact h_check (hG.ext (X16.trans X89)) (C16.ext X89) (C36.ext X89) (S.ct.row.ext X9) (fun _ H10 X10 => ⟨_, rfl, rfl⟩) (fun h => absurd (ck.comp ck' hnn) h)
  rw [if_pos (decide_eq_true (by omega))]
  obtain ⟨a, q1, q2⟩ := (t6.ext X8).at ct (i := j) (by omega)
  have r := rng j hlt
  have fin : ∀ N0 : Value → HH → Prop, (∀ A4 c4 H4, T1 base H6 H4 tb A4 (j + 1) c4 ((chainL tt uu).take (j + 1)) → N0 (.int .i64 (IntKind.i64.wrap ((j : Int) + 1))) H4) → ∀ x, x = chain tt uu (tt.getD j 0) → privitylaw36_OptimizeCertificatesCompose.R0 base N0 [.pointer (some ⟨xb, 0, none⟩), .pointer (some ⟨tb, 0, none⟩), .int .i64 (j : Int), .int .i64 x] H8 (fun v H => v = .bool true) := fun N0 hN x hx => by
    refine privitylaw36_OptimizeCertificatesCompose.cut0 ?_
    unfold privitylaw36_OptimizeCertificatesCompose.T0 privitylaw36_OptimizeCertificatesCompose.S0
    refine ⟨_, ft0 tb, _, _, _, S.tk.to, S.push (by omega) _ (fun A4 c4 H4 S4 => hN A4 c4 H4 ?_)⟩
    have e : (chainL tt uu).take (j + 1) = (chainL tt uu).take j ++ [x] := by
      rw [List.take_add_one, List.getElem?_eq_getElem (by omega), hx]
      have := chain_get (tt := tt) (uu := uu) hlt
      rw [← this]
      simp [show j < (chainL tt uu).length by omega]
    rw [e]; exact S4
  refine ⟨_, fy3 xb, _, ftO xb 9, _, _, _, (st6.ext X8).ints, a, q1, _, q2, _, fy4 xb, _, ftO xb 10, _, _, _, (su6.ext X8).ints, ?_⟩
  rw [if_neg (fun h => by have := of_decide_eq_true h; omega)]
  have nx : IntKind.i64.wrap ((j : Int) + 1) = ((j + 1 : Nat) : Int) := nxt (n := 1000000) (by omega) (by decide)
  by_cases h0 : tt.getD j 0 ≥ 0
  · rw [if_pos (decide_eq_true h0)]
    obtain ⟨a2, q3, q4⟩ := (u6.ext X8).ix cu h0 (by omega)
    refine ⟨_, fy4 xb, _, ftO xb 10, _, _, _, (su6.ext X8).ints, a2, q3, _, q4, ?_⟩
    exact fin _ (fun A4 c4 H4 S4 => ⟨tt.length - j - 1, by omega, _, rfl, j + 1, nx, by omega, by omega, _, _, S4⟩) _ (chain_pos h0).symm
  · rw [if_neg (fun h => h0 (of_decide_eq_true h))]
    exact fin _ (fun A4 c4 H4 S4 => ⟨tt.length - j - 1, by omega, _, rfl, j + 1, nx, by omega, by omega, _, _, S4⟩) _ (if_neg h0).symm
end
end Go.Proofs.YtjpaichcaaacbabDoor.HL
end

/- Part L of: The statement OptimizeCertificateSound: the law answers true whatever its arguments; no condition. -/
import Derived.Test.YtjpaichcaaacbabDoorZOptimizeCertificateSoundK
section
set_option linter.unusedVariables false
set_option linter.unusedSimpArgs false
set_option linter.unusedSectionVars false
set_option maxHeartbeats 8000000
namespace Go.Proofs.YtjpaichcaaacbabDoor.HL
open Go Go.Proofs.YtjpaichcaaacbabDoorNum Go.Proofs.YtjpaichcaaacbabDoor.FEv
abbrev ex1 : List Gate := [⟨1, 1, 0, 0, 0⟩, ⟨1, 1, 0, 0, 0⟩, ⟨3, 0, 0, 1, 0⟩, ⟨3, 0, 1, 0, 0⟩, ⟨6, 0, 2, 3, 0⟩]
abbrev wa1 : List Gate := [⟨1, 1, 0, 0, 0⟩, ⟨1, 1, 0, 0, 0⟩, ⟨3, 0, 0, 1, 0⟩, ⟨6, 0, 2, 2, 0⟩]
section
variable {base : Nat} {H : HH} {K : Value → HH → Prop} {A A' B B' : Option Addr} {n n' m m' c c' d d' : Nat} {P P' : Int} {gs gs' : List Gate} {outs outs' : List Int}
theorem rd_blk {gb T : Nat} {z : Nat × Nat} {cs : Array Value} {xs : List Value} (h : H gb = some (.cells cs T z)) (e : cs.toList = xs) : Rd H (some ⟨gb, 0, none⟩) xs :=
  .inr ⟨_, rfl, fun i u hu => by rw [add0, cellH_blk h, ← Array.getElem?_toList, e]; exact hu⟩
theorem lit_g5 {C : Value → HH → Prop} (hk : ∀ gb H', Ext H H' → H gb = none → H' gb = some (.cells (gc ex1).toArray tGate (0, 0)) → C (.slice (some ⟨gb, 0, none⟩) 5 5) H') : HRun Tryd.prog base (Instr.buildSlice tGates 5 #[(0, .agg #[.int .i64 1, .int .i64 1, .int .i64 0, .int .i64 0, .int .u64 0]), (1, .agg #[.int .i64 1, .int .i64 1, .int .i64 0, .int .i64 0, .int .u64 0]), (2, .agg #[.int .i64 3, .int .i64 0, .int .i64 0, .int .i64 1, .int .u64 0]), (3, .agg #[.int .i64 3, .int .i64 0, .int .i64 1, .int .i64 0, .int .u64 0]), (4, .agg #[.int .i64 6, .int .i64 0, .int .i64 2, .int .i64 3, .int .u64 0])]) H C := by
  have hfill : Instr.fill (fun i => some (i * 5, 5)) (madeCells (Value.agg (gv gate0).toArray).cells (5 * 5)) [(0, .agg #[.int .i64 1, .int .i64 1, .int .i64 0, .int .i64 0, .int .u64 0]), (1, .agg #[.int .i64 1, .int .i64 1, .int .i64 0, .int .i64 0, .int .u64 0]), (2, .agg #[.int .i64 3, .int .i64 0, .int .i64 0, .int .i64 1, .int .u64 0]), (3, .agg #[.int .i64 3, .int .i64 0, .int .i64 1, .int .i64 0, .int .u64 0]), (4, .agg #[.int .i64 6, .int .i64 0, .int .i64 2, .int .i64 3, .int .u64 0])] = some (gc ex1).toArray := by kernel_rfl
  exact h_lit (sz := 5) (z := .agg (gv gate0).toArray) (cs := (gc ex1).toArray) unGates (by kernel_rfl) (by decide) hfill (by decide) (fun gb hgb hbase => hk _ _ (Ext.upd hgb _) hgb (upd_self _ _ _))
theorem lit_gw {C : Value → HH → Prop} (hk : ∀ A' H', Ext H H' → Gs H' A' 4 wa1 → C (.slice A' 4 4) H') : HRun Tryd.prog base (Instr.buildSlice tGates 4 #[(0, .agg #[.int .i64 1, .int .i64 1, .int .i64 0, .int .i64 0, .int .u64 0]), (1, .agg #[.int .i64 1, .int .i64 1, .int .i64 0, .int .i64 0, .int .u64 0]), (2, .agg #[.int .i64 3, .int .i64 0, .int .i64 0, .int .i64 1, .int .u64 0]), (3, .agg #[.int .i64 6, .int .i64 0, .int .i64 2, .int .i64 2, .int .u64 0])]) H C := by
  have hfill : Instr.fill (fun i => some (i * 5, 5)) (madeCells (Value.agg (gv gate0).toArray).cells (4 * 5)) [(0, .agg #[.int .i64 1, .int .i64 1, .int .i64 0, .int .i64 0, .int .u64 0]), (1, .agg #[.int .i64 1, .int .i64 1, .int .i64 0, .int .i64 0, .int .u64 0]), (2, .agg #[.int .i64 3, .int .i64 0, .int .i64 0, .int .i64 1, .int .u64 0]), (3, .agg #[.int .i64 6, .int .i64 0, .int .i64 2, .int .i64 2, .int .u64 0])] = some (gc wa1).toArray := by kernel_rfl
  exact h_lit (sz := 5) (z := .agg (gv gate0).toArray) (cs := (gc wa1).toArray) unGates (by kernel_rfl) (by decide) hfill (by decide) (fun gb hgb hbase => hk _ _ (Ext.upd hgb _) ⟨rfl, rd_blk (upd_self _ _ _) rfl⟩)
theorem lit_o1b {x : Int} {C : Value → HH → Prop} (hk : ∀ gb H', Ext H H' → H gb = none → H' gb = some (.cells #[.int .i64 x] 3 (0, 0)) → C (.slice (some ⟨gb, 0, none⟩) 1 1) H') : HRun Tryd.prog base (Instr.buildSlice tInts 1 #[(0, .int .i64 x)]) H C := by
  have hfill : Instr.fill (fun i => some (i * 1, 1)) (madeCells (Value.int .i64 0).cells (1 * 1)) [(0, .int .i64 x)] = some #[.int .i64 x] := by kernel_rfl
  exact h_lit (sz := 1) (z := .int .i64 0) (cs := #[.int .i64 x]) unInts (by kernel_rfl) (by decide) hfill (by decide) (fun gb hgb hbase => hk _ _ (Ext.upd hgb _) hgb (upd_self _ _ _))
theorem lit_o5 {x y z u v : Int} {C : Value → HH → Prop} (hk : ∀ A' H', Ext H H' → Outs H' A' 5 [x, y, z, u, v] → C (.slice A' 5 5) H') : HRun Tryd.prog base (Instr.buildSlice tInts 5 #[(0, .int .i64 x), (1, .int .i64 y), (2, .int .i64 z), (3, .int .i64 u), (4, .int .i64 v)]) H C := by
  have hfill : Instr.fill (fun i => some (i * 1, 1)) (madeCells (Value.int .i64 0).cells (5 * 1)) [(0, .int .i64 x), (1, .int .i64 y), (2, .int .i64 z), (3, .int .i64 u), (4, .int .i64 v)] = some #[.int .i64 x, .int .i64 y, .int .i64 z, .int .i64 u, .int .i64 v] := by kernel_rfl
  exact h_lit (sz := 1) (z := .int .i64 0) (cs := #[.int .i64 x, .int .i64 y, .int .i64 z, .int .i64 u, .int .i64 v]) unInts (by kernel_rfl) (by decide) hfill (by decide) (fun gb hgb hbase => hk _ _ (Ext.upd hgb _) ⟨rfl, rd_blk (upd_self _ _ _) rfl⟩)
theorem q_res1 {l : List Value} {x : Nat} {p : Int} (h2 : l[0]? = some (.pointer (some ⟨x, 0, none⟩))) (hx : CB H x p A n c A' n' c') :
    QRun Tryd.prog (results Tryd.f18 l.toArray) H (.agg #[.int .u64 p, .slice A n c, .slice A' n' c']) := fun W hs => by
  have er : Tryd.f18.results = #[.cell 0 tC] := by kernel_rfl
  have hl := hx.all W hs
  simp only [Instr.loadAt, Instr.sureAddr] at hl
  have e2 : l.toArray.getD 0 undef = .pointer (some ⟨x, 0, none⟩) := by simp [Array.getD_eq_getD_getElem?, h2]
  unfold results
  rw [er]
  simp_all [asAddr]
theorem h_example (hk : ∀ A1 A2 H', Ext H H' → Circ H' A1 5 ex1 A2 1 [4] → K (.agg #[.int .u64 31, .slice A1 5 5, .slice A2 1 1]) H') : HCall Tryd.prog base 18 #[] H K := by
  refine privitylaw36_example.spec ?_
  unfold privitylaw36_example.sh
  refine h_alloc (z := .agg #[.int .u64 0, .slice none 0 0, .slice none 0 0]) (by kernel_rfl) (fun rb rn rbase => ⟨_, rfl, ?_⟩)
  have E1 : Ext H (upd H rb (.cells (Value.agg #[.int .u64 0, .slice none 0 0, .slice none 0 0]).cells tC (0, 0))) := Ext.upd rn _
  have e1 : (upd H rb (.cells (Value.agg #[.int .u64 0, .slice none 0 0, .slice none 0 0]).cells tC (0, 0))) rb = some _ := upd_self _ _ _
  generalize upd H rb (.cells (Value.agg #[.int .u64 0, .slice none 0 0, .slice none 0 0]).cells tC (0, 0)) = H1 at E1 e1 ⊢
  refine ⟨_, _, _, _, _, (show AQ Tryd.prog (Instr.build tGate #[(0, .int .i64 1), (1, .int .i64 1)]) (.agg #[.int .i64 1, .int .i64 1, .int .i64 0, .int .i64 0, .int .u64 0]) from fun W => by kernel_rfl), _, _, _, _, _, (show AQ Tryd.prog (Instr.build tGate #[(0, .int .i64 1), (1, .int .i64 1)]) (.agg #[.int .i64 1, .int .i64 1, .int .i64 0, .int .i64 0, .int .u64 0]) from fun W => by kernel_rfl), _, _, _, _, _, (show AQ Tryd.prog (Instr.build tGate #[(0, .int .i64 3), (2, .int .i64 0), (3, .int .i64 1)]) (.agg #[.int .i64 3, .int .i64 0, .int .i64 0, .int .i64 1, .int .u64 0]) from fun W => by kernel_rfl), _, _, _, _, _, (show AQ Tryd.prog (Instr.build tGate #[(0, .int .i64 3), (2, .int .i64 1), (3, .int .i64 0)]) (.agg #[.int .i64 3, .int .i64 0, .int .i64 1, .int .i64 0, .int .u64 0]) from fun W => by kernel_rfl), _, _, _, _, _, (show AQ Tryd.prog (Instr.build tGate #[(0, .int .i64 6), (2, .int .i64 2), (3, .int .i64 3)]) (.agg #[.int .i64 6, .int .i64 0, .int .i64 2, .int .i64 3, .int .u64 0]) from fun W => by kernel_rfl), ?_⟩
  refine lit_g5 (fun gb H2 X2 gn g2 => ⟨_, _, _, rfl, lit_o1b (fun ob H3 X3 on o3 => ⟨_, _, _, rfl, _, _, _, _, _, _, _, (show AQ Tryd.prog (Instr.build tC #[(0, .int .u64 31), (1, .slice (some ⟨gb, 0, none⟩) 5 5), (2, .slice (some ⟨ob, 0, none⟩) 1 1)]) (.agg #[.int .u64 31, .slice (some ⟨gb, 0, none⟩) 5 5, .slice (some ⟨ob, 0, none⟩) 1 1]) from fun W => by kernel_rfl), ?_⟩)⟩)
  have R3 := X3 _ _ (X2 _ _ e1)
  have g3 := X3 _ _ g2
  refine h_sta (old := (Value.agg #[.int .u64 0, .slice none 0 0, .slice none 0 0]).cells) (vs := [.int .u64 31, .slice (some ⟨gb, 0, none⟩) 5 5, .slice (some ⟨ob, 0, none⟩) 1 1]) (by kernel_rfl) rfl R3 rbase rfl ?_
  have n1 : gb ≠ rb := fun e => by rw [e, R3] at g3; exact absurd (cells_tag g3) (by decide)
  have n2 : ob ≠ rb := fun e => by rw [e, R3] at o3; exact absurd (cells_tag o3) (by decide)
  refine ⟨_, q_res1 rfl (upd_self _ _ _), hk _ _ _ (ext_same (E1.trans (X2.trans X3)) rn (fun k hk => upd_ne _ hk)) ⟨⟨rfl, rd_blk (by rw [upd_ne _ n1]; exact g3) rfl⟩, ⟨rfl, rd_blk (by rw [upd_ne _ n2]; exact o3) rfl⟩, by decide, by decide, by decide⟩⟩
/-- Two circuits are compared. -/
theorem h_equal32 (h1 : Circ H A n gs A' n' outs) (h2 : Circ H B m gs' B' m' outs') (hk1 : P = P' ∧ gs = gs' ∧ outs = outs' → ∀ H', Ext H H' → K (.bool true) H') (hk2 : ¬ (P = P' ∧ gs = gs' ∧ outs = outs') → ∀ H', Ext H H' → K (.bool false) H') :
    HCall Tryd.prog base 19 #[.agg #[.int .u64 P, .slice A n c, .slice A' n' c'], .agg #[.int .u64 P', .slice B m d, .slice B' m' d']] H K := by
  refine privityref32_Equal.spec ?_
  unfold privityref32_Equal.sh
  refine h_cbox (fun xb H1 X1 cb => ⟨_, rfl, h_cbox (fun yb H2 X2 db => ⟨_, rfl, ?_⟩)⟩)
  have X := X1.trans X2
  have cb := cb.ext X2
  have c1 := h1.ext X
  have c2 := h2.ext X
  obtain rfl := h1.g.1
  obtain rfl := h1.o.1
  obtain rfl := h2.g.1
  obtain rfl := h2.o.1
  have lg := h1.lg
  have lo := h1.lo
  refine ⟨_, fc0 xb, _, cb.qp, _, fc0 yb, _, db.qp, ?_⟩
  by_cases eP : P = P'
  rotate_left
  · rw [if_neg (by simpa using eP)]
    exact hk2 (fun h => eP h.1) H2 X
  rw [if_pos (by simpa using eP)]
  refine ⟨_, fc1 xb, _, _, _, cb.qgs, _, fc1 yb, _, _, _, db.qgs, ?_⟩
  by_cases eL : gs.length = gs'.length
  rotate_left
  · rw [if_neg (by rw [Bool.not_eq_false, bne_iff_ne]; omega)]
    exact hk2 (fun h => eL (by rw [h.2.1])) H2 X
  rw [if_pos (by rw [eL]; simp)]
  refine ⟨_, fc2 xb, _, _, _, cb.qouts, _, fc2 yb, _, _, _, db.qouts, ?_⟩
  by_cases eO : outs.length = outs'.length
  rotate_left
  · rw [if_pos (by rw [bne_iff_ne]; omega)]
    exact hk2 (fun h => eO (by rw [h.2.2])) H2 X
  rw [if_neg (by rw [eO]; simp)]
  refine privityref32_Equal.loop0 (fun r y H' => H' = H2 ∧ ∃ j : Nat, y = j ∧ j ≤ gs.length ∧ r = gs.length - j ∧ ∀ t, t < j → gs.getD t gate0 = gs'.getD t gate0) gs.length ⟨rfl, 0, rfl, Nat.zero_le _, rfl, fun t h => by omega⟩ ?_
  rintro r y fr H3 ⟨rfl, j, rfl, hj, rfl, hall⟩
  unfold privityref32_Equal.B0
  refine ⟨_, fc1 xb, _, _, _, cb.qgs, ?_⟩
  by_cases hlt : j < gs.length
  · rw [if_pos (decide_eq_true (by omega))]
    obtain ⟨a1, q1, q2⟩ := c1.g.at c hlt
    obtain ⟨a2, q3, q4⟩ := c2.g.at d (i := j) (by omega)
    refine ⟨_, fc1 xb, _, _, _, cb.qgs, a1, q1, _, _, _, _, _, q2.all, _, fc1 yb, _, _, _, db.qgs, a2, q3, _, _, _, _, _, q4.all, _, aq_neqg _ _, ?_⟩
    by_cases e2 : gs.getD j gate0 = gs'.getD j gate0
    rotate_left
    · rw [if_pos (decide_eq_true e2)]
      exact hk2 (fun h => e2 (by rw [h.2.1])) H3 X
    rw [if_neg (fun h => (of_decide_eq_true h) e2)]
    exact ⟨gs.length - j - 1, by omega, _, rfl, rfl, j + 1, nxt (n := 1000000) (by omega) (by decide), by omega, by omega, all_succ hall e2⟩
  rw [if_neg (fun h => hlt (by have := of_decide_eq_true h; omega))]
  obtain rfl : j = gs.length := by omega
  have eg : gs = gs' := by
    apply List.ext_getElem eL
    intro t h1 h2
    have := hall t h1
    simpa [h1, h2] using this
  refine privityref32_Equal.loop1 (fun r y H' => H' = H3 ∧ ∃ j : Nat, y = j ∧ j ≤ outs.length ∧ r = outs.length - j ∧ ∀ t, t < j → outs.getD t 0 = outs'.getD t 0) outs.length ⟨rfl, 0, rfl, Nat.zero_le _, rfl, fun t h => by omega⟩ ?_
  rintro r y fr H4 ⟨rfl, j, rfl, hj, rfl, hall2⟩
  unfold privityref32_Equal.B1
  refine ⟨_, fc2 xb, _, _, _, cb.qouts, ?_⟩
  by_cases hlt : j < outs.length
  · rw [if_pos (decide_eq_true (by omega))]
    obtain ⟨a1, q1, q2⟩ := c1.o.at c' hlt
    obtain ⟨a2, q3, q4⟩ := c2.o.at d' (i := j) (by omega)
    refine ⟨_, fc2 xb, _, _, _, cb.qouts, a1, q1, _, q2, _, fc2 yb, _, _, _, db.qouts, a2, q3, _, q4, ?_⟩
    by_cases e2 : outs.getD j 0 = outs'.getD j 0
    rotate_left
    · rw [if_pos (by rw [bne_iff_ne]; exact e2)]
      exact hk2 (fun h => e2 (by rw [h.2.2])) H4 X
    rw [if_neg (by rw [e2]; simp)]
    exact ⟨outs.length - j - 1, by omega, _, rfl, rfl, j + 1, nxt (n := 1000000) (by omega) (by decide), by omega, by omega, all_succ hall2 e2⟩
  rw [if_neg (fun h => hlt (by have := of_decide_eq_true h; omega))]
  obtain rfl : j = outs.length := by omega
  have eo : outs = outs' := by
    apply List.ext_getElem eO
    intro t h1 h2
    have := hall2 t h1
    simpa [h1, h2] using this
  exact hk1 ⟨eP, eg, eo⟩ H4 X
theorem h_few36 (hg : Gs H A n gs) (ho : Outs H A' n' outs) (hk1 : gs.length ≤ 60 → outs.length ≤ 60 → ∀ H', Ext H H' → K (.bool true) H') (hk2 : ∀ H', Ext H H' → K (.bool false) H') :
    HCall Tryd.prog base 6 #[.agg #[.int .u64 P, .slice A n c, .slice A' n' c']] H K := by
  refine privitylaw36_few.spec ?_
  unfold privitylaw36_few.sh
  obtain rfl := hg.1
  obtain rfl := ho.1
  refine h_cbox (fun xb H1 X1 cb => ⟨_, rfl, _, fc1 xb, _, _, _, cb.qgs, ?_⟩)
  by_cases e1 : gs.length ≤ 60
  rotate_left
  · rw [if_neg (fun h => e1 (by have := of_decide_eq_true h; omega))]
    exact hk2 H1 X1
  rw [if_pos (decide_eq_true (by omega))]
  refine ⟨_, fc2 xb, _, _, _, cb.qouts, ?_⟩
  by_cases e2 : outs.length ≤ 60
  · rw [decide_eq_true (by omega : ((outs.length : Nat) : Int) ≤ 60)]
    exact hk1 e1 e2 H1 X1
  · rw [decide_eq_false (by omega : ¬ ((outs.length : Nat) : Int) ≤ 60)]
    exact hk2 H1 X1
end
theorem ex_ck : CK 31 ex1 [4] 31 wa1 [3] [0, 1, 2, 2, 3] := ⟨by decide +kernel, by decide +kernel, rfl, rfl, rfl, by decide, by decide, by decide, by decide, by decide⟩
theorem nil_ck : CK 31 [] [] 31 [] [] [] := ⟨by decide +kernel, by decide +kernel, rfl, rfl, rfl, by decide, by decide, by decide, by decide, by decide⟩
theorem circ_nil (H : HH) : Circ H none 0 [] none 0 [] := ⟨⟨rfl, .inl rfl⟩, ⟨rfl, .inl rfl⟩, by decide, by decide, by decide⟩
section
variable {base : Nat} {H : HH} {K : Value → HH → Prop}
theorem h_awake36 (hG : Gl H) (hk : ∀ H', Ext H H' → K (.bool true) H') : HCall Tryd.prog base 8 #[] H K := by
  refine privitylaw36_awake.spec ?_
  unfold privitylaw36_awake.sh
  refine h_example (fun A1 A2 H1 X1 ce => ⟨_, _, _, _, _, _, _, rfl, h_optimize (by unfold WF; decide) (by decide) ce (fun B1 n1 c1 B2 c2 B3 c3 H2 X2 og hc1 oo ot => ⟨_, _, _, _, _, _, _, _, _, _, rfl, ?_⟩)⟩)
  have eG : optG ex1 [4] = wa1 := by decide +kernel
  have eO : optO ex1 [4] = [3] := by decide +kernel
  have eT : optT ex1 [4] = [0, 1, 2, 2, 3] := by decide +kernel
  rw [eG] at og
  rw [eO] at oo
  rw [eT] at ot
  obtain rfl := og.1
  refine h_alloc (z := .agg #[.int .u64 0, .slice none 0 0, .slice none 0 0]) (by kernel_rfl) (fun rb rn rbase => ⟨_, rfl, h_alloc (z := .agg #[.slice none 0 0]) (by kernel_rfl) (fun tb tn tbase => ⟨_, rfl, ?_⟩)⟩)
  have hne : tb ≠ rb := fun e => by rw [e, upd_self] at tn; cases tn
  have tn' : H2 tb = none := by rwa [upd_ne _ hne] at tn
  have E2 : Ext H2 (upd (upd H2 rb (.cells (Value.agg #[.int .u64 0, .slice none 0 0, .slice none 0 0]).cells tC (0, 0))) tb (.cells (Value.agg #[.slice none 0 0]).cells tCert (0, 0))) := (Ext.upd rn _).trans (Ext.upd tn _)
  refine h_sta (old := (Value.agg #[.int .u64 0, .slice none 0 0, .slice none 0 0]).cells) (vs := [.int .u64 31, .slice B1 4 c1, .slice B2 1 c2]) (by kernel_rfl) rfl (by rw [upd_ne _ (fun e => hne e.symm)]; exact upd_self _ _ _) rbase rfl ?_
  have E3 := ext_same E2 rn (H4 := upd _ rb (.cells [.int .u64 31, .slice B1 4 c1, .slice B2 1 c2].toArray tC (0, 0))) (fun k hk => upd_ne _ hk)
  refine h_sta (old := (Value.agg #[.slice none 0 0]).cells) (vs := [.slice B3 5 c3]) (by kernel_rfl) rfl (by rw [upd_ne _ hne]; exact upd_self _ _ _) tbase rfl ?_
  have E4 := ext_same E3 tn' (H4 := upd _ tb (.cells [.slice B3 5 c3].toArray tCert (0, 0))) (fun k hk => upd_ne _ hk)
  have cv : CB (upd (upd (upd (upd H2 rb (.cells (Value.agg #[.int .u64 0, .slice none 0 0, .slice none 0 0]).cells tC (0, 0))) tb (.cells (Value.agg #[.slice none 0 0]).cells tCert (0, 0))) rb (.cells [.int .u64 31, .slice B1 4 c1, .slice B2 1 c2].toArray tC (0, 0))) tb (.cells [.slice B3 5 c3].toArray tCert (0, 0))) rb 31 B1 4 c1 B2 1 c2 := by
    unfold CB
    rw [upd_ne _ (fun e => hne e.symm)]; exact upd_self _ _ _
  have tv : TB (upd (upd (upd (upd H2 rb (.cells (Value.agg #[.int .u64 0, .slice none 0 0, .slice none 0 0]).cells tC (0, 0))) tb (.cells (Value.agg #[.slice none 0 0]).cells tCert (0, 0))) rb (.cells [.int .u64 31, .slice B1 4 c1, .slice B2 1 c2].toArray tC (0, 0))) tb (.cells [.slice B3 5 c3].toArray tCert (0, 0))) tb B3 5 c3 := upd_self _ _ _
  generalize upd (upd (upd (upd H2 rb (.cells (Value.agg #[.int .u64 0, .slice none 0 0, .slice none 0 0]).cells tC (0, 0))) tb (.cells (Value.agg #[.slice none 0 0]).cells tCert (0, 0))) rb (.cells [.int .u64 31, .slice B1 4 c1, .slice B2 1 c2].toArray tC (0, 0))) tb (.cells [.slice B3 5 c3].toArray tCert (0, 0)) = H3 at E4 cv tv ⊢
  have X03 := X1.trans (X2.trans E4)
  have co : Circ H3 B1 4 wa1 B2 1 [3] := ⟨og.ext E4, oo.ext E4, by decide, by decide, by decide⟩
  have ot3 : Outs H3 B3 5 [0, 1, 2, 2, 3] := ot.ext E4
  have G3 := hG.ext X03
  clear og oo ot E2 E3 E4 eG eO eT X2 X1 hG ce
  refine ⟨_, _, _, _, _, (show AQ Tryd.prog (Instr.build tGate #[(0, .int .i64 1), (1, .int .i64 1)]) (.agg #[.int .i64 1, .int .i64 1, .int .i64 0, .int .i64 0, .int .u64 0]) from fun W => by kernel_rfl), _, _, _, _, _, (show AQ Tryd.prog (Instr.build tGate #[(0, .int .i64 1), (1, .int .i64 1)]) (.agg #[.int .i64 1, .int .i64 1, .int .i64 0, .int .i64 0, .int .u64 0]) from fun W => by kernel_rfl), _, _, _, _, _, (show AQ Tryd.prog (Instr.build tGate #[(0, .int .i64 3), (2, .int .i64 0), (3, .int .i64 1)]) (.agg #[.int .i64 3, .int .i64 0, .int .i64 0, .int .i64 1, .int .u64 0]) from fun W => by kernel_rfl), _, _, _, _, _, (show AQ Tryd.prog (Instr.build tGate #[(0, .int .i64 6), (2, .int .i64 2), (3, .int .i64 2)]) (.agg #[.int .i64 6, .int .i64 0, .int .i64 2, .int .i64 2, .int .u64 0]) from fun W => by kernel_rfl), ?_⟩
  refine lit_gw (fun D1 H4 X4 dg => ⟨_, _, _, rfl, lit_o1 (fun D2 H5 X5 do_ => ⟨_, _, _, rfl, _, _, _, _, _, _, _, (show AQ Tryd.prog (Instr.build tC #[(0, .int .u64 31), (1, .slice D1 4 4), (2, .slice D2 1 1)]) (.agg #[.int .u64 31, .slice D1 4 4, .slice D2 1 1]) from fun W => by kernel_rfl), h_cvar (fun db H6 X6 dv => ?_)⟩)⟩)
  have X36 := X4.trans (X5.trans X6)
  have cw : Circ H6 D1 4 wa1 D2 1 [3] := ⟨dg.ext (X5.trans X6), do_.ext X6, by decide, by decide, by decide⟩
  refine ⟨_, _, _, _, _, _, _, (cv.ext X36).all, _, _, _, _, _, _, _, dv.all, h_equal32 (co.ext X36) cw (fun _ H7 X7 => ⟨_, rfl, ?_⟩) (fun h => absurd ⟨rfl, rfl, rfl⟩ h)⟩
  rw [if_pos rfl]
  have X37 := X36.trans X7
  refine ⟨_, ft0 tb, _, _, _, (tv.ext X37).to, lit_o5 (fun D3 H8 X8 l5 => ⟨_, _, _, rfl, ((tv.ext X37).ext X8).to, h_ints ((ot3.ext X37).ext X8) l5 (by decide) ⟨_, rfl, ?_⟩⟩)⟩
  rw [if_pos (by decide)]
  have X38 := X37.trans X8
  refine ⟨_, _, _, _, _, _, _, (cv.ext X38).all, _, _, _, (tv.ext X38).all, h_example (fun A4 A5 H9 X9 ce => ⟨_, _, _, _, _, _, _, rfl, ((tv.ext X38).ext X9).all, ((cv.ext X38).ext X9).all, ?_⟩)⟩
  have X39 := X38.trans X9
  refine h_check (G3.ext X39) ce (co.ext X39) (ot3.ext X39) (fun _ H10 X10 => ⟨_, rfl, ?_⟩) (fun h => absurd ex_ck h)
  rw [if_pos rfl]
  have X310 := X39.trans X10
  refine ⟨_, _, _, _, _, _, _, (cv.ext X310).all, _, _, _, (show AQ Tryd.prog (Instr.build tCert #[]) (.agg #[.slice none 0 0]) from fun W => by kernel_rfl), h_example (fun A6 A7 H11 X11 ce' => ⟨_, _, _, _, _, _, _, rfl, ((cv.ext X310).ext X11).all, ?_⟩)⟩
  have X311 := X310.trans X11
  refine h_check (G3.ext X311) ce' (co.ext X311) (Outs.none _) (fun h => absurd h.len (by decide)) (fun _ H12 X12 => ⟨_, rfl, ?_⟩)
  rw [if_pos (by decide)]
  have X312 := X311.trans X12
  refine ⟨_, _, _, _, _, _, _, (show AQ Tryd.prog (Instr.build tC #[(0, .int .u64 31)]) (.agg #[.int .u64 31, .slice none 0 0, .slice none 0 0]) from fun W => by kernel_rfl), _, _, _, _, _, _, _, (show AQ Tryd.prog (Instr.build tC #[(0, .int .u64 31)]) (.agg #[.int .u64 31, .slice none 0 0, .slice none 0 0]) from fun W => by kernel_rfl), _, _, _, (show AQ Tryd.prog (Instr.build tCert #[]) (.agg #[.slice none 0 0]) from fun W => by kernel_rfl), ?_⟩
  refine h_check (G3.ext X312) (circ_nil _) (circ_nil _) (Outs.none _) (fun _ H13 X13 => ⟨_, rfl, hk H13 (X03.trans (X312.trans X13))⟩) (fun h => absurd nil_ck h)
end
end Go.Proofs.YtjpaichcaaacbabDoor.HL
end
namespace Go.Proofs.YtjpaichcaaacbabDoor.HL
end Go.Proofs.YtjpaichcaaacbabDoor.HL
namespace Go.Proofs.YtjpaichcaaacbabDoor.HL
end Go.Proofs.YtjpaichcaaacbabDoor.HL
section
set_option linter.unusedVariables false
set_option linter.unusedSimpArgs false
set_option linter.unusedSectionVars false
set_option maxHeartbeats 8000000
namespace Go.Proofs.YtjpaichcaaacbabDoor.HL
open Go Go.Proofs.YtjpaichcaaacbabDoorNum Go.Proofs.YtjpaichcaaacbabDoor.FEv
section
variable {base : Nat} {H : HH} {A A' T : Option Addr} {n n' c c' nt ct : Nat} {P : Int} {gs : List Gate} {outs tt : List Int}
theorem VOK.outs' {gs : List Gate} {outs : List Int} (h : VOK P gs outs) : ∀ i, i < outs.length → 0 ≤ outs.getD i 0 ∧ outs.getD i 0 < (gs.length : Int) := fun i hi => h.outA hi
end
end Go.Proofs.YtjpaichcaaacbabDoor.HL
end
section
set_option linter.unusedVariables false
set_option linter.unusedSimpArgs false
set_option linter.unusedSectionVars false
set_option maxHeartbeats 4000000
namespace Go.Proofs.YtjpaichcaaacbabDoor.HL
open Go Go.Proofs.YtjpaichcaaacbabDoorNum Go.Proofs.YtjpaichcaaacbabDoor.FEv
/-- The input gates, in their order. -/
def sq (gs : List Gate) (n : Nat) : List Gate := (inG gs n).map fun i => gs.getD i gate0
theorem sq_succ (gs : List Gate) (n : Nat) : sq gs (n + 1) = if (gs.getD n gate0).kind = 1 then sq gs n ++ [gs.getD n gate0] else sq gs n := by
  unfold sq
  rw [inG_succ]
  by_cases h : (gs.getD n gate0).kind = 1
  · rw [if_pos h, if_pos h, List.map_append]; rfl
  · rw [if_neg h, if_neg h]
def cntS (s : List Gate) (party : Int) : Nat := (s.filter fun g => g.frm == party).length
theorem cnt_sq (gs : List Gate) (party : Int) : ∀ n, n ≤ gs.length → cnt gs n party = cntS (sq gs n) party
  | 0, _ => by simp [cnt, cntS, sq, inG]
  | n + 1, h => by
    have ih := cnt_sq gs party n (by omega)
    rw [cnt_succ (by omega), ih, sq_succ]
    by_cases k1 : (gs.getD n gate0).kind = 1
    · rw [if_pos k1]
      unfold cntS
      rw [List.filter_append, List.length_append]
      congr 1
      unfold isIn
      rw [k1]
      cases hf : ((gs.getD n gate0).frm == party) with
      | true => simp only [List.filter_cons, hf]; rfl
      | false => simp only [List.filter_cons, hf]; rfl
    · rw [if_neg k1, isIn_not k1]; rfl
def badS (s : List Gate) (l : List Int) (party : Int) : Bool := (List.range s.length).any fun j => (s.getD j gate0).frm == party && (s.getD j gate0).k == 1 && decide (l.getD (cntS (s.take j) party) 0 > 1)
theorem any_congrN {n : Nat} {p q : Nat → Bool} (h : ∀ j, j < n → p j = q j) : (List.range n).any p = (List.range n).any q := by
  rw [Bool.eq_iff_iff, List.any_eq_true, List.any_eq_true]
  constructor
  · rintro ⟨x, h1, h2⟩
    exact ⟨x, h1, by rw [← h x (List.mem_range.1 h1)]; exact h2⟩
  · rintro ⟨x, h1, h2⟩
    exact ⟨x, h1, by rw [h x (List.mem_range.1 h1)]; exact h2⟩
theorem badS_snoc (s : List Gate) (g : Gate) (l : List Int) (party : Int) : badS (s ++ [g]) l party = (badS s l party || (g.frm == party && g.k == 1 && decide (l.getD (cntS s party) 0 > 1))) := by
  unfold badS
  rw [List.length_append, List.length_singleton, List.range_succ, List.any_append, List.any_cons, List.any_nil, Bool.or_false]
  have e1 : (s ++ [g]).getD s.length gate0 = g := by
    rw [List.getD_eq_getElem?_getD, List.getElem?_append_right (Nat.le_refl _), Nat.sub_self]; rfl
  rw [e1, List.take_append_of_le_length (Nat.le_refl _), List.take_length]
  congr 1
  refine any_congrN (fun j hj => ?_)
  have e2 : (s ++ [g]).getD j gate0 = s.getD j gate0 := by
    rw [List.getD_eq_getElem?_getD, List.getD_eq_getElem?_getD, List.getElem?_append_left hj]
  rw [e2, List.take_append_of_le_length (by omega)]
theorem badR_sq (gs : List Gate) (l : List Int) (party : Int) : ∀ n, n ≤ gs.length → badR gs l party n = badS (sq gs n) l party
  | 0, _ => by simp [badR, badS, sq, inG]
  | n + 1, h => by
    have ih := badR_sq gs l party n (by omega)
    rw [badR_succ, ih, sq_succ, cnt_sq gs party n (by omega)]
    unfold isBit
    by_cases k1 : (gs.getD n gate0).kind = 1
    · rw [if_pos k1, badS_snoc]
      unfold isIn
      rw [k1]
      simp
    · rw [if_neg k1, isIn_not k1]
      simp
theorem inG_take (gs : List Gate) {j : Nat} : ∀ {n : Nat}, j < (inG gs n).length → inG gs ((inG gs n).getD j 0) = (inG gs n).take j
  | 0, h => by simp [inG] at h
  | n + 1, h => by
    rw [inG_succ] at h ⊢
    by_cases k1 : (gs.getD n gate0).kind = 1
    · rw [if_pos k1] at h ⊢
      rcases Nat.lt_or_ge j (inG gs n).length with h1 | h1
      · rw [List.getD_eq_getElem?_getD, List.getElem?_append_left h1, ← List.getD_eq_getElem?_getD, inG_take gs h1, List.take_append_of_le_length (by omega)]
      · rw [List.length_append, List.length_singleton] at h
        have hj : j = (inG gs n).length := by omega
        rw [List.getD_eq_getElem?_getD, List.getElem?_append_right (by omega), hj, Nat.sub_self, List.take_append_of_le_length (Nat.le_refl _), List.take_length]
        rfl
    · rw [if_neg k1] at h ⊢
      exact inG_take gs h
theorem sq_take (gs : List Gate) {j n : Nat} (h : j < (inG gs n).length) : sq gs ((inG gs n).getD j 0) = (sq gs n).take j := by
  unfold sq
  rw [inG_take gs h, List.map_take]
theorem inG_at {gs : List Gate} {n i : Nat} (hi : i < n) (h1 : (gs.getD i gate0).kind = 1) : ∃ j, j < (inG gs n).length ∧ (inG gs n).getD j 0 = i := by
  have hm : i ∈ inG gs n := by
    unfold inG
    rw [List.mem_filter]
    exact ⟨List.mem_range.2 hi, by rw [h1]; rfl⟩
  obtain ⟨j, hj, e⟩ := List.mem_iff_getElem.1 hm
  exact ⟨j, hj, by simp [hj, e]⟩
section
variable {P P' : Int} {gs gs' : List Gate} {outs outs' tt : List Int} {ins : List (List Int)}
theorem CK.sq_eq (h : CK P gs outs P' gs' outs' tt) : sq gs gs.length = sq gs' gs'.length := by
  unfold sq
  apply List.ext_getElem (by rw [List.length_map, List.length_map]; exact h.inl)
  intro j h1 h2
  rw [List.length_map] at h1 h2
  have := (h.ins j h1).2
  simpa [h1, h2] using this
theorem CK.cnt_eq (h : CK P gs outs P' gs' outs' tt) (party : Int) : cnt gs gs.length party = cnt gs' gs'.length party := by
  rw [cnt_sq gs party _ (Nat.le_refl _), cnt_sq gs' party _ (Nat.le_refl _), h.sq_eq]
theorem CK.eff_eq (h : CK P gs outs P' gs' outs' tt) (ins : List (List Int)) : effL gs ins = effL gs' ins := by
  unfold effL effR
  congr 1
  funext j
  rw [badR_sq gs _ _ _ (Nat.le_refl _), badR_sq gs' _ _ _ (Nat.le_refl _), h.sq_eq]
theorem mem_sq {gs : List Gate} {g : Gate} (hg : g ∈ gs) (h1 : g.kind = 1) : g ∈ sq gs gs.length := by
  obtain ⟨i, hi, e⟩ := List.mem_iff_getElem.1 hg
  have eg : gs.getD i gate0 = g := by simp [hi, e]
  unfold sq
  refine List.mem_map.2 ⟨i, ?_, eg⟩
  unfold inG
  rw [List.mem_filter]
  exact ⟨List.mem_range.2 hi, by rw [eg, h1]; rfl⟩
theorem sq_mem {gs : List Gate} {g : Gate} (h : g ∈ sq gs gs.length) : g ∈ gs ∧ g.kind = 1 := by
  unfold sq at h
  obtain ⟨i, hi, rfl⟩ := List.mem_map.1 h
  obtain ⟨h1, h2⟩ := inG_mem hi
  exact ⟨getD_memG h1, h2⟩
theorem CK.fits1 (h : CK P gs outs P' gs' outs' tt) (hf : fitsB P gs ins = true) : fitsB P' gs' ins = true := by
  obtain ⟨f1, f2⟩ := fitsB_iff.1 hf
  refine fitsB_iff.2 ⟨fun g hg h1 => ?_, fun j hj => ?_⟩
  · have := mem_sq hg h1
    rw [← h.sq_eq] at this
    obtain ⟨h2, h3⟩ := sq_mem this
    exact f1 g h2 h3
  · rw [← h.cnt_eq, ← h.p]; exact f2 j hj
theorem CK.fits2 (h : CK P gs outs P' gs' outs' tt) (hf : fitsB P' gs' ins = true) : fitsB P gs ins = true := by
  obtain ⟨f1, f2⟩ := fitsB_iff.1 hf
  refine fitsB_iff.2 ⟨fun g hg h1 => ?_, fun j hj => ?_⟩
  · have := mem_sq hg h1
    rw [h.sq_eq] at this
    obtain ⟨h2, h3⟩ := sq_mem this
    exact f1 g h2 h3
  · rw [h.cnt_eq, h.p]; exact f2 j hj
end
section
variable {p : Nat} [NeZero p] {gs gs' : List Gate} {outs outs' tt : List Int} {ins : List (List Int)}
theorem CK.vals (h : CK p gs outs p gs' outs' tt) (hnn : ∀ g ∈ gs, 0 ≤ g.k) (hnn' : ∀ g ∈ gs', 0 ≤ g.k) : ∀ i, i < gs.length → 0 ≤ tt.getD i 0 → cf (evL gs (ef p gs ins) gs.length) i = cf (evL gs' (ef p gs' ins) gs'.length) (tt.getD i 0).toNat := by
  have hw : ef p gs' ins = ef p gs ins := by unfold ef; rw [h.eff_eq ins]
  rw [hw]
  generalize ef p gs ins = w
  have v := validB_iff.1 h.v
  have v' := validB_iff.1 h.v'
  intro i
  induction i using Nat.strongRecOn with
  | _ i ih =>
  intro hi ht
  have hr := (h.rng i (by rw [h.len]; exact hi)).2
  have hq : (tt.getD i 0).toNat < gs'.length := by omega
  rw [evL_cf hi, evL_cf hq]
  have g1 := v.gok hnn hi
  have g2 := v'.gok hnn' hq
  have opI : ∀ {z : Int}, 0 ≤ z → z < i → 0 ≤ tt.getD z.toNat 0 → cf (evL gs w i) z.toNat = cf (evL gs' w gs'.length) (tt.getD z.toNat 0).toNat := fun {z} z0 z1 zt => by
    rw [evL_old (show z.toNat < i by omega) (Nat.le_of_lt hi)]
    exact ih _ (by omega) (by omega) zt
  have opN : ∀ {z : Int}, 0 ≤ z → z < ((tt.getD i 0).toNat : Int) → cf (evL gs' w (tt.getD i 0).toNat) z.toNat = cf (evL gs' w gs'.length) z.toNat := fun {z} z0 z1 => evL_old (by omega) (Nat.le_of_lt hq)
  by_cases k1 : (gs.getD i gate0).kind = 1
  · obtain ⟨j, hj, ej⟩ := inG_at hi k1
    obtain ⟨h1, h2⟩ := h.ins j hj
    rw [ej] at h1 h2
    have e : (tt.getD i 0).toNat = (inG gs' gs'.length).getD j 0 := by omega
    have k1' : (gs'.getD (tt.getD i 0).toNat gate0).kind = 1 := by rw [e, ← h2]; exact k1
    unfold stepV
    rw [if_pos k1, if_pos k1']
    have ec : cnt gs i (gs.getD i gate0).frm = cnt gs' (tt.getD i 0).toNat (gs.getD i gate0).frm := by
      rw [cnt_sq gs _ _ (Nat.le_of_lt hi), cnt_sq gs' _ _ (Nat.le_of_lt hq), e]
      have s1 := sq_take gs hj
      have s2 := sq_take gs' (j := j) (n := gs'.length) (by rw [← h.inl]; exact hj)
      rw [ej] at s1
      rw [s1, s2, h.sq_eq]
    rw [e, ← h2, ← e, ec]
  have hc := h.cor i hi k1 ht
  unfold corrB at hc
  simp only [Bool.and_eq_true, beq_iff_eq, Bool.or_eq_true, Bool.not_eq_true', decide_eq_true_eq] at hc
  obtain ⟨c1, c2, c3⟩ := hc
  generalize hg : gs.getD i gate0 = g at *
  generalize hg' : gs'.getD (tt.getD i 0).toNat gate0 = g' at *
  unfold stepV
  rw [hg, hg', c1]
  rw [if_neg k1, if_neg k1]
  by_cases k2 : g.kind = 2
  · rw [if_pos k2, if_pos k2, c2]
  rw [if_neg k2, if_neg k2]
  have kk := g1.kinds
  have sa : sA g.kind = true := by
    unfold sA
    simp only [Bool.or_eq_true, beq_iff_eq]
    omega
  rcases c3 with c3 | ⟨x0, c3⟩
  · rw [sa] at c3; cases c3
  obtain ⟨a0, a1⟩ := g1.sideA sa
  obtain ⟨a0', a1'⟩ := g2.sideA (by rw [c1]; exact sa)
  by_cases sb : sB g.kind = true
  · rw [if_pos sb] at c3
    simp only [Bool.and_eq_true, beq_iff_eq, Bool.or_eq_true, decide_eq_true_eq] at c3
    obtain ⟨y0, c3⟩ := c3
    obtain ⟨b0, b1⟩ := g1.sideB sb
    obtain ⟨b0', b1'⟩ := g2.sideB (by rw [c1]; exact sb)
    rw [opI a0 a1 x0, opI b0 b1 y0, opN a0' a1', opN b0' b1']
    rcases c3 with ⟨d1, d2⟩ | ⟨hcm, d1, d2⟩
    · rw [d1, d2]
      by_cases k5 : g.kind = 5
      · rw [k5] at sb; cases sb
      · rw [if_neg k5, if_neg k5]
    · rw [d1, d2]
      unfold cm at hcm
      simp only [Bool.or_eq_true, beq_iff_eq] at hcm
      rcases hcm with k3 | k6
      · rw [if_pos k3, if_pos k3]; grind
      · have n3 : ¬ g.kind = 3 := by omega
        have n4 : ¬ g.kind = 4 := by omega
        have n5 : ¬ g.kind = 5 := by omega
        rw [if_neg n3, if_neg n3, if_neg n4, if_neg n4, if_neg n5, if_neg n5]; grind
  · have k5 : g.kind = 5 := by
      have : ¬ (g.kind = 3 ∨ (g.kind = 4 ∨ g.kind = 6)) := fun h => sb (by unfold sB; simp only [Bool.or_eq_true, beq_iff_eq]; exact h)
      omega
    rw [if_neg sb] at c3
    have d1 : g'.a = tt.getD g.a.toNat 0 := by simpa using c3
    have n3 : ¬ g.kind = 3 := by omega
    have n4 : ¬ g.kind = 4 := by omega
    rw [if_neg n3, if_neg n3, if_neg n4, if_neg n4, if_pos k5, if_pos k5, opI a0 a1 x0, opN a0' a1', d1, c2]
theorem CK.outL_eq (h : CK p gs outs p gs' outs' tt) (hnn : ∀ g ∈ gs, 0 ≤ g.k) (hnn' : ∀ g ∈ gs', 0 ≤ g.k) : outL outs (evL gs (ef p gs ins) gs.length) = outL outs' (evL gs' (ef p gs' ins) gs'.length) := by
  have v := validB_iff.1 h.v
  have v' := validB_iff.1 h.v'
  unfold outL
  apply List.ext_getElem (by rw [List.length_map, List.length_map]; exact h.olen)
  intro i h1 h2
  rw [List.length_map] at h1 h2
  rw [List.getElem_map, List.getElem_map]
  have e1 : outs.getD i 0 = outs[i] := by simp [h1]
  have e2 : outs'.getD i 0 = outs'[i] := by simp [h2]
  have ho := v.outA h1
  have ho' := v'.outA h2
  have hh := h.out i h1
  rw [← e1, ← e2]
  rw [h.vals hnn hnn' _ (by omega) (by omega), hh]
end
end Go.Proofs.YtjpaichcaaacbabDoor.HL
end
namespace Go.Proofs.YtjpaichcaaacbabDoor.HL
end Go.Proofs.YtjpaichcaaacbabDoor.HL
section
set_option linter.unusedVariables false
set_option linter.unusedSimpArgs false
set_option linter.unusedSectionVars false
set_option maxHeartbeats 8000000
namespace Go.Proofs.YtjpaichcaaacbabDoor.HL
open Go Go.Proofs.YtjpaichcaaacbabDoorNum Go.Proofs.YtjpaichcaaacbabDoor.FEv
theorem addO (g o j : Nat) : (⟨g, o, none⟩ : Addr).add j = ⟨g, o + j, none⟩ := by unfold Addr.add; split <;> simp_all
/-- A circuit that lies within a variable. -/
def CAt (H : HH) (b o : Nat) (p : Int) (A : Option Addr) (n c : Nat) (A' : Option Addr) (n' c' : Nat) : Prop := ∀ j u, [Value.int .u64 p, .slice A n c, .slice A' n' c'][j]? = some u → cellH H ⟨b, o + j, none⟩ = some u
/-- A slice that lies within a variable. -/
def SAt (H : HH) (b o : Nat) (A : Option Addr) (n c : Nat) : Prop := cellH H ⟨b, o, none⟩ = some (.slice A n c)
theorem ftO (b o : Nat) : AQ Tryd.prog (Instr.fieldAt tCert (.pointer (some ⟨b, o, none⟩)) 0) (.pointer (some ⟨b, o, none⟩)) := by
  have := aq_fld (P := Tryd.prog) (s := tCert) (f := 0) (off := 0) (sz := 1) (by kernel_rfl) (by decide) ⟨b, o, none⟩
  rwa [addO] at this
section
variable {H H' : HH} {b o : Nat} {p : Int} {A A' : Option Addr} {n c n' c' : Nat}
theorem CAt.ext (h : CAt H b o p A n c A' n' c') (X : Ext H H') : CAt H' b o p A n c A' n' c' := fun j u hu => cellH_ext X (h j u hu)
theorem SAt.ext (h : SAt H b o A n c) (X : Ext H H') : SAt H' b o A n c := cellH_ext X h
theorem CAt.all (h : CAt H b o p A n c A' n' c') : QRun Tryd.prog (Instr.loadAt tC (.pointer (some ⟨b, o, none⟩))) H (.agg #[.int .u64 p, .slice A n c, .slice A' n' c']) :=
  q_lda (cs := [.int .u64 p, .slice A n c, .slice A' n' c']) (by kernel_rfl) (by kernel_rfl) (fun j u hu => by rw [addO]; exact h j u hu)
theorem SAt.cert (h : SAt H b o A n c) : QRun Tryd.prog (Instr.loadAt tCert (.pointer (some ⟨b, o, none⟩))) H (.agg #[.slice A n c]) :=
  q_lda (cs := [.slice A n c]) (by kernel_rfl) (by kernel_rfl) (fun j u hu => by
    rw [addO]
    match j, hu with
    | 0, hu => cases hu; exact h)
theorem SAt.ints (h : SAt H b o A n c) : QRun Tryd.prog (Instr.loadAt tInts (.pointer (some ⟨b, o, none⟩))) H (.slice A n c) := q_ld scInts h
theorem SAt.mat (h : SAt H b o A n c) : QRun Tryd.prog (Instr.loadAt 35 (.pointer (some ⟨b, o, none⟩))) H (.slice A n c) := q_ld (by kernel_rfl) h
end
abbrev tCase : Nat := 46
theorem fz0 (b : Nat) : AQ Tryd.prog (Instr.fieldAt tCase (.pointer (some ⟨b, 0, none⟩)) 0) (.pointer (some ⟨b, 0, none⟩)) := by
  have := aq_fld (P := Tryd.prog) (s := tCase) (f := 0) (off := 0) (sz := 3) (by kernel_rfl) (by decide) ⟨b, 0, none⟩
  rwa [add0] at this
theorem fz1 (b : Nat) : AQ Tryd.prog (Instr.fieldAt tCase (.pointer (some ⟨b, 0, none⟩)) 1) (.pointer (some ⟨b, 3, none⟩)) := by
  have := aq_fld (P := Tryd.prog) (s := tCase) (f := 1) (off := 3) (sz := 3) (by kernel_rfl) (by decide) ⟨b, 0, none⟩
  rwa [add0] at this
theorem fz2 (b : Nat) : AQ Tryd.prog (Instr.fieldAt tCase (.pointer (some ⟨b, 0, none⟩)) 2) (.pointer (some ⟨b, 6, none⟩)) := by
  have := aq_fld (P := Tryd.prog) (s := tCase) (f := 2) (off := 6) (sz := 1) (by kernel_rfl) (by decide) ⟨b, 0, none⟩
  rwa [add0] at this
theorem fz3 (b : Nat) : AQ Tryd.prog (Instr.fieldAt tCase (.pointer (some ⟨b, 0, none⟩)) 3) (.pointer (some ⟨b, 7, none⟩)) := by
  have := aq_fld (P := Tryd.prog) (s := tCase) (f := 3) (off := 7) (sz := 1) (by kernel_rfl) (by decide) ⟨b, 0, none⟩
  rwa [add0] at this
section
variable {base : Nat} {H : HH} {K : Value → HH → Prop} {A A' B B' T I : Option Addr} {n n' c c' m m' d d' nt ct ni ci : Nat} {P P' : Int} {gs gs' : List Gate} {outs outs' tt : List Int} {ins : List (List Int)}
theorem h_zbox (hk : ∀ b H', Ext H H' → CAt H' b 0 P A n c A' n' c' → CAt H' b 3 P' B m d B' m' d' → SAt H' b 6 T nt ct → SAt H' b 7 I ni ci → K (.pointer (some ⟨b, 0, none⟩)) H') :
    HRun Tryd.prog base (Instr.box tCase (.agg #[.int .u64 P, .slice A n c, .slice A' n' c', .int .u64 P', .slice B m d, .slice B' m' d', .slice T nt ct, .slice I ni ci])) H K :=
  h_box (fun b hb hbase => hk b _ (Ext.upd hb _)
    (fun j u hu => by
      rw [cellH_blk (upd_self _ _ _)]
      match j, hu with
      | 0, hu => cases hu; rfl
      | 1, hu => cases hu; rfl
      | 2, hu => cases hu; rfl)
    (fun j u hu => by
      rw [cellH_blk (upd_self _ _ _)]
      match j, hu with
      | 0, hu => cases hu; rfl
      | 1, hu => cases hu; rfl
      | 2, hu => cases hu; rfl)
    (by unfold SAt; rw [cellH_blk (upd_self _ _ _)]; rfl) (by unfold SAt; rw [cellH_blk (upd_self _ _ _)]; rfl))
theorem law_OptimizeCertificateSound (hG : Gl H) (hT : GT H) (hg : Gs H A n gs) (hcg : n ≤ c) (ho : Outs H A' n' outs) (hnn : ∀ g ∈ gs, 0 ≤ g.k) (hg2 : Gs H B m gs') (hcg2 : m ≤ d) (ho2 : Outs H B' m' outs') (hnn2 : ∀ g ∈ gs', 0 ≤ g.k) (ht : Outs H T nt tt) (hi : MatC H I ni ins) (hni : ∀ l ∈ ins, ∀ x ∈ l, 0 ≤ x) :
    HCall Tryd.prog base 5 #[.agg #[.int .u64 P, .slice A n c, .slice A' n' c', .int .u64 P', .slice B m d, .slice B' m' d', .slice T nt ct, .slice I ni ci]] H fun v _ => v = .bool true := by
  refine privitylaw36_OptimizeCertificateSound.spec ?_
  unfold privitylaw36_OptimizeCertificateSound.sh
  refine h_zbox (fun xb H1 X1 c1 c2 st si => ⟨_, rfl, _, fz0 xb, _, _, _, _, _, _, _, c1.all, _, fz3 xb, _, _, _, si.mat, h_few (hg.ext X1) (ho.ext X1) (hi.ext X1).mat 60 (fun few H2 X2 => ⟨_, rfl, ?_⟩) (fun H2 X2 => ⟨_, rfl, ?_⟩)⟩)
  rotate_left
  · rw [if_neg (by decide)]
    exact h_awake36 (hG.ext (X1.trans X2)) (fun _ _ => ⟨_, rfl, rfl⟩)
  rw [if_pos (by decide)]
  have X12 := X1.trans X2
  refine ⟨_, fz1 xb, _, _, _, _, _, _, _, (c2.ext X2).all, h_few36 (hg2.ext X12) (ho2.ext X12) (fun f1 f2 H3 X3 => ⟨_, rfl, ?_⟩) (fun H3 X3 => ⟨_, rfl, ?_⟩)⟩
  rotate_left
  · rw [if_neg (by decide)]
    exact h_awake36 (hG.ext (X12.trans X3)) (fun _ _ => ⟨_, rfl, rfl⟩)
  rw [if_pos (by decide)]
  have X13 := X12.trans X3
  have c13 := (c1.ext X2).ext X3
  have c23 := (c2.ext X2).ext X3
  have st3 := (st.ext X2).ext X3
  have si3 := (si.ext X2).ext X3
  refine ⟨_, fz2 xb, _, ftO xb 6, _, _, _, st3.ints, ?_⟩
  by_cases hl : ((nt : Nat) : Int) > 70
  · rw [if_neg (by rw [decide_eq_true hl]; decide)]
    exact h_awake36 (hG.ext X13) (fun _ _ => ⟨_, rfl, rfl⟩)
  rw [if_pos (decide_eq_false hl)]
  have fg := few.gates
  have fo := few.outsL
  have C1 : Circ H3 A n gs A' n' outs := ⟨hg.ext X13, ho.ext X13, hnn, by omega, by omega⟩
  have C2 : Circ H3 B m gs' B' m' outs' := ⟨hg2.ext X13, ho2.ext X13, hnn2, by have := hg2.1; omega, by have := ho2.1; omega⟩
  refine ⟨_, fz0 xb, _, _, _, _, _, _, _, c13.all, _, fz1 xb, _, _, _, _, _, _, _, c23.all, _, fz2 xb, _, _, _, st3.cert, h_check (hG.ext X13) C1 C2 (ht.ext X13) (fun ck H4 X4 => ⟨_, rfl, ?_⟩) (fun ck H4 X4 => ⟨_, rfl, ?_⟩)⟩
  rotate_left
  · rw [if_pos (by decide)]
    exact h_awake36 (hG.ext (X13.trans X4)) (fun _ _ => ⟨_, rfl, rfl⟩)
  rw [if_neg (by decide)]
  have X14 := X13.trans X4
  have c14 := c13.ext X4
  have c24 := c23.ext X4
  have st4 := st3.ext X4
  have si4 := si3.ext X4
  have G4 := hG.ext X14
  have I1 : In33 H4 A n gs A' n' outs I ni ins := ⟨hG.ext X14, hT.ext X14, hg.ext X14, ho.ext X14, hi.ext X14, hnn, hni, few.gates, few.outsL, few.parties, few.rows⟩
  have I2 : In33 H4 B m gs' B' m' outs' I ni ins := ⟨hG.ext X14, hT.ext X14, hg2.ext X14, ho2.ext X14, hi.ext X14, hnn2, hni, by have := hg2.1; omega, by have := ho2.1; omega, few.parties, few.rows⟩
  have t4 := ht.ext X14
  clear hG hT hg ho hi hg2 ho2 ht C1 C2 c13 c23 st3 si3 c1 c2 st si X1 X2 X3 X4 X12 X13 X14
  obtain rfl := ck.p
  refine ok_split (P := P) (gs := gs) (outs := outs) (ins := ins) (fun p hz hp hP hw hf => ?_) (fun hno => ?_)
  rotate_left
  · have hno' : ¬ (validB P gs' outs' = true ∧ fitsB P gs' ins = true) := fun h => hno ⟨ck.v, ck.fits2 h.2⟩
    refine ⟨_, fz0 xb, _, _, _, _, _, _, _, c14.all, _, fz3 xb, _, _, _, si4.mat, ev_no I1 hno (fun H5 X5 => ⟨_, _, _, _, rfl, _, fz1 xb, _, _, _, _, _, _, _, (c24.ext X5).all, _, fz3 xb, _, _, _, (si4.ext X5).mat, ev_no (I2.ext X5) hno' (fun H6 X6 => ⟨_, _, _, _, rfl, ?_⟩)⟩)⟩
    have X46 := X5.trans X6
    refine ⟨_, fz0 xb, _, _, _, _, _, _, _, (c14.ext X46).all, _, fz3 xb, _, _, _, (si4.ext X46).mat, evg_no (I1.ext X46) hno (fun H7 X7 => ⟨_, _, _, _, rfl, _, fz1 xb, _, _, _, _, _, _, _, ((c24.ext X46).ext X7).all, _, fz3 xb, _, _, _, ((si4.ext X46).ext X7).mat, evg_no ((I2.ext X46).ext X7) hno' (fun H8 X8 => ⟨_, _, _, _, rfl, ?_⟩)⟩)⟩
    rw [if_pos (by decide), if_pos (by decide), if_pos (by decide)]
    refine h_sameList Row.nil Row.nil (by decide) ⟨_, rfl, ?_⟩
    rw [if_neg (by decide)]
    refine privitylaw36_OptimizeCertificateSound.loop0 (fun k y H' => H' = H8 ∧ y = 0) 1 ⟨rfl, rfl⟩ ?_
    rintro k y fr H9 ⟨rfl, rfl⟩
    unfold privitylaw36_OptimizeCertificateSound.B0
    rw [if_neg (by decide)]
    exact h_awake36 (G4.ext (X46.trans (X7.trans X8))) (fun _ _ => ⟨_, rfl, rfl⟩)
  · subst hP
    have hw' : VOK p gs' outs' := validB_iff.1 ck.v'
    have hf' : fitsB p gs' ins = true := ck.fits1 hf
    refine ⟨_, fz0 xb, _, _, _, _, _, _, _, c14.all, _, fz3 xb, _, _, _, si4.mat, ev_ok I1 hw hf (fun A1 d1 H5 X5 r1 => ⟨_, _, _, _, rfl, _, fz1 xb, _, _, _, _, _, _, _, (c24.ext X5).all, _, fz3 xb, _, _, _, (si4.ext X5).mat, ev_ok (I2.ext X5) hw' hf' (fun A2 d2 H6 X6 r2 => ⟨_, _, _, _, rfl, ?_⟩)⟩)⟩
    have X46 := X5.trans X6
    refine ⟨_, fz0 xb, _, _, _, _, _, _, _, (c14.ext X46).all, _, fz3 xb, _, _, _, (si4.ext X46).mat, evg_ok (I1.ext X46) hw hf (fun A3 d3 H7 X7 r3 _ => ⟨_, _, _, _, rfl, _, fz1 xb, _, _, _, _, _, _, _, ((c24.ext X46).ext X7).all, _, fz3 xb, _, _, _, ((si4.ext X46).ext X7).mat, evg_ok ((I2.ext X46).ext X7) hw' hf' (fun A4 d4 H8 X8 r4 _ => ⟨_, _, _, _, rfl, ?_⟩)⟩)⟩
    rw [if_pos (by decide), if_pos (by decide), if_pos (by decide)]
    have X48 := X46.trans (X7.trans X8)
    refine h_sameList (r1.ext (X6.trans (X7.trans X8))) (r2.ext (X7.trans X8)) (by rw [vs_length, outL_len]; unfold maxLen; omega) ⟨_, rfl, ?_⟩
    rw [ck.outL_eq hnn hnn2, decide_eq_true rfl, if_neg (by decide)]
    have r3' := r3.ext X8
    have t8 := t4.ext X48
    have st8 := st4.ext X48
    have G8 := G4.ext X48
    have vals := ck.vals (ins := ins) hnn hnn2
    have hl := ck.len
    have hr := ck.rng
    have ht1 := t8.1
    clear r3 r1 r2 I1 I2 t4 st4 G4 c14 c24 si4 X48 X46 X5 X6 X7 X8
    generalize evL gs (ef p gs ins) gs.length = u at r3' vals
    generalize evL gs' (ef p gs' ins) gs'.length = w at r4 vals
    refine privitylaw36_OptimizeCertificateSound.loop0 (fun k y H' => H' = H8 ∧ ∃ j : Nat, y = j ∧ j ≤ gs.length ∧ k = gs.length - j) gs.length ⟨rfl, 0, rfl, Nat.zero_le _, rfl⟩ ?_
    rintro k y fr H9 ⟨rfl, j, rfl, hj, rfl⟩
    unfold privitylaw36_OptimizeCertificateSound.B0
    by_cases hlt : j < gs.length
    rotate_left
    · rw [if_neg (fun h => hlt (by have := of_decide_eq_true h; omega))]
      exact h_awake36 G8 (fun _ _ => ⟨_, rfl, rfl⟩)
    rw [if_pos (decide_eq_true (by omega))]
    obtain ⟨a, q1, q2⟩ := t8.at ct (i := j) (by omega)
    have hrj := hr j (by omega)
    refine ⟨_, fz2 xb, _, ftO xb 6, _, _, _, st8.ints, ?_⟩
    rw [if_pos (decide_eq_false (by omega))]
    refine ⟨_, fz2 xb, _, ftO xb 6, _, _, _, st8.ints, a, q1, _, q2, ?_⟩
    rw [if_pos (decide_eq_false (by omega))]
    refine ⟨_, fz2 xb, _, ftO xb 6, _, _, _, st8.ints, a, q1, _, q2, ?_⟩
    have nx : IntKind.i64.wrap ((j : Int) + 1) = ((j + 1 : Nat) : Int) := nxt (n := 1000000) (by omega) (by decide)
    by_cases hp0 : tt.getD j 0 ≥ 0
    rotate_left
    · rw [if_neg (fun h => hp0 (of_decide_eq_true h))]
      exact ⟨gs.length - j - 1, by omega, _, rfl, rfl, j + 1, nx, by omega, by omega⟩
    rw [if_pos (decide_eq_true hp0)]
    obtain ⟨a2, p1, p2⟩ := r3'.at d3 (i := (j : Int)) (by omega) (by omega)
    obtain ⟨a3, s1, s2⟩ := r4.at d4 (i := tt.getD j 0) hp0 hrj.2
    rw [Int.toNat_natCast, vs_get] at p2
    rw [vs_get] at s2
    refine ⟨a2, p1, _, p2, _, fz2 xb, _, ftO xb 6, _, _, _, st8.ints, a, q1, _, q2, a3, s1, _, s2, ?_⟩
    rw [vals j hlt hp0, if_neg (by simp)]
    exact ⟨gs.length - j - 1, by omega, _, rfl, rfl, j + 1, nx, by omega, by omega⟩
end
end Go.Proofs.YtjpaichcaaacbabDoor.HL
end

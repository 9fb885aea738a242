/- Part L of: The statement OptimizeEquivalent: the law answers true whatever its arguments; no condition. -/
import Derived.Test.YtjpaichcaaacbabDoorZOptimizeEquivalentK
section
set_option linter.unusedVariables false
set_option linter.unusedSimpArgs false
set_option linter.unusedSectionVars false
set_option maxHeartbeats 8000000
namespace Go.Proofs.YtjpaichcaaacbabDoor.HL
open Go Go.Proofs.YtjpaichcaaacbabDoorNum Go.Proofs.YtjpaichcaaacbabDoor.FEv
theorem cL_le (gs : List Gate) (nd : Nat → Bool) : ∀ i, (cL gs nd i).2.length ≤ i
  | 0 => Nat.le_refl _
  | i + 1 => by
    have := cL_le gs nd i
    unfold cL
    dsimp only
    split
    · exact Nat.le_succ_of_le this
    · split
      · exact Nat.le_succ_of_le this
      · rw [List.length_append, List.length_singleton]; omega
theorem ndOut_succ {gs : List Gate} {outs : List Int} {j : Nat} (h : j < outs.length) (t : Nat) : ndOut gs outs (j + 1) t = onB (ndOut gs outs j) (fN gs (outs.getD j 0).toNat) t := by
  unfold ndOut onB
  have eo : outs.getD j 0 = outs[j] := by simp [h]
  rw [List.take_add_one, List.getElem?_eq_getElem h, List.any_append, Option.toList_some, List.any_cons, List.any_nil, Bool.or_false, Bool.or_comm, eo]
  congr 1
  rw [Bool.eq_iff_iff, beq_iff_eq, beq_iff_eq]
  exact eq_comm
/-- A block is hidden. -/
def hideB (H : HH) (b : Nat) : HH := fun k => if k = b then none else H k
theorem hide_ext (H : HH) (b : Nat) : Ext (hideB H b) H := fun k o h => by
  unfold hideB at h
  split at h
  · cases h
  · exact h
theorem hide_at (H : HH) (b : Nat) : hideB H b b = none := by unfold hideB; rw [if_pos rfl]
theorem hide_ne (H : HH) {b k : Nat} (h : k ≠ b) : hideB H b k = H k := by unfold hideB; rw [if_neg h]
theorem ext_hide {F H : HH} {b : Nat} (X : Ext F H) (hF : F b = none) : Ext F (hideB H b) := fun k o h => by
  rw [hide_ne _ (fun e => by rw [e, hF] at h; cases h)]; exact X k o h
section
variable {base : Nat} {H : HH}
theorem h_mkZ {q : Nat} (hq : q ≤ 1000000) {k1 k2 : IntKind} {K : Value → HH → Prop} (h : ∀ A' c' H', OwnZ base H H' A' q c' (List.replicate q 0) → K (.slice A' q c') H') :
    HRun Tryd.prog base (Instr.makeSlice tInts (.int k1 q) (.int k2 q)) H K :=
  h_mkN hq (fun g H' hb o X hn => h _ _ H' ⟨by
    have : ns ((List.range q).map fun _ => 0) = is (List.replicate q 0) := by
      unfold ns is
      rw [List.map_const', List.length_range, List.map_replicate, List.map_replicate]; rfl
    unfold NB at o
    rw [this] at o
    exact o, X, fun b hb' => by
    have e : g = b := by simpa [Value.ownBlock] using hb'
    rw [← e]; exact hn⟩)
theorem h_tvar {A : Option Addr} {n c : Nat} {old : Value} {C : Addr → HH → Prop} (hk : ∀ b H', Ext H H' → H b = none → TB H' b A n c → C ⟨b, 0, none⟩ H') :
    HRun Tryd.prog base (Instr.alloc tCert true old) H fun v H1 => ∃ a : Addr, v = .pointer (some a) ∧ HRun Tryd.prog base (Instr.storeAt tCert (.pointer (some a)) (.agg #[.slice A n c])) H1 fun _ H2 => C a H2 :=
  h_var (vs := [.slice A n c]) (z := .agg #[.slice none 0 0]) (by kernel_rfl) rfl (by kernel_rfl) rfl (fun b H' he hbase hn hb => hk _ H' he hn hb)
/-- A number is pushed; something is read between. -/
theorem OwnZ.pushQ {F : HH} {A : Option Addr} {n c : Nat} {l : List Int} (o : OwnZ base F H A n c l) (hl : n ≤ 100000) (x : Int) {Q : HH → Prop} (hQ : ∀ H', Ext H H' → Q H') {C : Option Addr → Nat → Nat → HH → Prop} (hk : ∀ A' c' H', OwnZ base F H' A' (n + 1) c' (l ++ [x]) → Grows H H' (.slice A n c) (.slice A' (n + 1) c') → C A' (n + 1) c' H') {ty : Nat} :
    HRun Tryd.prog base (Instr.buildSlice tInts 1 #[(0, .int .i64 x)]) H fun v1 H1 => ∃ (A1 : Option Addr) (l1 c1 : Nat), v1 = .slice A1 l1 c1 ∧ Q H1 ∧ HRun Tryd.prog base (Builtin.append_ #[tInts, tInts] ty #[.slice A n c, .slice A1 l1 c1]) H1 fun v2 H2 => ∃ (A' : Option Addr) (l' c' : Nat), v2 = .slice A' l' c' ∧ C A' l' c' H2 := by
  have hfill : Instr.fill (fun i => some (i * 1, 1)) (madeCells (Value.int .i64 0).cells (1 * 1)) [(0, .int .i64 x)] = some #[.int .i64 x] := by kernel_rfl
  refine h_lit (sz := 1) (z := .int .i64 0) (cs := #[.int .i64 x]) unInts (by kernel_rfl) (by decide) hfill (by decide) (fun b hb hbase => ⟨_, _, _, rfl, hQ _ (Ext.upd hb _), ?_⟩)
  have he : Ext H (upd H b (.cells #[.int .i64 x] 3)) := Ext.upd hb _
  refine h_app (m := 1) (ys := [.int .i64 x]) unInts inf3 rfl (by decide) (o.1.ext he) (.inr ⟨_, rfl, fun i w hw => ?_⟩) (by simp) (by simp [Value.oneCell']) (by simp) (by omega) (by decide) (fun A' c' H' h1 h2 => ⟨_, _, _, rfl, hk A' c' H' ⟨by simpa [is] using h1, o.2.grow (h2.trans_ext he)⟩ (h2.trans_ext he)⟩)
  match i, hw with
  | 0, hw =>
    cases hw
    show cellH _ ((⟨b, 0, none⟩ : Addr).add 0) = _
    simp [Addr.add, cellH, upd_self]
/-- The circuit's outputs are another row. -/
theorem cb_outs {b : Nat} {p : Int} {A A' A1 : Option Addr} {n c n' c' n1 c1 : Nat} {K : Unit → HH → Prop} (h : CB H b p A n c A' n' c') (hb : base ≤ b) (hK : ∀ H', CB H' b p A n c A1 n1 c1 → (∀ k, k ≠ b → H' k = H k) → K () H') :
    HRun Tryd.prog base (Instr.storeAt tInts (.pointer (some ⟨b, 2, none⟩)) (.slice A1 n1 c1)) H K :=
  h_st (by kernel_rfl) rfl h hb (show 2 < 3 by decide) (hK _ (upd_self _ _ _) (fun k hk => upd_ne _ hk))
theorem q_res2 {l : List Value} {x y : Nat} {p : Int} {A A' T : Option Addr} {n c n' c' nt ct : Nat} (h2 : l[2]? = some (.pointer (some ⟨x, 0, none⟩))) (h3 : l[3]? = some (.pointer (some ⟨y, 0, none⟩))) (hx : CB H x p A n c A' n' c') (hy : TB H y T nt ct) :
    QRun Tryd.prog (results Tryd.f11 l.toArray) H (.tuple #[.agg #[.int .u64 p, .slice A n c, .slice A' n' c'], .agg #[.slice T nt ct]]) := fun W hs => by
  have er : Tryd.f11.results = #[.cell 2 tC, .cell 3 tCert] := by kernel_rfl
  have hl := hx.all W hs
  have hl' := hy.all W hs
  simp only [Instr.loadAt, Instr.sureAddr] at hl hl'
  have e2 : l.toArray.getD 2 undef = .pointer (some ⟨x, 0, none⟩) := by simp [Array.getD_eq_getD_getElem?, h2]
  have e3 : l.toArray.getD 3 undef = .pointer (some ⟨y, 0, none⟩) := by simp [Array.getD_eq_getD_getElem?, h3]
  unfold results
  rw [er]
  simp_all [asAddr]
end
section
variable {base : Nat} {H : HH} {K : Value → HH → Prop} {A A' : Option Addr} {n n' c c' : Nat} {P : Int} {gs : List Gate} {outs : List Int}
theorem h_optimize (W : WF gs) (hO : ∀ i, i < outs.length → 0 ≤ outs.getD i 0 ∧ outs.getD i 0 < (gs.length : Int)) (hC : Circ H A n gs A' n' outs)
    (hk : ∀ A1 n1 c1 A2 c2 A3 c3 H', Ext H H' → Gs H' A1 n1 (optG gs outs) → n1 ≤ c1 → Outs H' A2 outs.length (optO gs outs) → Outs H' A3 gs.length (optT gs outs) → K (.tuple #[.agg #[.int .u64 P, .slice A1 n1 c1, .slice A2 outs.length c2], .agg #[.slice A3 gs.length c3]]) H') :
    HCall Tryd.prog base 11 #[.agg #[.int .u64 P, .slice A n c, .slice A' n' c']] H K := by
  refine optimize_Optimize.spec ?_
  unfold optimize_Optimize.sh
  obtain rfl := hC.g.1
  obtain rfl := hC.o.1
  have lg := hC.lg
  have lo := hC.lo
  refine h_cbox (fun xb H1 X1 cb1 => ⟨_, rfl, h_alloc (z := .agg #[.int .u64 0, .slice none 0 0, .slice none 0 0]) (by kernel_rfl) (fun rb rn rbase => ⟨_, rfl, h_alloc (z := .agg #[.slice none 0 0]) (by kernel_rfl) (fun tb' tn tbase => ⟨_, rfl, ?_⟩)⟩)⟩)
  have E1 : Ext H1 (upd H1 rb (.cells (Value.agg #[.int .u64 0, .slice none 0 0, .slice none 0 0]).cells tC (0, 0))) := Ext.upd rn _
  have e1 : (upd H1 rb (.cells (Value.agg #[.int .u64 0, .slice none 0 0, .slice none 0 0]).cells tC (0, 0))) rb = some _ := upd_self _ _ _
  generalize upd H1 rb (.cells (Value.agg #[.int .u64 0, .slice none 0 0, .slice none 0 0]).cells tC (0, 0)) = H2 at E1 e1 tn ⊢
  have E2 : Ext H2 (upd H2 tb' (.cells (Value.agg #[.slice none 0 0]).cells tCert (0, 0))) := Ext.upd tn _
  have e2 : (upd H2 tb' (.cells (Value.agg #[.slice none 0 0]).cells tCert (0, 0))) tb' = some _ := upd_self _ _ _
  generalize upd H2 tb' (.cells (Value.agg #[.slice none 0 0]).cells tCert (0, 0)) = H3 at E2 e2 ⊢
  have eR : H3 rb = some (.cells (Value.agg #[.int .u64 0, .slice none 0 0, .slice none 0 0]).cells tC (0, 0)) := E2 _ _ e1
  have X13 := E1.trans E2
  have cb3 := cb1.ext X13
  have rH : H rb = none := X1.none rn
  have tH : H tb' = none := (X1.trans E1).none tn
  have X03 := X1.trans X13
  have C3 := hC.ext X03
  refine ⟨_, _, _, _, _, _, _, cb3.all, h_firsts W C3.g lg (fun Af cf H4 X4 rf => ⟨_, _, _, rfl, _, fc1 xb, _, _, _, (cb3.ext X4).qgs, h_mkB (by omega) (fun nb H5 hnb bb5 X5 nbn => ⟨_, _, _, rfl, _, fc2 xb, _, _, _, ((cb3.ext X4).ext X5).qouts, ?_⟩)⟩)⟩
  have cb4 := cb3.ext X4
  have C4 := C3.ext X4
  -- what the outputs need
  have fle : ∀ {z : Int}, 0 ≤ z → z < (gs.length : Int) → fN gs z.toNat < gs.length := fun {z} h0 h1 => by have := fN_le W (i := z.toNat) (by omega); omega
  have rd : ∀ {H' : HH} {z : Int}, Ext H4 H' → 0 ≤ z → z < (gs.length : Int) → ∃ a, AQ Tryd.prog (Instr.indexAt tInts (.slice Af gs.length cf) (.int .i64 z)) (.pointer (some a)) ∧ QRun Tryd.prog (Instr.loadAt 3 (.pointer (some a))) H' (.int .i64 (fN gs z.toNat : Int)) := fun X h0 h1 => by
    obtain ⟨a, u1, u2⟩ := (rf.ext X).ix cf h0 h1
    rw [zs_get, fL_get gs (by omega)] at u2
    exact ⟨a, u1, u2⟩
  refine optimize_Optimize.loop0 (fun r y H' => ∃ j : Nat, y = j ∧ j ≤ outs.length ∧ r = outs.length - j ∧ Ext H4 H' ∧ BB base H' nb gs.length (ndOut gs outs j)) outs.length ⟨0, rfl, Nat.zero_le _, rfl, X5, bb5.congr (fun k hk => by simp [ndOut])⟩ ?_
  rintro r y fr H6 ⟨j, rfl, hj, rfl, X6, bb6⟩
  unfold optimize_Optimize.B0
  by_cases hlt : j < outs.length
  · rw [if_pos (decide_eq_true (by omega))]
    obtain ⟨o0, o1⟩ := hO j hlt
    obtain ⟨a1, q1, q2⟩ := (C4.o.ext X6).at c' hlt
    obtain ⟨a2, q3, q4⟩ := rd X6 o0 o1
    have hf := fle o0 o1
    refine ⟨a1, q1, _, q2, a2, q3, _, q4, _, (bb6.at hf).1, bb_on bb6 hf nbn X6 (fun H7 X7 b7 s7 => ?_)⟩
    refine ⟨outs.length - j - 1, by omega, _, rfl, j + 1, nxt (n := 1000000) (by omega) (by decide), by omega, by omega, X7, b7.congr (fun t ht => ndOut_succ hlt t)⟩
  rw [if_neg (fun h => hlt (by have := of_decide_eq_true h; omega))]
  obtain rfl : j = outs.length := by omega
  clear hlt hj
  refine ⟨_, fc1 xb, _, _, _, (cb4.ext X6).qgs, ?_⟩
  rw [show IntKind.i64.wrap (((gs.length : Nat) : Int) - 1) = ((gs.length : Nat) : Int) - 1 from w64 (by omega) (by omega)]
  refine optimize_Optimize.loop1 (fun r y H' => ∃ m : Nat, m ≤ gs.length ∧ y = ((gs.length : Nat) : Int) - 1 - m ∧ r = gs.length - m ∧ Ext H4 H' ∧ BB base H' nb gs.length (ndBack gs outs m)) gs.length ⟨0, Nat.zero_le _, by omega, rfl, X6, bb6⟩ ?_
  rintro r y fr H7 ⟨m, hm, rfl, rfl, X7, bb7⟩
  by_cases hlt : m < gs.length
  · rw [show ((gs.length : Nat) : Int) - 1 - (m : Int) = ((gs.length - 1 - m : Nat) : Int) by omega]
    refine nd_round W C4.g cb4 lg (i := gs.length - 1 - m) (by omega) X7 nbn rf bb7 (fun H8 X8 b8 => ?_)
    exact ⟨gs.length - m - 1, by omega, _, rfl, m + 1, by omega, by rw [w64 (by omega) (by omega)]; omega, by omega, X8, b8⟩
  unfold optimize_Optimize.B1
  rw [if_neg (fun h => hlt (by have := of_decide_eq_true h; omega))]
  obtain rfl : m = gs.length := by omega
  clear hlt hm
  have bbF : BB base H7 nb gs.length (ndAll gs outs) := bb7
  have cb7 := cb4.ext X7
  have C7 := C4.ext X7
  have rf7 := rf.ext X7
  have R7 : H7 rb = _ := X7 _ _ (X4 _ _ eR)
  have T7 : H7 tb' = _ := X7 _ _ (X4 _ _ e2)
  have X07 := X03.trans (X4.trans X7)
  clear bb5 bb6 bb7 X5 X6 cb1 cb3 cb4 C3 C4 hC X4 X7 E1 E2 e1 e2 X13 X1 eR rn tn X03 rf rd
  refine ⟨_, fc0 xb, _, cb7.qp, _, _, _, _, _, _, _, (show AQ Tryd.prog (Instr.build tC #[(0, .int .u64 P)]) (.agg #[.int .u64 P, .slice none 0 0, .slice none 0 0]) from fun W => by kernel_rfl), ?_⟩
  refine h_cvar3 (fun ob H8 X8 obn obB cd8 => ⟨_, fc1 xb, _, _, _, (cb7.ext X8).qgs, h_mkZ (by omega) (fun Ac cc H9 oc => ⟨_, _, _, rfl, _, _, _, (show AQ Tryd.prog (Instr.build tCert #[(0, .slice Ac gs.length cc)]) (.agg #[.slice Ac gs.length cc]) from fun W => by kernel_rfl), h_tvar (fun tb H10 X10 tbn tk => ⟨_, fc1 xb, _, _, _, ((cb7.ext X8).ext (oc.ext.trans X10)).qgs, ?_⟩)⟩)⟩)
  -- what is fixed from here on
  obtain ⟨F, hF⟩ : ∃ F : HH, F = upd H7 tb (.cells #[.slice Ac gs.length cc] tCert) := ⟨_, rfl⟩
  have tb7 : H7 tb = none := (X8.trans oc.ext).none tbn
  have XF : Ext H7 F := by rw [hF]; exact Ext.upd tb7 _
  have tkF : TB F tb Ac gs.length cc := by rw [hF]; exact upd_self _ _ _
  have X710 := X8.trans (oc.ext.trans X10)
  have XF10 : Ext F H10 := fun b o hb => by
    by_cases e : b = tb
    · subst e
      unfold TB at tkF
      rw [tkF] at hb; cases hb; exact tk
    · rw [hF, upd_ne _ e] at hb; exact X710 b o hb
  have obF : F ob = none := by
    have : ob ≠ tb := fun e => by
      have h1 := cd8
      unfold CB at h1
      have h2 := oc.ext.none tbn
      rw [← e, h1] at h2; cases h2
    rw [hF, upd_ne _ this]; exact obn
  have ocF : OwnZ base F H10 Ac gs.length cc (List.replicate gs.length 0) := ⟨oc.1.ext X10, XF10, fun b hb => by
    have : b ≠ tb := fun e => by
      obtain ⟨cu, hc⟩ := oc.tag hb
      rw [e, tbn] at hc; cases hc
    rw [hF, upd_ne _ this]; exact X8.none (oc.2.off b hb)⟩
  have S : S3 base F H10 ob P none 0 0 Ac gs.length cc ((cL gs (ndAll gs outs) 0).1 ++ List.replicate (gs.length - 0) 0) (cL gs (ndAll gs outs) 0).2 :=
    ⟨obF, obB, cd8.ext (oc.ext.trans X10), ocF, ⟨XF10, Own.nil _ _ _ _, fun b hb => by simp [Value.ownBlock] at hb⟩⟩
  have cbF := cb7.ext XF
  have CF := C7.ext XF
  have rfF := rf7.ext XF
  have bF := bbF.ext XF
  have RF := XF _ _ R7
  have TF := XF _ _ T7
  have X0F := X07.trans XF
  clear oc X8 X10 tk cd8 tbn XF10 X710 ocF obF hF tb7 obn cb7 C7 rf7 bbF R7 T7 X07 XF
  refine optimize_Optimize.loop2 (fun r y H' => ∃ j : Nat, y = j ∧ j ≤ gs.length ∧ r = gs.length - j ∧ ∃ A1 n1 c1, S3 base F H' ob P A1 n1 c1 Ac gs.length cc ((cL gs (ndAll gs outs) j).1 ++ List.replicate (gs.length - j) 0) (cL gs (ndAll gs outs) j).2) gs.length ⟨0, rfl, Nat.zero_le _, rfl, _, _, _, S⟩ ?_
  clear S
  rintro r y fr H11 ⟨j, rfl, hj, rfl, Ag, ng, cg, S⟩
  by_cases hlt : j < gs.length
  · refine oc_round W CF.g cbF lg hlt rfF bF tkF S (fun A12 n12 c12 H12 S12 => ?_) (cL_le _ _ _)
    exact ⟨gs.length - j - 1, by omega, _, rfl, j + 1, nxt (n := 1000000) (by omega) (by decide), by omega, by omega, _, _, _, S12⟩
  unfold optimize_Optimize.B2
  rw [if_neg (fun h => hlt (by have := of_decide_eq_true h; omega))]
  obtain rfl : j = gs.length := by omega
  clear hlt hj
  rw [Nat.sub_self, List.replicate_zero, List.append_nil] at S
  have eT : (cL gs (ndAll gs outs) gs.length).1 = optT gs outs := rfl
  have eG : (cL gs (ndAll gs outs) gs.length).2 = optG gs outs := rfl
  rw [eT, eG] at S
  have lT : (optT gs outs).length = gs.length := cL_len _ _ _
  refine ⟨_, fc2 xb, _, _, _, (cbF.ext S.ext).qouts, ?_⟩
  -- the box is hidden
  have XH : Ext F (hideB H11 ob) := ext_hide S.ext S.obF
  have XH' := hide_ext H11 ob
  have obN := hide_at H11 ob
  have ctH : OwnZ base (hideB H11 ob) (hideB H11 ob) Ac gs.length cc (optT gs outs) ∨ True := .inr trivial
  have ct0 : Own base (hideB H11 ob) 3 1 (.slice Ac gs.length cc) gs.length (is (optT gs outs)) := S.ct.1.move (fun k x hk hx => by rw [hide_ne _ (fun e => S.ctob (by rw [hk, e]))]; exact hx)
  have rl0 : Own base (hideB H11 ob) tGate 5 (.slice Ag ng cg) ng (gc (optG gs outs)) := S.rl.own.move (fun k x hk hx => by rw [hide_ne _ (fun e => S.rlob (by rw [hk, e]))]; exact hx)
  have cb11 := S.cb
  have obB := S.obB
  have ngl := S.rl.len
  generalize hideB H11 ob = F2 at XH XH' obN ct0 rl0
  have rowT : Outs F2 Ac gs.length (optT gs outs) := by
    obtain ⟨A8, c8, e, _, h2⟩ := ct0.slice
    cases e
    exact ⟨lT.symm, h2⟩
  have tk2 := tkF.ext XH
  have C2 := CF.ext XH
  refine optimize_Optimize.loop3 (fun r y H' => ∃ j : Nat, y = j ∧ j ≤ outs.length ∧ r = outs.length - j ∧ ∃ Ao co, CB H' ob P Ag ng cg Ao j co ∧ OwnZ base F2 H' Ao j co ((optO gs outs).take j)) outs.length ⟨0, rfl, Nat.zero_le _, rfl, _, _, cb11, OwnZ.nil' XH'⟩ ?_
  rintro r y fr H12 ⟨j, rfl, hj, rfl, Ao, co, cb12, oo⟩
  unfold optimize_Optimize.B3
  have lO : (optO gs outs).length = outs.length := by simp [optO]
  have ooTag : ∀ {H' : HH} {A1 : Option Addr} {n1 c1 : Nat} {l : List Int}, OwnZ base F2 H' A1 n1 c1 l → ∀ {Ax : Option Addr} {nx cx : Nat}, CB H' ob P Ag ng cg Ax nx cx → (Value.slice A1 n1 c1).ownBlock ≠ some ob := fun o _ _ _ cbx e => by
    obtain ⟨cu, hc⟩ := o.tag e
    unfold CB at cbx
    rw [cbx] at hc
    exact absurd (cells_tag hc) (by decide)
  by_cases hlt : j < outs.length
  · rw [if_pos (decide_eq_true (by omega))]
    obtain ⟨o0, o1⟩ := hO j hlt
    obtain ⟨a1, q1, q2⟩ := (C2.o.ext oo.ext).at c' hlt
    obtain ⟨a2, q3, q4⟩ := (rowT.ext oo.ext).ix cc o0 o1
    refine ⟨a1, q1, _, q2, _, fc2 ob, _, _, _, cb12.qouts, _, ft0 tb, _, _, _, (tk2.ext oo.ext).to, a2, q3, _, q4, ?_⟩
    refine oo.pushQ (by omega) _ (fun H' X => cb12.qouts.up X) (fun A13 c13 H13 o13 g13 => ⟨_, fc2 ob, ?_⟩)
    have cb13 : CB H13 ob P Ag ng cg Ao j co := g13.keep _ _ (ooTag oo cb12) cb12
    refine cb_outs cb13 obB (fun H14 cb14 s14 => ?_)
    have o14 := o13.same obN (ooTag o13 cb13) s14
    refine ⟨outs.length - j - 1, by omega, _, rfl, j + 1, nxt (n := 1000000) (by omega) (by decide), by omega, by omega, _, _, cb14, ?_⟩
    have eo : outs.getD j 0 = outs[j] := by simp [hlt]
    have e : (optO gs outs).take (j + 1) = (optO gs outs).take j ++ [(optT gs outs).getD (outs.getD j 0).toNat 0] := by
      rw [List.take_add_one, List.getElem?_eq_getElem (by omega), eo]
      simp [optO]
    rw [e]
    exact o14
  rw [if_neg (fun h => hlt (by have := of_decide_eq_true h; omega))]
  obtain rfl : j = outs.length := by omega
  rw [List.take_of_length_le (by omega)] at oo
  refine ⟨_, _, _, _, _, _, _, cb12.all, _, _, _, (tk2.ext oo.ext).all, ?_⟩
  have R12 := oo.ext _ _ (XH _ _ RF)
  have T12 := oo.ext _ _ (XH _ _ TF)
  refine h_sta (old := (Value.agg #[.int .u64 0, .slice none 0 0, .slice none 0 0]).cells) (vs := [.int .u64 P, .slice Ag ng cg, .slice Ao outs.length co]) (by kernel_rfl) rfl R12 rbase rfl ?_
  obtain ⟨H13, hH13⟩ : ∃ H13, H13 = upd H12 rb (.cells [.int .u64 P, .slice Ag ng cg, .slice Ao outs.length co].toArray tC (0, 0)) := ⟨_, rfl⟩
  rw [← hH13]
  have cr13 : CB H13 rb P Ag ng cg Ao outs.length co := by rw [hH13]; exact upd_self _ _ _
  have s13 : ∀ k, k ≠ rb → H13 k = H12 k := fun k hk => by rw [hH13]; exact upd_ne _ hk
  have tk12 := tk2.ext oo.ext
  have tk13 : TB H13 tb Ac gs.length cc := by
    have : tb ≠ rb := fun e => by
      unfold TB at tk12
      rw [e, R12] at tk12
      exact absurd (cells_tag tk12) (by decide)
    unfold TB at tk12 ⊢
    rw [s13 tb this]; exact tk12
  have hTR : tb' ≠ rb := fun e => by
    rw [e, R12] at T12
    exact absurd (cells_tag T12) (by decide)
  refine ⟨tk13.all, h_sta (old := (Value.agg #[.slice none 0 0]).cells) (vs := [.slice Ac gs.length cc]) (by kernel_rfl) rfl (by rw [s13 tb' hTR]; exact T12) tbase rfl ?_⟩
  obtain ⟨H14, hH14⟩ : ∃ H14, H14 = upd H13 tb' (.cells [.slice Ac gs.length cc].toArray tCert (0, 0)) := ⟨_, rfl⟩
  rw [← hH14]
  have tk14 : TB H14 tb' Ac gs.length cc := by rw [hH14]; exact upd_self _ _ _
  have s14 : ∀ k, k ≠ tb' → H14 k = H13 k := fun k hk => by rw [hH14]; exact upd_ne _ hk
  have cr14 : CB H14 rb P Ag ng cg Ao outs.length co := by
    unfold CB at cr13 ⊢
    rw [s14 rb (fun e => hTR e.symm)]; exact cr13
  have X012 := X0F.trans (XH.trans oo.ext)
  have X014 : Ext H H14 := ext_same (ext_same X012 rH s13) tH s14
  have keepO : ∀ {T sz n : Nat} {v : Value} {xs : List Value}, T ≠ tC → T ≠ tCert → Own base H12 T sz v n xs → Own base H14 T sz v n xs := fun hT1 hT2 o => o.move (fun k x hkx hx => by
    obtain ⟨_, cu, hc⟩ := o.known hkx
    have h1 : k ≠ rb := fun e => by rw [e, R12] at hc; exact hT1 (cells_tag hc).symm
    have h2 : k ≠ tb' := fun e => by rw [e, T12] at hc; exact hT2 (cells_tag hc).symm
    rw [s14 k h2, s13 k h1]; exact hx)
  have oG := keepO (by decide) (by decide) (rl0.ext oo.ext)
  have oT := keepO (by decide) (by decide) (ct0.ext oo.ext)
  have oO := keepO (by decide) (by decide) oo.1
  refine ⟨_, q_res2 rfl rfl cr14 tk14, ?_⟩
  obtain ⟨A8, c8, e8, hc8, g8⟩ := oG.slice
  cases e8
  obtain ⟨A9, c9, e9, _, g9⟩ := oO.slice
  cases e9
  obtain ⟨A10, c10, e10, _, g10⟩ := oT.slice
  cases e10
  exact hk _ _ _ _ _ _ _ H14 X014 ⟨ngl, g8⟩ hc8 ⟨lO.symm, g9⟩ ⟨lT.symm, g10⟩
end
end Go.Proofs.YtjpaichcaaacbabDoor.HL
end
section
set_option linter.unusedVariables false
set_option linter.unusedSimpArgs false
set_option linter.unusedSectionVars false
set_option maxHeartbeats 8000000
namespace Go.Proofs.YtjpaichcaaacbabDoor.HL
open Go Go.Proofs.YtjpaichcaaacbabDoorNum Go.Proofs.YtjpaichcaaacbabDoor.FEv
abbrev ex1 : List Gate := [⟨1, 1, 0, 0, 0⟩, ⟨1, 1, 0, 0, 0⟩, ⟨3, 0, 0, 1, 0⟩, ⟨3, 0, 1, 0, 0⟩, ⟨6, 0, 2, 3, 0⟩]
abbrev wa1 : List Gate := [⟨1, 1, 0, 0, 0⟩, ⟨1, 1, 0, 0, 0⟩, ⟨3, 0, 0, 1, 0⟩, ⟨6, 0, 2, 2, 0⟩]
section
variable {base : Nat} {H : HH} {K : Value → HH → Prop} {A A' B B' : Option Addr} {n n' m m' c c' d d' : Nat} {P P' : Int} {gs gs' : List Gate} {outs outs' : List Int}
theorem rd_blk {gb T : Nat} {z : Nat × Nat} {cs : Array Value} {xs : List Value} (h : H gb = some (.cells cs T z)) (e : cs.toList = xs) : Rd H (some ⟨gb, 0, none⟩) xs :=
  .inr ⟨_, rfl, fun i u hu => by rw [add0, cellH_blk h, ← Array.getElem?_toList, e]; exact hu⟩
theorem lit_g5 {C : Value → HH → Prop} (hk : ∀ gb H', Ext H H' → H gb = none → H' gb = some (.cells (gc ex1).toArray tGate (0, 0)) → C (.slice (some ⟨gb, 0, none⟩) 5 5) H') : HRun Tryd.prog base (Instr.buildSlice tGates 5 #[(0, .agg #[.int .i64 1, .int .i64 1, .int .i64 0, .int .i64 0, .int .u64 0]), (1, .agg #[.int .i64 1, .int .i64 1, .int .i64 0, .int .i64 0, .int .u64 0]), (2, .agg #[.int .i64 3, .int .i64 0, .int .i64 0, .int .i64 1, .int .u64 0]), (3, .agg #[.int .i64 3, .int .i64 0, .int .i64 1, .int .i64 0, .int .u64 0]), (4, .agg #[.int .i64 6, .int .i64 0, .int .i64 2, .int .i64 3, .int .u64 0])]) H C := by
  have hfill : Instr.fill (fun i => some (i * 5, 5)) (madeCells (Value.agg (gv gate0).toArray).cells (5 * 5)) [(0, .agg #[.int .i64 1, .int .i64 1, .int .i64 0, .int .i64 0, .int .u64 0]), (1, .agg #[.int .i64 1, .int .i64 1, .int .i64 0, .int .i64 0, .int .u64 0]), (2, .agg #[.int .i64 3, .int .i64 0, .int .i64 0, .int .i64 1, .int .u64 0]), (3, .agg #[.int .i64 3, .int .i64 0, .int .i64 1, .int .i64 0, .int .u64 0]), (4, .agg #[.int .i64 6, .int .i64 0, .int .i64 2, .int .i64 3, .int .u64 0])] = some (gc ex1).toArray := by kernel_rfl
  exact h_lit (sz := 5) (z := .agg (gv gate0).toArray) (cs := (gc ex1).toArray) unGates (by kernel_rfl) (by decide) hfill (by decide) (fun gb hgb hbase => hk _ _ (Ext.upd hgb _) hgb (upd_self _ _ _))
theorem lit_gw {C : Value → HH → Prop} (hk : ∀ A' H', Ext H H' → Gs H' A' 4 wa1 → C (.slice A' 4 4) H') : HRun Tryd.prog base (Instr.buildSlice tGates 4 #[(0, .agg #[.int .i64 1, .int .i64 1, .int .i64 0, .int .i64 0, .int .u64 0]), (1, .agg #[.int .i64 1, .int .i64 1, .int .i64 0, .int .i64 0, .int .u64 0]), (2, .agg #[.int .i64 3, .int .i64 0, .int .i64 0, .int .i64 1, .int .u64 0]), (3, .agg #[.int .i64 6, .int .i64 0, .int .i64 2, .int .i64 2, .int .u64 0])]) H C := by
  have hfill : Instr.fill (fun i => some (i * 5, 5)) (madeCells (Value.agg (gv gate0).toArray).cells (4 * 5)) [(0, .agg #[.int .i64 1, .int .i64 1, .int .i64 0, .int .i64 0, .int .u64 0]), (1, .agg #[.int .i64 1, .int .i64 1, .int .i64 0, .int .i64 0, .int .u64 0]), (2, .agg #[.int .i64 3, .int .i64 0, .int .i64 0, .int .i64 1, .int .u64 0]), (3, .agg #[.int .i64 6, .int .i64 0, .int .i64 2, .int .i64 2, .int .u64 0])] = some (gc wa1).toArray := by kernel_rfl
  exact h_lit (sz := 5) (z := .agg (gv gate0).toArray) (cs := (gc wa1).toArray) unGates (by kernel_rfl) (by decide) hfill (by decide) (fun gb hgb hbase => hk _ _ (Ext.upd hgb _) ⟨rfl, rd_blk (upd_self _ _ _) rfl⟩)
theorem lit_o1b {x : Int} {C : Value → HH → Prop} (hk : ∀ gb H', Ext H H' → H gb = none → H' gb = some (.cells #[.int .i64 x] 3 (0, 0)) → C (.slice (some ⟨gb, 0, none⟩) 1 1) H') : HRun Tryd.prog base (Instr.buildSlice tInts 1 #[(0, .int .i64 x)]) H C := by
  have hfill : Instr.fill (fun i => some (i * 1, 1)) (madeCells (Value.int .i64 0).cells (1 * 1)) [(0, .int .i64 x)] = some #[.int .i64 x] := by kernel_rfl
  exact h_lit (sz := 1) (z := .int .i64 0) (cs := #[.int .i64 x]) unInts (by kernel_rfl) (by decide) hfill (by decide) (fun gb hgb hbase => hk _ _ (Ext.upd hgb _) hgb (upd_self _ _ _))
theorem lit_o5 {x y z u v : Int} {C : Value → HH → Prop} (hk : ∀ A' H', Ext H H' → Outs H' A' 5 [x, y, z, u, v] → C (.slice A' 5 5) H') : HRun Tryd.prog base (Instr.buildSlice tInts 5 #[(0, .int .i64 x), (1, .int .i64 y), (2, .int .i64 z), (3, .int .i64 u), (4, .int .i64 v)]) H C := by
  have hfill : Instr.fill (fun i => some (i * 1, 1)) (madeCells (Value.int .i64 0).cells (5 * 1)) [(0, .int .i64 x), (1, .int .i64 y), (2, .int .i64 z), (3, .int .i64 u), (4, .int .i64 v)] = some #[.int .i64 x, .int .i64 y, .int .i64 z, .int .i64 u, .int .i64 v] := by kernel_rfl
  exact h_lit (sz := 1) (z := .int .i64 0) (cs := #[.int .i64 x, .int .i64 y, .int .i64 z, .int .i64 u, .int .i64 v]) unInts (by kernel_rfl) (by decide) hfill (by decide) (fun gb hgb hbase => hk _ _ (Ext.upd hgb _) ⟨rfl, rd_blk (upd_self _ _ _) rfl⟩)
theorem q_res1 {l : List Value} {x : Nat} {p : Int} (h2 : l[0]? = some (.pointer (some ⟨x, 0, none⟩))) (hx : CB H x p A n c A' n' c') :
    QRun Tryd.prog (results Tryd.f18 l.toArray) H (.agg #[.int .u64 p, .slice A n c, .slice A' n' c']) := fun W hs => by
  have er : Tryd.f18.results = #[.cell 0 tC] := by kernel_rfl
  have hl := hx.all W hs
  simp only [Instr.loadAt, Instr.sureAddr] at hl
  have e2 : l.toArray.getD 0 undef = .pointer (some ⟨x, 0, none⟩) := by simp [Array.getD_eq_getD_getElem?, h2]
  unfold results
  rw [er]
  simp_all [asAddr]
theorem h_example (hk : ∀ A1 A2 H', Ext H H' → Circ H' A1 5 ex1 A2 1 [4] → K (.agg #[.int .u64 31, .slice A1 5 5, .slice A2 1 1]) H') : HCall Tryd.prog base 18 #[] H K := by
  refine privitylaw36_example.spec ?_
  unfold privitylaw36_example.sh
  refine h_alloc (z := .agg #[.int .u64 0, .slice none 0 0, .slice none 0 0]) (by kernel_rfl) (fun rb rn rbase => ⟨_, rfl, ?_⟩)
  have E1 : Ext H (upd H rb (.cells (Value.agg #[.int .u64 0, .slice none 0 0, .slice none 0 0]).cells tC (0, 0))) := Ext.upd rn _
  have e1 : (upd H rb (.cells (Value.agg #[.int .u64 0, .slice none 0 0, .slice none 0 0]).cells tC (0, 0))) rb = some _ := upd_self _ _ _
  generalize upd H rb (.cells (Value.agg #[.int .u64 0, .slice none 0 0, .slice none 0 0]).cells tC (0, 0)) = H1 at E1 e1 ⊢
  refine ⟨_, _, _, _, _, (show AQ Tryd.prog (Instr.build tGate #[(0, .int .i64 1), (1, .int .i64 1)]) (.agg #[.int .i64 1, .int .i64 1, .int .i64 0, .int .i64 0, .int .u64 0]) from fun W => by kernel_rfl), _, _, _, _, _, (show AQ Tryd.prog (Instr.build tGate #[(0, .int .i64 1), (1, .int .i64 1)]) (.agg #[.int .i64 1, .int .i64 1, .int .i64 0, .int .i64 0, .int .u64 0]) from fun W => by kernel_rfl), _, _, _, _, _, (show AQ Tryd.prog (Instr.build tGate #[(0, .int .i64 3), (2, .int .i64 0), (3, .int .i64 1)]) (.agg #[.int .i64 3, .int .i64 0, .int .i64 0, .int .i64 1, .int .u64 0]) from fun W => by kernel_rfl), _, _, _, _, _, (show AQ Tryd.prog (Instr.build tGate #[(0, .int .i64 3), (2, .int .i64 1), (3, .int .i64 0)]) (.agg #[.int .i64 3, .int .i64 0, .int .i64 1, .int .i64 0, .int .u64 0]) from fun W => by kernel_rfl), _, _, _, _, _, (show AQ Tryd.prog (Instr.build tGate #[(0, .int .i64 6), (2, .int .i64 2), (3, .int .i64 3)]) (.agg #[.int .i64 6, .int .i64 0, .int .i64 2, .int .i64 3, .int .u64 0]) from fun W => by kernel_rfl), ?_⟩
  refine lit_g5 (fun gb H2 X2 gn g2 => ⟨_, _, _, rfl, lit_o1b (fun ob H3 X3 on o3 => ⟨_, _, _, rfl, _, _, _, _, _, _, _, (show AQ Tryd.prog (Instr.build tC #[(0, .int .u64 31), (1, .slice (some ⟨gb, 0, none⟩) 5 5), (2, .slice (some ⟨ob, 0, none⟩) 1 1)]) (.agg #[.int .u64 31, .slice (some ⟨gb, 0, none⟩) 5 5, .slice (some ⟨ob, 0, none⟩) 1 1]) from fun W => by kernel_rfl), ?_⟩)⟩)
  have R3 := X3 _ _ (X2 _ _ e1)
  have g3 := X3 _ _ g2
  refine h_sta (old := (Value.agg #[.int .u64 0, .slice none 0 0, .slice none 0 0]).cells) (vs := [.int .u64 31, .slice (some ⟨gb, 0, none⟩) 5 5, .slice (some ⟨ob, 0, none⟩) 1 1]) (by kernel_rfl) rfl R3 rbase rfl ?_
  have n1 : gb ≠ rb := fun e => by rw [e, R3] at g3; exact absurd (cells_tag g3) (by decide)
  have n2 : ob ≠ rb := fun e => by rw [e, R3] at o3; exact absurd (cells_tag o3) (by decide)
  refine ⟨_, q_res1 rfl (upd_self _ _ _), hk _ _ _ (ext_same (E1.trans (X2.trans X3)) rn (fun k hk => upd_ne _ hk)) ⟨⟨rfl, rd_blk (by rw [upd_ne _ n1]; exact g3) rfl⟩, ⟨rfl, rd_blk (by rw [upd_ne _ n2]; exact o3) rfl⟩, by decide, by decide, by decide⟩⟩
/-- Two circuits are compared. -/
theorem h_equal32 (h1 : Circ H A n gs A' n' outs) (h2 : Circ H B m gs' B' m' outs') (hk1 : P = P' ∧ gs = gs' ∧ outs = outs' → ∀ H', Ext H H' → K (.bool true) H') (hk2 : ¬ (P = P' ∧ gs = gs' ∧ outs = outs') → ∀ H', Ext H H' → K (.bool false) H') :
    HCall Tryd.prog base 19 #[.agg #[.int .u64 P, .slice A n c, .slice A' n' c'], .agg #[.int .u64 P', .slice B m d, .slice B' m' d']] H K := by
  refine privityref32_Equal.spec ?_
  unfold privityref32_Equal.sh
  refine h_cbox (fun xb H1 X1 cb => ⟨_, rfl, h_cbox (fun yb H2 X2 db => ⟨_, rfl, ?_⟩)⟩)
  have X := X1.trans X2
  have cb := cb.ext X2
  have c1 := h1.ext X
  have c2 := h2.ext X
  obtain rfl := h1.g.1
  obtain rfl := h1.o.1
  obtain rfl := h2.g.1
  obtain rfl := h2.o.1
  have lg := h1.lg
  have lo := h1.lo
  refine ⟨_, fc0 xb, _, cb.qp, _, fc0 yb, _, db.qp, ?_⟩
  by_cases eP : P = P'
  rotate_left
  · rw [if_neg (by simpa using eP)]
    exact hk2 (fun h => eP h.1) H2 X
  rw [if_pos (by simpa using eP)]
  refine ⟨_, fc1 xb, _, _, _, cb.qgs, _, fc1 yb, _, _, _, db.qgs, ?_⟩
  by_cases eL : gs.length = gs'.length
  rotate_left
  · rw [if_neg (by rw [Bool.not_eq_false, bne_iff_ne]; omega)]
    exact hk2 (fun h => eL (by rw [h.2.1])) H2 X
  rw [if_pos (by rw [eL]; simp)]
  refine ⟨_, fc2 xb, _, _, _, cb.qouts, _, fc2 yb, _, _, _, db.qouts, ?_⟩
  by_cases eO : outs.length = outs'.length
  rotate_left
  · rw [if_pos (by rw [bne_iff_ne]; omega)]
    exact hk2 (fun h => eO (by rw [h.2.2])) H2 X
  rw [if_neg (by rw [eO]; simp)]
  refine privityref32_Equal.loop0 (fun r y H' => H' = H2 ∧ ∃ j : Nat, y = j ∧ j ≤ gs.length ∧ r = gs.length - j ∧ ∀ t, t < j → gs.getD t gate0 = gs'.getD t gate0) gs.length ⟨rfl, 0, rfl, Nat.zero_le _, rfl, fun t h => by omega⟩ ?_
  rintro r y fr H3 ⟨rfl, j, rfl, hj, rfl, hall⟩
  unfold privityref32_Equal.B0
  refine ⟨_, fc1 xb, _, _, _, cb.qgs, ?_⟩
  by_cases hlt : j < gs.length
  · rw [if_pos (decide_eq_true (by omega))]
    obtain ⟨a1, q1, q2⟩ := c1.g.at c hlt
    obtain ⟨a2, q3, q4⟩ := c2.g.at d (i := j) (by omega)
    refine ⟨_, fc1 xb, _, _, _, cb.qgs, a1, q1, _, _, _, _, _, q2.all, _, fc1 yb, _, _, _, db.qgs, a2, q3, _, _, _, _, _, q4.all, _, aq_neqg _ _, ?_⟩
    by_cases e2 : gs.getD j gate0 = gs'.getD j gate0
    rotate_left
    · rw [if_pos (decide_eq_true e2)]
      exact hk2 (fun h => e2 (by rw [h.2.1])) H3 X
    rw [if_neg (fun h => (of_decide_eq_true h) e2)]
    exact ⟨gs.length - j - 1, by omega, _, rfl, rfl, j + 1, nxt (n := 1000000) (by omega) (by decide), by omega, by omega, all_succ hall e2⟩
  rw [if_neg (fun h => hlt (by have := of_decide_eq_true h; omega))]
  obtain rfl : j = gs.length := by omega
  have eg : gs = gs' := by
    apply List.ext_getElem eL
    intro t h1 h2
    have := hall t h1
    simpa [h1, h2] using this
  refine privityref32_Equal.loop1 (fun r y H' => H' = H3 ∧ ∃ j : Nat, y = j ∧ j ≤ outs.length ∧ r = outs.length - j ∧ ∀ t, t < j → outs.getD t 0 = outs'.getD t 0) outs.length ⟨rfl, 0, rfl, Nat.zero_le _, rfl, fun t h => by omega⟩ ?_
  rintro r y fr H4 ⟨rfl, j, rfl, hj, rfl, hall2⟩
  unfold privityref32_Equal.B1
  refine ⟨_, fc2 xb, _, _, _, cb.qouts, ?_⟩
  by_cases hlt : j < outs.length
  · rw [if_pos (decide_eq_true (by omega))]
    obtain ⟨a1, q1, q2⟩ := c1.o.at c' hlt
    obtain ⟨a2, q3, q4⟩ := c2.o.at d' (i := j) (by omega)
    refine ⟨_, fc2 xb, _, _, _, cb.qouts, a1, q1, _, q2, _, fc2 yb, _, _, _, db.qouts, a2, q3, _, q4, ?_⟩
    by_cases e2 : outs.getD j 0 = outs'.getD j 0
    rotate_left
    · rw [if_pos (by rw [bne_iff_ne]; exact e2)]
      exact hk2 (fun h => e2 (by rw [h.2.2])) H4 X
    rw [if_neg (by rw [e2]; simp)]
    exact ⟨outs.length - j - 1, by omega, _, rfl, rfl, j + 1, nxt (n := 1000000) (by omega) (by decide), by omega, by omega, all_succ hall2 e2⟩
  rw [if_neg (fun h => hlt (by have := of_decide_eq_true h; omega))]
  obtain rfl : j = outs.length := by omega
  have eo : outs = outs' := by
    apply List.ext_getElem eO
    intro t h1 h2
    have := hall2 t h1
    simpa [h1, h2] using this
  exact hk1 ⟨eP, eg, eo⟩ H4 X
end
theorem ex_ck : CK 31 ex1 [4] 31 wa1 [3] [0, 1, 2, 2, 3] := ⟨by decide +kernel, by decide +kernel, rfl, rfl, rfl, by decide, by decide, by decide, by decide, by decide⟩
theorem nil_ck : CK 31 [] [] 31 [] [] [] := ⟨by decide +kernel, by decide +kernel, rfl, rfl, rfl, by decide, by decide, by decide, by decide, by decide⟩
theorem circ_nil (H : HH) : Circ H none 0 [] none 0 [] := ⟨⟨rfl, .inl rfl⟩, ⟨rfl, .inl rfl⟩, by decide, by decide, by decide⟩
section
variable {base : Nat} {H : HH} {K : Value → HH → Prop}
theorem h_awake36 (hG : Gl H) (hk : ∀ H', Ext H H' → K (.bool true) H') : HCall Tryd.prog base 8 #[] H K := by
  refine privitylaw36_awake.spec ?_
  unfold privitylaw36_awake.sh
  refine h_example (fun A1 A2 H1 X1 ce => ⟨_, _, _, _, _, _, _, rfl, h_optimize (by unfold WF; decide) (by decide) ce (fun B1 n1 c1 B2 c2 B3 c3 H2 X2 og hc1 oo ot => ⟨_, _, _, _, _, _, _, _, _, _, rfl, ?_⟩)⟩)
  have eG : optG ex1 [4] = wa1 := by decide +kernel
  have eO : optO ex1 [4] = [3] := by decide +kernel
  have eT : optT ex1 [4] = [0, 1, 2, 2, 3] := by decide +kernel
  rw [eG] at og
  rw [eO] at oo
  rw [eT] at ot
  obtain rfl := og.1
  refine h_alloc (z := .agg #[.int .u64 0, .slice none 0 0, .slice none 0 0]) (by kernel_rfl) (fun rb rn rbase => ⟨_, rfl, h_alloc (z := .agg #[.slice none 0 0]) (by kernel_rfl) (fun tb tn tbase => ⟨_, rfl, ?_⟩)⟩)
  have hne : tb ≠ rb := fun e => by rw [e, upd_self] at tn; cases tn
  have tn' : H2 tb = none := by rwa [upd_ne _ hne] at tn
  have E2 : Ext H2 (upd (upd H2 rb (.cells (Value.agg #[.int .u64 0, .slice none 0 0, .slice none 0 0]).cells tC (0, 0))) tb (.cells (Value.agg #[.slice none 0 0]).cells tCert (0, 0))) := (Ext.upd rn _).trans (Ext.upd tn _)
  refine h_sta (old := (Value.agg #[.int .u64 0, .slice none 0 0, .slice none 0 0]).cells) (vs := [.int .u64 31, .slice B1 4 c1, .slice B2 1 c2]) (by kernel_rfl) rfl (by rw [upd_ne _ (fun e => hne e.symm)]; exact upd_self _ _ _) rbase rfl ?_
  have E3 := ext_same E2 rn (H4 := upd _ rb (.cells [.int .u64 31, .slice B1 4 c1, .slice B2 1 c2].toArray tC (0, 0))) (fun k hk => upd_ne _ hk)
  refine h_sta (old := (Value.agg #[.slice none 0 0]).cells) (vs := [.slice B3 5 c3]) (by kernel_rfl) rfl (by rw [upd_ne _ hne]; exact upd_self _ _ _) tbase rfl ?_
  have E4 := ext_same E3 tn' (H4 := upd _ tb (.cells [.slice B3 5 c3].toArray tCert (0, 0))) (fun k hk => upd_ne _ hk)
  have cv : CB (upd (upd (upd (upd H2 rb (.cells (Value.agg #[.int .u64 0, .slice none 0 0, .slice none 0 0]).cells tC (0, 0))) tb (.cells (Value.agg #[.slice none 0 0]).cells tCert (0, 0))) rb (.cells [.int .u64 31, .slice B1 4 c1, .slice B2 1 c2].toArray tC (0, 0))) tb (.cells [.slice B3 5 c3].toArray tCert (0, 0))) rb 31 B1 4 c1 B2 1 c2 := by
    unfold CB
    rw [upd_ne _ (fun e => hne e.symm)]; exact upd_self _ _ _
  have tv : TB (upd (upd (upd (upd H2 rb (.cells (Value.agg #[.int .u64 0, .slice none 0 0, .slice none 0 0]).cells tC (0, 0))) tb (.cells (Value.agg #[.slice none 0 0]).cells tCert (0, 0))) rb (.cells [.int .u64 31, .slice B1 4 c1, .slice B2 1 c2].toArray tC (0, 0))) tb (.cells [.slice B3 5 c3].toArray tCert (0, 0))) tb B3 5 c3 := upd_self _ _ _
  generalize upd (upd (upd (upd H2 rb (.cells (Value.agg #[.int .u64 0, .slice none 0 0, .slice none 0 0]).cells tC (0, 0))) tb (.cells (Value.agg #[.slice none 0 0]).cells tCert (0, 0))) rb (.cells [.int .u64 31, .slice B1 4 c1, .slice B2 1 c2].toArray tC (0, 0))) tb (.cells [.slice B3 5 c3].toArray tCert (0, 0)) = H3 at E4 cv tv ⊢
  have X03 := X1.trans (X2.trans E4)
  have co : Circ H3 B1 4 wa1 B2 1 [3] := ⟨og.ext E4, oo.ext E4, by decide, by decide, by decide⟩
  have ot3 : Outs H3 B3 5 [0, 1, 2, 2, 3] := ot.ext E4
  have G3 := hG.ext X03
  clear og oo ot E2 E3 E4 eG eO eT X2 X1 hG ce
  refine ⟨_, _, _, _, _, (show AQ Tryd.prog (Instr.build tGate #[(0, .int .i64 1), (1, .int .i64 1)]) (.agg #[.int .i64 1, .int .i64 1, .int .i64 0, .int .i64 0, .int .u64 0]) from fun W => by kernel_rfl), _, _, _, _, _, (show AQ Tryd.prog (Instr.build tGate #[(0, .int .i64 1), (1, .int .i64 1)]) (.agg #[.int .i64 1, .int .i64 1, .int .i64 0, .int .i64 0, .int .u64 0]) from fun W => by kernel_rfl), _, _, _, _, _, (show AQ Tryd.prog (Instr.build tGate #[(0, .int .i64 3), (2, .int .i64 0), (3, .int .i64 1)]) (.agg #[.int .i64 3, .int .i64 0, .int .i64 0, .int .i64 1, .int .u64 0]) from fun W => by kernel_rfl), _, _, _, _, _, (show AQ Tryd.prog (Instr.build tGate #[(0, .int .i64 6), (2, .int .i64 2), (3, .int .i64 2)]) (.agg #[.int .i64 6, .int .i64 0, .int .i64 2, .int .i64 2, .int .u64 0]) from fun W => by kernel_rfl), ?_⟩
  refine lit_gw (fun D1 H4 X4 dg => ⟨_, _, _, rfl, lit_o1 (fun D2 H5 X5 do_ => ⟨_, _, _, rfl, _, _, _, _, _, _, _, (show AQ Tryd.prog (Instr.build tC #[(0, .int .u64 31), (1, .slice D1 4 4), (2, .slice D2 1 1)]) (.agg #[.int .u64 31, .slice D1 4 4, .slice D2 1 1]) from fun W => by kernel_rfl), h_cvar (fun db H6 X6 dv => ?_)⟩)⟩)
  have X36 := X4.trans (X5.trans X6)
  have cw : Circ H6 D1 4 wa1 D2 1 [3] := ⟨dg.ext (X5.trans X6), do_.ext X6, by decide, by decide, by decide⟩
  refine ⟨_, _, _, _, _, _, _, (cv.ext X36).all, _, _, _, _, _, _, _, dv.all, h_equal32 (co.ext X36) cw (fun _ H7 X7 => ⟨_, rfl, ?_⟩) (fun h => absurd ⟨rfl, rfl, rfl⟩ h)⟩
  rw [if_pos rfl]
  have X37 := X36.trans X7
  refine ⟨_, ft0 tb, _, _, _, (tv.ext X37).to, lit_o5 (fun D3 H8 X8 l5 => ⟨_, _, _, rfl, ((tv.ext X37).ext X8).to, h_ints ((ot3.ext X37).ext X8) l5 (by decide) ⟨_, rfl, ?_⟩⟩)⟩
  rw [if_pos (by decide)]
  have X38 := X37.trans X8
  refine ⟨_, _, _, _, _, _, _, (cv.ext X38).all, _, _, _, (tv.ext X38).all, h_example (fun A4 A5 H9 X9 ce => ⟨_, _, _, _, _, _, _, rfl, ((tv.ext X38).ext X9).all, ((cv.ext X38).ext X9).all, ?_⟩)⟩
  have X39 := X38.trans X9
  refine h_check (G3.ext X39) ce (co.ext X39) (ot3.ext X39) (fun _ H10 X10 => ⟨_, rfl, ?_⟩) (fun h => absurd ex_ck h)
  rw [if_pos rfl]
  have X310 := X39.trans X10
  refine ⟨_, _, _, _, _, _, _, (cv.ext X310).all, _, _, _, (show AQ Tryd.prog (Instr.build tCert #[]) (.agg #[.slice none 0 0]) from fun W => by kernel_rfl), h_example (fun A6 A7 H11 X11 ce' => ⟨_, _, _, _, _, _, _, rfl, ((cv.ext X310).ext X11).all, ?_⟩)⟩
  have X311 := X310.trans X11
  refine h_check (G3.ext X311) ce' (co.ext X311) (Outs.none _) (fun h => absurd h.len (by decide)) (fun _ H12 X12 => ⟨_, rfl, ?_⟩)
  rw [if_pos (by decide)]
  have X312 := X311.trans X12
  refine ⟨_, _, _, _, _, _, _, (show AQ Tryd.prog (Instr.build tC #[(0, .int .u64 31)]) (.agg #[.int .u64 31, .slice none 0 0, .slice none 0 0]) from fun W => by kernel_rfl), _, _, _, _, _, _, _, (show AQ Tryd.prog (Instr.build tC #[(0, .int .u64 31)]) (.agg #[.int .u64 31, .slice none 0 0, .slice none 0 0]) from fun W => by kernel_rfl), _, _, _, (show AQ Tryd.prog (Instr.build tCert #[]) (.agg #[.slice none 0 0]) from fun W => by kernel_rfl), ?_⟩
  refine h_check (G3.ext X312) (circ_nil _) (circ_nil _) (Outs.none _) (fun _ H13 X13 => ⟨_, rfl, hk H13 (X03.trans (X312.trans X13))⟩) (fun h => absurd nil_ck h)
end
end Go.Proofs.YtjpaichcaaacbabDoor.HL
end
namespace Go.Proofs.YtjpaichcaaacbabDoor.HL
end Go.Proofs.YtjpaichcaaacbabDoor.HL
section
set_option linter.unusedVariables false
set_option linter.unusedSimpArgs false
set_option linter.unusedSectionVars false
set_option maxHeartbeats 4000000
namespace Go.Proofs.YtjpaichcaaacbabDoor.HL
open Go Go.Proofs.YtjpaichcaaacbabDoorNum Go.Proofs.YtjpaichcaaacbabDoor.FEv
theorem ref_move {P j na nb : Int} {i : Nat} {g : Gate} (h : refB P i g = true) (ha : sA g.kind = true → 0 ≤ na ∧ na < j) (hb : sB g.kind = true → 0 ≤ nb ∧ nb < j) : refB P j ⟨g.kind, g.frm, if sA g.kind = true then na else g.a, if sB g.kind = true then nb else g.b, g.k⟩ = true := by
  have hk := (gok_of h).kinds
  obtain ⟨kind, frm, a, b, k⟩ := g
  dsimp only at *
  rcases hk with rfl | rfl | rfl | rfl | rfl | rfl
  · simp [refB, sA, sB] at h ⊢; exact h
  · simp [refB, sA, sB] at h ⊢; exact h
  · have h1 := ha rfl
    have h2 := hb rfl
    simp [refB, sA, sB] at h ⊢; omega
  · have h1 := ha rfl
    have h2 := hb rfl
    simp [refB, sA, sB] at h ⊢; omega
  · have h1 := ha rfl
    simp [refB, sA, sB] at h ⊢; omega
  · have h1 := ha rfl
    have h2 := hb rfl
    simp [refB, sA, sB] at h ⊢; omega
/-- The gate of the new circuit for a gate that is kept. -/
def gN (gs : List Gate) (nd : Nat → Bool) (i : Nat) : Gate :=
  ⟨(gs.getD i gate0).kind, (gs.getD i gate0).frm, if sA (gs.getD i gate0).kind = true then (pos gs nd (fN gs (gs.getD i gate0).a.toNat) : Int) else (gs.getD i gate0).a, if sB (gs.getD i gate0).kind = true then (pos gs nd (fN gs (gs.getD i gate0).b.toNat) : Int) else (gs.getD i gate0).b, (gs.getD i gate0).k⟩
theorem inG_app {og : List Gate} {g : Gate} : inG (og ++ [g]) (og ++ [g]).length = if g.kind = 1 then inG og og.length ++ [og.length] else inG og og.length := by
  rw [List.length_append, List.length_singleton, inG_succ, getD_app_len rfl]
  have e : inG (og ++ [g]) og.length = inG og og.length := by
    unfold inG
    refine List.filter_congr (fun i hi => ?_)
    rw [getD_app_lt (List.mem_range.1 hi)]
  rw [e]
section
variable {gs : List Gate} {nd : Nat → Bool} (W : WF gs) (N : ND gs nd 0)
include W N
theorem mapG_eq {i : Nat} (hi : i < gs.length) (hk : kept gs nd i) : mapG gs (cL gs nd i).1 (gs.getD i gate0) = gN gs nd i := by
  obtain ⟨wa, wb⟩ := W i hi
  unfold mapG gN
  have ea : sA (gs.getD i gate0).kind = true → (cL gs nd i).1.getD (fN gs (gs.getD i gate0).a.toNat) 0 = (pos gs nd (fN gs (gs.getD i gate0).a.toNat) : Int) := fun sa => by
    have := wa sa
    have hf := fN_le W (i := (gs.getD i gate0).a.toNat) (by omega)
    rw [cL_get (by omega), tN_eq W _ (by omega), fN_fN W (by omega), if_pos (N.opA i (Nat.zero_le _) hi hk.1 sa)]
  have eb : sB (gs.getD i gate0).kind = true → (cL gs nd i).1.getD (fN gs (gs.getD i gate0).b.toNat) 0 = (pos gs nd (fN gs (gs.getD i gate0).b.toNat) : Int) := fun sb => by
    have := wb sb
    have hf := fN_le W (i := (gs.getD i gate0).b.toNat) (by omega)
    rw [cL_get (by omega), tN_eq W _ (by omega), fN_fN W (by omega), if_pos (N.opB i (Nat.zero_le _) hi hk.1 sb)]
  by_cases sa : sA (gs.getD i gate0).kind = true
  · by_cases sb : sB (gs.getD i gate0).kind = true
    · rw [if_pos sa, if_pos sa, if_pos sb, if_pos sb, ea sa, eb sb]
    · rw [if_pos sa, if_pos sa, if_neg sb, if_neg sb, ea sa]
  · have sb : ¬ sB (gs.getD i gate0).kind = true := fun h => sa (sB_sA h)
    rw [if_neg sa, if_neg sa, if_neg sb, if_neg sb]
theorem G_at {i : Nat} (hi : i < gs.length) (hk : kept gs nd i) : (cL gs nd gs.length).2.getD (pos gs nd i) gate0 = gN gs nd i := by
  rw [cL_at hk hi, mapG_eq W N hi hk]
theorem kept_in {i : Nat} (hi : i < gs.length) (h : (gs.getD i gate0).kind = 1) : kept gs nd i := ⟨N.inp i (Nat.zero_le _) hi h, fN_in W hi h⟩
theorem inG_opt : ∀ i, i ≤ gs.length → inG (cL gs nd i).2 (cL gs nd i).2.length = (inG gs i).map (pos gs nd)
  | 0, _ => rfl
  | i + 1, h => by
    have ih := inG_opt i (by omega)
    rw [inG_succ]
    by_cases hk : kept gs nd i
    · rw [cL_kept hk, inG_app, ih]
      have e : (mapG gs (cL gs nd i).1 (gs.getD i gate0)).kind = (gs.getD i gate0).kind := rfl
      rw [e]
      by_cases h1 : (gs.getD i gate0).kind = 1
      · rw [if_pos h1, if_pos h1, List.map_append]; rfl
      · rw [if_neg h1, if_neg h1]
    · have h1 : ¬ (gs.getD i gate0).kind = 1 := fun h1 => hk (kept_in W N (by omega) h1)
      rw [cL_drop hk, if_neg h1, ih]
theorem repA {i : Nat} (hi : i < gs.length) (h1 : (gs.getD i gate0).kind ≠ 1) (hn : nd (fN gs i) = true) :
    corrB (gs.getD i gate0) (gN gs nd (fN gs i)) (cL gs nd gs.length).1 = true := by
  obtain ⟨wa, wb⟩ := W i hi
  obtain ⟨r1, r2, r3⟩ := fN_key W hi h1
  have hfi := fN_le W hi
  have hr : fN gs i < gs.length := by omega
  obtain ⟨e1, e2, e3, e4⟩ := key_cases r2.symm
  unfold corrB gN
  dsimp only
  rw [← e1, ← e2]
  simp only [beq_self_eq_true, Bool.true_and]
  cases sa : sA (gs.getD i gate0).kind with
  | false => rfl
  | true =>
  have sa' : sA (gs.getD (fN gs i) gate0).kind = true := e1 ▸ sa
  have na := N.opA _ (Nat.zero_le _) hr hn sa'
  have wa := wa sa
  have wra := (W _ hr).1 sa'
  have tv : ∀ {z : Int}, 0 ≤ z → z < i → nd (fN gs z.toNat) = true → (cL gs nd gs.length).1.getD z.toNat 0 = (pos gs nd (fN gs z.toNat) : Int) := fun {z} z0 z1 hz => by
    rw [cL_get (by omega), tN_eq W _ (by omega), if_pos hz]
  cases sb : sB (gs.getD i gate0).kind with
  | false =>
    have ef := e3 sa sb
    rw [← ef] at na ⊢
    rw [tv wa.1 wa.2 na]
    simp
  | true =>
  have sb' : sB (gs.getD (fN gs i) gate0).kind = true := e1 ▸ sb
  have nb := N.opB _ (Nat.zero_le _) hr hn sb'
  have wb := wb sb
  rcases e4 sb with ⟨f1, f2⟩ | ⟨hc, f1, f2⟩
  · rw [← f1] at na ⊢
    rw [← f2] at nb ⊢
    rw [tv wa.1 wa.2 na, tv wb.1 wb.2 nb]
    simp
  · rw [← f2] at na ⊢
    rw [← f1] at nb ⊢
    rw [tv wa.1 wa.2 nb, tv wb.1 wb.2 na, hc]
    simp
end
theorem opt_ck {P : Int} {gs : List Gate} {outs : List Int} (v : VOK P gs outs) (hnn : ∀ g ∈ gs, 0 ≤ g.k) : CK P gs outs P (optG gs outs) (optO gs outs) (optT gs outs) := by
  have W := v.wf hnn
  have N := ndAll_nd (outs := outs) W
  have lT : (optT gs outs).length = gs.length := cL_len _ _ _
  have lO : (optO gs outs).length = outs.length := by simp [optO]
  have lG : (optG gs outs).length ≤ gs.length := cL_le _ _ _
  have tg : ∀ {i : Nat}, i < gs.length → (optT gs outs).getD i 0 = if ndAll gs outs (fN gs i) = true then (pos gs (ndAll gs outs) (fN gs i) : Int) else -1 := fun hi => by
    unfold optT
    rw [cL_get hi, tN_eq W _ hi]
  have pl : ∀ {i : Nat}, i < gs.length → kept gs (ndAll gs outs) i → pos gs (ndAll gs outs) i < (optG gs outs).length := fun hi hk => pos_lt hk hi
  have eo : ∀ {i : Nat}, i < outs.length → (optO gs outs).getD i 0 = (optT gs outs).getD (outs.getD i 0).toNat 0 := fun {i} hi => by
    unfold optO
    rw [List.getD_eq_getElem?_getD, List.getElem?_map, List.getElem?_eq_getElem hi]
    simp [hi]
  have ov : ∀ {i : Nat}, i < outs.length → (optO gs outs).getD i 0 = (pos gs (ndAll gs outs) (fN gs (outs.getD i 0).toNat) : Int) ∧ pos gs (ndAll gs outs) (fN gs (outs.getD i 0).toNat) < (optG gs outs).length := fun {i} hi => by
    have ho := v.outA hi
    have hn := ndAll_out (outs := outs) W hi
    have hf := fN_le W (i := (outs.getD i 0).toNat) (by omega)
    rw [eo hi, tg (by omega), if_pos hn]
    exact ⟨rfl, pl (by omega) (kept_rep W (by omega) hn)⟩
  have iG := inG_opt W N gs.length (Nat.le_refl _)
  refine ⟨validB_iff.2 v, validB_iff.2 ⟨v.sup, by have := v.len; omega, by rw [lO]; exact v.olen, fun p hp => ?_, fun x hx => ?_⟩, rfl, lT, lO.symm, fun i hi => ?_, ?_, fun i hi => ?_, fun i hi h1 ht => ?_, fun i hi => (eo hi).symm⟩
  · obtain ⟨i, hi, hk, rfl⟩ := pos_onto (gs := gs) (nd := ndAll gs outs) (j := gs.length) hp
    have e : (optG gs outs).getD (pos gs (ndAll gs outs) i) gate0 = gN gs (ndAll gs outs) i := G_at W N hi hk
    have hr := v.gate i hi
    rw [right_ref (nn_get hnn i)] at hr
    rw [e, right_ref (by exact nn_get hnn i)]
    obtain ⟨wa, wb⟩ := W i hi
    refine ref_move hr (fun sa => ?_) (fun sb => ?_)
    · have := wa sa
      have hf := fN_le W (i := (gs.getD i gate0).a.toNat) (by omega)
      have := pos_lt (kept_rep W (by omega) (N.opA i (Nat.zero_le _) hi hk.1 sa)) (show fN gs (gs.getD i gate0).a.toNat < i by omega)
      omega
    · have := wb sb
      have hf := fN_le W (i := (gs.getD i gate0).b.toNat) (by omega)
      have := pos_lt (kept_rep W (by omega) (N.opB i (Nat.zero_le _) hi hk.1 sb)) (show fN gs (gs.getD i gate0).b.toNat < i by omega)
      omega
  · obtain ⟨i, hi, e⟩ := List.mem_iff_getElem.1 hx
    have := ov (i := i) (by omega)
    have e2 : (optO gs outs).getD i 0 = x := by rw [← e]; simp [hi]
    omega
  · rw [lT] at hi
    rw [tg hi]
    have hf := fN_le W hi
    by_cases hn : ndAll gs outs (fN gs i) = true
    · rw [if_pos hn]
      have := pl (by omega) (kept_rep W hi hn)
      omega
    · rw [if_neg hn]; omega
  · have : inG (optG gs outs) (optG gs outs).length = (inG gs gs.length).map (pos gs (ndAll gs outs)) := iG
    rw [this, List.length_map]
  · have e : inG (optG gs outs) (optG gs outs).length = (inG gs gs.length).map (pos gs (ndAll gs outs)) := iG
    obtain ⟨h1, h2⟩ := inG_get hi
    have hk := kept_in W N h1 h2
    have ep : ((inG gs gs.length).map (pos gs (ndAll gs outs))).getD i 0 = pos gs (ndAll gs outs) ((inG gs gs.length).getD i 0) := by
      rw [List.getD_eq_getElem?_getD, List.getElem?_map, List.getElem?_eq_getElem hi]
      simp [hi]
    rw [e, ep, tg h1, hk.2, if_pos hk.1]
    refine ⟨rfl, ?_⟩
    have := G_at W N h1 hk
    unfold optG
    rw [this]
    unfold gN
    rw [h2]
    have sa : sA 1 = false := rfl
    have sb : sB 1 = false := rfl
    rw [sa, sb, if_neg (by decide), if_neg (by decide), ← h2]
  · rw [tg hi] at ht ⊢
    by_cases hn : ndAll gs outs (fN gs i) = true
    · rw [if_pos hn]
      have hf := fN_le W hi
      have := G_at W N (i := fN gs i) (by omega) (kept_rep W hi hn)
      rw [Int.toNat_natCast]
      unfold optG
      rw [this]
      exact repA W N hi h1 hn
    · rw [if_neg hn] at ht; omega
end Go.Proofs.YtjpaichcaaacbabDoor.HL
end
section
set_option linter.unusedVariables false
set_option linter.unusedSimpArgs false
set_option linter.unusedSectionVars false
set_option maxHeartbeats 8000000
namespace Go.Proofs.YtjpaichcaaacbabDoor.HL
open Go Go.Proofs.YtjpaichcaaacbabDoorNum Go.Proofs.YtjpaichcaaacbabDoor.FEv
section
variable {base : Nat} {H : HH} {A A' T : Option Addr} {n n' c c' nt ct : Nat} {P : Int} {gs : List Gate} {outs tt : List Int}
/-- The variables of a circuit and of a certificate. -/
theorem h_ctvars {old old' : Value} {C : Addr → Addr → HH → Prop} (hk : ∀ a b H', Ext H H' → CB H' a P A n c A' n' c' → TB H' b T nt ct → C ⟨a, 0, none⟩ ⟨b, 0, none⟩ H') :
    HRun Tryd.prog base (Instr.alloc tC true old) H fun v1 H1 => ∃ a : Addr, v1 = .pointer (some a) ∧ HRun Tryd.prog base (Instr.alloc tCert true old') H1 fun v2 H2 => ∃ b : Addr, v2 = .pointer (some b) ∧ HRun Tryd.prog base (Instr.storeAt tC (.pointer (some a)) (.agg #[.int .u64 P, .slice A n c, .slice A' n' c'])) H2 fun _ H3 => HRun Tryd.prog base (Instr.storeAt tCert (.pointer (some b)) (.agg #[.slice T nt ct])) H3 fun _ H4 => C a b H4 := by
  refine h_alloc (z := .agg #[.int .u64 0, .slice none 0 0, .slice none 0 0]) (by kernel_rfl) (fun rb rn rbase => ⟨_, rfl, h_alloc (z := .agg #[.slice none 0 0]) (by kernel_rfl) (fun tb tn tbase => ⟨_, rfl, ?_⟩)⟩)
  have hne : tb ≠ rb := fun e => by rw [e, upd_self] at tn; cases tn
  have tn' : H tb = none := by rwa [upd_ne _ hne] at tn
  have E2 : Ext H (upd (upd H rb (.cells (Value.agg #[.int .u64 0, .slice none 0 0, .slice none 0 0]).cells tC (0, 0))) tb (.cells (Value.agg #[.slice none 0 0]).cells tCert (0, 0))) := (Ext.upd rn _).trans (Ext.upd tn _)
  refine h_sta (old := (Value.agg #[.int .u64 0, .slice none 0 0, .slice none 0 0]).cells) (vs := [.int .u64 P, .slice A n c, .slice A' n' c']) (by kernel_rfl) rfl (by rw [upd_ne _ (fun e => hne e.symm)]; exact upd_self _ _ _) rbase rfl ?_
  have E3 := ext_same E2 rn (H4 := upd _ rb (.cells [.int .u64 P, .slice A n c, .slice A' n' c'].toArray tC (0, 0))) (fun k hk => upd_ne _ hk)
  refine h_sta (old := (Value.agg #[.slice none 0 0]).cells) (vs := [.slice T nt ct]) (by kernel_rfl) rfl (by rw [upd_ne _ hne]; exact upd_self _ _ _) tbase rfl ?_
  have E4 := ext_same E3 tn' (H4 := upd _ tb (.cells [.slice T nt ct].toArray tCert (0, 0))) (fun k hk => upd_ne _ hk)
  refine hk _ _ _ E4 ?_ (upd_self _ _ _)
  unfold CB
  rw [upd_ne _ (fun e => hne e.symm)]; exact upd_self _ _ _
theorem opt_nn {nd : Nat → Bool} (hnn : ∀ g ∈ gs, 0 ≤ g.k) : ∀ i, ∀ g ∈ (cL gs nd i).2, 0 ≤ g.k
  | 0 => fun g h => by cases h
  | i + 1 => fun g h => by
    by_cases hk : kept gs nd i
    · rw [cL_kept hk] at h
      rcases List.mem_append.1 h with h | h
      · exact opt_nn hnn i g h
      · rw [List.mem_singleton.1 h]
        exact nn_get hnn i
    · rw [cL_drop hk] at h
      exact opt_nn hnn i g h
/-- What Optimize answers is a circuit. -/
theorem opt_circ {H' : HH} {A1 A2 : Option Addr} {n1 : Nat} (h : Circ H A n gs A' n' outs) (g : Gs H' A1 n1 (optG gs outs)) (o : Outs H' A2 outs.length (optO gs outs)) : Circ H' A1 n1 (optG gs outs) A2 outs.length (optO gs outs) :=
  ⟨g, o, opt_nn h.nn _, by have := cL_le gs (ndAll gs outs) gs.length; have := h.lg; unfold optG; omega, by have := h.lo; simp [optO]; omega⟩
theorem VOK.outs' {gs : List Gate} {outs : List Int} (h : VOK P gs outs) : ∀ i, i < outs.length → 0 ≤ outs.getD i 0 ∧ outs.getD i 0 < (gs.length : Int) := fun i hi => h.outA hi
end
end Go.Proofs.YtjpaichcaaacbabDoor.HL
end
section
set_option linter.unusedVariables false
set_option linter.unusedSimpArgs false
set_option linter.unusedSectionVars false
set_option maxHeartbeats 4000000
namespace Go.Proofs.YtjpaichcaaacbabDoor.HL
open Go Go.Proofs.YtjpaichcaaacbabDoorNum Go.Proofs.YtjpaichcaaacbabDoor.FEv
/-- The input gates, in their order. -/
def sq (gs : List Gate) (n : Nat) : List Gate := (inG gs n).map fun i => gs.getD i gate0
theorem sq_succ (gs : List Gate) (n : Nat) : sq gs (n + 1) = if (gs.getD n gate0).kind = 1 then sq gs n ++ [gs.getD n gate0] else sq gs n := by
  unfold sq
  rw [inG_succ]
  by_cases h : (gs.getD n gate0).kind = 1
  · rw [if_pos h, if_pos h, List.map_append]; rfl
  · rw [if_neg h, if_neg h]
def cntS (s : List Gate) (party : Int) : Nat := (s.filter fun g => g.frm == party).length
theorem cnt_sq (gs : List Gate) (party : Int) : ∀ n, n ≤ gs.length → cnt gs n party = cntS (sq gs n) party
  | 0, _ => by simp [cnt, cntS, sq, inG]
  | n + 1, h => by
    have ih := cnt_sq gs party n (by omega)
    rw [cnt_succ (by omega), ih, sq_succ]
    by_cases k1 : (gs.getD n gate0).kind = 1
    · rw [if_pos k1]
      unfold cntS
      rw [List.filter_append, List.length_append]
      congr 1
      unfold isIn
      rw [k1]
      cases hf : ((gs.getD n gate0).frm == party) with
      | true => simp only [List.filter_cons, hf]; rfl
      | false => simp only [List.filter_cons, hf]; rfl
    · rw [if_neg k1, isIn_not k1]; rfl
def badS (s : List Gate) (l : List Int) (party : Int) : Bool := (List.range s.length).any fun j => (s.getD j gate0).frm == party && (s.getD j gate0).k == 1 && decide (l.getD (cntS (s.take j) party) 0 > 1)
theorem any_congrN {n : Nat} {p q : Nat → Bool} (h : ∀ j, j < n → p j = q j) : (List.range n).any p = (List.range n).any q := by
  rw [Bool.eq_iff_iff, List.any_eq_true, List.any_eq_true]
  constructor
  · rintro ⟨x, h1, h2⟩
    exact ⟨x, h1, by rw [← h x (List.mem_range.1 h1)]; exact h2⟩
  · rintro ⟨x, h1, h2⟩
    exact ⟨x, h1, by rw [h x (List.mem_range.1 h1)]; exact h2⟩
theorem badS_snoc (s : List Gate) (g : Gate) (l : List Int) (party : Int) : badS (s ++ [g]) l party = (badS s l party || (g.frm == party && g.k == 1 && decide (l.getD (cntS s party) 0 > 1))) := by
  unfold badS
  rw [List.length_append, List.length_singleton, List.range_succ, List.any_append, List.any_cons, List.any_nil, Bool.or_false]
  have e1 : (s ++ [g]).getD s.length gate0 = g := by
    rw [List.getD_eq_getElem?_getD, List.getElem?_append_right (Nat.le_refl _), Nat.sub_self]; rfl
  rw [e1, List.take_append_of_le_length (Nat.le_refl _), List.take_length]
  congr 1
  refine any_congrN (fun j hj => ?_)
  have e2 : (s ++ [g]).getD j gate0 = s.getD j gate0 := by
    rw [List.getD_eq_getElem?_getD, List.getD_eq_getElem?_getD, List.getElem?_append_left hj]
  rw [e2, List.take_append_of_le_length (by omega)]
theorem badR_sq (gs : List Gate) (l : List Int) (party : Int) : ∀ n, n ≤ gs.length → badR gs l party n = badS (sq gs n) l party
  | 0, _ => by simp [badR, badS, sq, inG]
  | n + 1, h => by
    have ih := badR_sq gs l party n (by omega)
    rw [badR_succ, ih, sq_succ, cnt_sq gs party n (by omega)]
    unfold isBit
    by_cases k1 : (gs.getD n gate0).kind = 1
    · rw [if_pos k1, badS_snoc]
      unfold isIn
      rw [k1]
      simp
    · rw [if_neg k1, isIn_not k1]
      simp
theorem inG_take (gs : List Gate) {j : Nat} : ∀ {n : Nat}, j < (inG gs n).length → inG gs ((inG gs n).getD j 0) = (inG gs n).take j
  | 0, h => by simp [inG] at h
  | n + 1, h => by
    rw [inG_succ] at h ⊢
    by_cases k1 : (gs.getD n gate0).kind = 1
    · rw [if_pos k1] at h ⊢
      rcases Nat.lt_or_ge j (inG gs n).length with h1 | h1
      · rw [List.getD_eq_getElem?_getD, List.getElem?_append_left h1, ← List.getD_eq_getElem?_getD, inG_take gs h1, List.take_append_of_le_length (by omega)]
      · rw [List.length_append, List.length_singleton] at h
        have hj : j = (inG gs n).length := by omega
        rw [List.getD_eq_getElem?_getD, List.getElem?_append_right (by omega), hj, Nat.sub_self, List.take_append_of_le_length (Nat.le_refl _), List.take_length]
        rfl
    · rw [if_neg k1] at h ⊢
      exact inG_take gs h
theorem sq_take (gs : List Gate) {j n : Nat} (h : j < (inG gs n).length) : sq gs ((inG gs n).getD j 0) = (sq gs n).take j := by
  unfold sq
  rw [inG_take gs h, List.map_take]
theorem inG_at {gs : List Gate} {n i : Nat} (hi : i < n) (h1 : (gs.getD i gate0).kind = 1) : ∃ j, j < (inG gs n).length ∧ (inG gs n).getD j 0 = i := by
  have hm : i ∈ inG gs n := by
    unfold inG
    rw [List.mem_filter]
    exact ⟨List.mem_range.2 hi, by rw [h1]; rfl⟩
  obtain ⟨j, hj, e⟩ := List.mem_iff_getElem.1 hm
  exact ⟨j, hj, by simp [hj, e]⟩
section
variable {P P' : Int} {gs gs' : List Gate} {outs outs' tt : List Int} {ins : List (List Int)}
theorem CK.sq_eq (h : CK P gs outs P' gs' outs' tt) : sq gs gs.length = sq gs' gs'.length := by
  unfold sq
  apply List.ext_getElem (by rw [List.length_map, List.length_map]; exact h.inl)
  intro j h1 h2
  rw [List.length_map] at h1 h2
  have := (h.ins j h1).2
  simpa [h1, h2] using this
theorem CK.cnt_eq (h : CK P gs outs P' gs' outs' tt) (party : Int) : cnt gs gs.length party = cnt gs' gs'.length party := by
  rw [cnt_sq gs party _ (Nat.le_refl _), cnt_sq gs' party _ (Nat.le_refl _), h.sq_eq]
theorem CK.eff_eq (h : CK P gs outs P' gs' outs' tt) (ins : List (List Int)) : effL gs ins = effL gs' ins := by
  unfold effL effR
  congr 1
  funext j
  rw [badR_sq gs _ _ _ (Nat.le_refl _), badR_sq gs' _ _ _ (Nat.le_refl _), h.sq_eq]
theorem mem_sq {gs : List Gate} {g : Gate} (hg : g ∈ gs) (h1 : g.kind = 1) : g ∈ sq gs gs.length := by
  obtain ⟨i, hi, e⟩ := List.mem_iff_getElem.1 hg
  have eg : gs.getD i gate0 = g := by simp [hi, e]
  unfold sq
  refine List.mem_map.2 ⟨i, ?_, eg⟩
  unfold inG
  rw [List.mem_filter]
  exact ⟨List.mem_range.2 hi, by rw [eg, h1]; rfl⟩
theorem sq_mem {gs : List Gate} {g : Gate} (h : g ∈ sq gs gs.length) : g ∈ gs ∧ g.kind = 1 := by
  unfold sq at h
  obtain ⟨i, hi, rfl⟩ := List.mem_map.1 h
  obtain ⟨h1, h2⟩ := inG_mem hi
  exact ⟨getD_memG h1, h2⟩
theorem CK.fits1 (h : CK P gs outs P' gs' outs' tt) (hf : fitsB P gs ins = true) : fitsB P' gs' ins = true := by
  obtain ⟨f1, f2⟩ := fitsB_iff.1 hf
  refine fitsB_iff.2 ⟨fun g hg h1 => ?_, fun j hj => ?_⟩
  · have := mem_sq hg h1
    rw [← h.sq_eq] at this
    obtain ⟨h2, h3⟩ := sq_mem this
    exact f1 g h2 h3
  · rw [← h.cnt_eq, ← h.p]; exact f2 j hj
theorem CK.fits2 (h : CK P gs outs P' gs' outs' tt) (hf : fitsB P' gs' ins = true) : fitsB P gs ins = true := by
  obtain ⟨f1, f2⟩ := fitsB_iff.1 hf
  refine fitsB_iff.2 ⟨fun g hg h1 => ?_, fun j hj => ?_⟩
  · have := mem_sq hg h1
    rw [h.sq_eq] at this
    obtain ⟨h2, h3⟩ := sq_mem this
    exact f1 g h2 h3
  · rw [h.cnt_eq, h.p]; exact f2 j hj
end
section
variable {p : Nat} [NeZero p] {gs gs' : List Gate} {outs outs' tt : List Int} {ins : List (List Int)}
theorem CK.vals (h : CK p gs outs p gs' outs' tt) (hnn : ∀ g ∈ gs, 0 ≤ g.k) (hnn' : ∀ g ∈ gs', 0 ≤ g.k) : ∀ i, i < gs.length → 0 ≤ tt.getD i 0 → cf (evL gs (ef p gs ins) gs.length) i = cf (evL gs' (ef p gs' ins) gs'.length) (tt.getD i 0).toNat := by
  have hw : ef p gs' ins = ef p gs ins := by unfold ef; rw [h.eff_eq ins]
  rw [hw]
  generalize ef p gs ins = w
  have v := validB_iff.1 h.v
  have v' := validB_iff.1 h.v'
  intro i
  induction i using Nat.strongRecOn with
  | _ i ih =>
  intro hi ht
  have hr := (h.rng i (by rw [h.len]; exact hi)).2
  have hq : (tt.getD i 0).toNat < gs'.length := by omega
  rw [evL_cf hi, evL_cf hq]
  have g1 := v.gok hnn hi
  have g2 := v'.gok hnn' hq
  have opI : ∀ {z : Int}, 0 ≤ z → z < i → 0 ≤ tt.getD z.toNat 0 → cf (evL gs w i) z.toNat = cf (evL gs' w gs'.length) (tt.getD z.toNat 0).toNat := fun {z} z0 z1 zt => by
    rw [evL_old (show z.toNat < i by omega) (Nat.le_of_lt hi)]
    exact ih _ (by omega) (by omega) zt
  have opN : ∀ {z : Int}, 0 ≤ z → z < ((tt.getD i 0).toNat : Int) → cf (evL gs' w (tt.getD i 0).toNat) z.toNat = cf (evL gs' w gs'.length) z.toNat := fun {z} z0 z1 => evL_old (by omega) (Nat.le_of_lt hq)
  by_cases k1 : (gs.getD i gate0).kind = 1
  · obtain ⟨j, hj, ej⟩ := inG_at hi k1
    obtain ⟨h1, h2⟩ := h.ins j hj
    rw [ej] at h1 h2
    have e : (tt.getD i 0).toNat = (inG gs' gs'.length).getD j 0 := by omega
    have k1' : (gs'.getD (tt.getD i 0).toNat gate0).kind = 1 := by rw [e, ← h2]; exact k1
    unfold stepV
    rw [if_pos k1, if_pos k1']
    have ec : cnt gs i (gs.getD i gate0).frm = cnt gs' (tt.getD i 0).toNat (gs.getD i gate0).frm := by
      rw [cnt_sq gs _ _ (Nat.le_of_lt hi), cnt_sq gs' _ _ (Nat.le_of_lt hq), e]
      have s1 := sq_take gs hj
      have s2 := sq_take gs' (j := j) (n := gs'.length) (by rw [← h.inl]; exact hj)
      rw [ej] at s1
      rw [s1, s2, h.sq_eq]
    rw [e, ← h2, ← e, ec]
  have hc := h.cor i hi k1 ht
  unfold corrB at hc
  simp only [Bool.and_eq_true, beq_iff_eq, Bool.or_eq_true, Bool.not_eq_true', decide_eq_true_eq] at hc
  obtain ⟨c1, c2, c3⟩ := hc
  generalize hg : gs.getD i gate0 = g at *
  generalize hg' : gs'.getD (tt.getD i 0).toNat gate0 = g' at *
  unfold stepV
  rw [hg, hg', c1]
  rw [if_neg k1, if_neg k1]
  by_cases k2 : g.kind = 2
  · rw [if_pos k2, if_pos k2, c2]
  rw [if_neg k2, if_neg k2]
  have kk := g1.kinds
  have sa : sA g.kind = true := by
    unfold sA
    simp only [Bool.or_eq_true, beq_iff_eq]
    omega
  rcases c3 with c3 | ⟨x0, c3⟩
  · rw [sa] at c3; cases c3
  obtain ⟨a0, a1⟩ := g1.sideA sa
  obtain ⟨a0', a1'⟩ := g2.sideA (by rw [c1]; exact sa)
  by_cases sb : sB g.kind = true
  · rw [if_pos sb] at c3
    simp only [Bool.and_eq_true, beq_iff_eq, Bool.or_eq_true, decide_eq_true_eq] at c3
    obtain ⟨y0, c3⟩ := c3
    obtain ⟨b0, b1⟩ := g1.sideB sb
    obtain ⟨b0', b1'⟩ := g2.sideB (by rw [c1]; exact sb)
    rw [opI a0 a1 x0, opI b0 b1 y0, opN a0' a1', opN b0' b1']
    rcases c3 with ⟨d1, d2⟩ | ⟨hcm, d1, d2⟩
    · rw [d1, d2]
      by_cases k5 : g.kind = 5
      · rw [k5] at sb; cases sb
      · rw [if_neg k5, if_neg k5]
    · rw [d1, d2]
      unfold cm at hcm
      simp only [Bool.or_eq_true, beq_iff_eq] at hcm
      rcases hcm with k3 | k6
      · rw [if_pos k3, if_pos k3]; grind
      · have n3 : ¬ g.kind = 3 := by omega
        have n4 : ¬ g.kind = 4 := by omega
        have n5 : ¬ g.kind = 5 := by omega
        rw [if_neg n3, if_neg n3, if_neg n4, if_neg n4, if_neg n5, if_neg n5]; grind
  · have k5 : g.kind = 5 := by
      have : ¬ (g.kind = 3 ∨ (g.kind = 4 ∨ g.kind = 6)) := fun h => sb (by unfold sB; simp only [Bool.or_eq_true, beq_iff_eq]; exact h)
      omega
    rw [if_neg sb] at c3
    have d1 : g'.a = tt.getD g.a.toNat 0 := by simpa using c3
    have n3 : ¬ g.kind = 3 := by omega
    have n4 : ¬ g.kind = 4 := by omega
    rw [if_neg n3, if_neg n3, if_neg n4, if_neg n4, if_pos k5, if_pos k5, opI a0 a1 x0, opN a0' a1', d1, c2]
theorem CK.outL_eq (h : CK p gs outs p gs' outs' tt) (hnn : ∀ g ∈ gs, 0 ≤ g.k) (hnn' : ∀ g ∈ gs', 0 ≤ g.k) : outL outs (evL gs (ef p gs ins) gs.length) = outL outs' (evL gs' (ef p gs' ins) gs'.length) := by
  have v := validB_iff.1 h.v
  have v' := validB_iff.1 h.v'
  unfold outL
  apply List.ext_getElem (by rw [List.length_map, List.length_map]; exact h.olen)
  intro i h1 h2
  rw [List.length_map] at h1 h2
  rw [List.getElem_map, List.getElem_map]
  have e1 : outs.getD i 0 = outs[i] := by simp [h1]
  have e2 : outs'.getD i 0 = outs'[i] := by simp [h2]
  have ho := v.outA h1
  have ho' := v'.outA h2
  have hh := h.out i h1
  rw [← e1, ← e2]
  rw [h.vals hnn hnn' _ (by omega) (by omega), hh]
end
end Go.Proofs.YtjpaichcaaacbabDoor.HL
end
section
set_option linter.unusedVariables false
set_option linter.unusedSimpArgs false
set_option linter.unusedSectionVars false
set_option maxHeartbeats 8000000
namespace Go.Proofs.YtjpaichcaaacbabDoor.HL
open Go Go.Proofs.YtjpaichcaaacbabDoorNum Go.Proofs.YtjpaichcaaacbabDoor.FEv
section
variable {base : Nat} {H : HH} {A A' B : Option Addr} {n n' c c' m d : Nat} {P : Int} {gs : List Gate} {outs : List Int} {ins : List (List Int)}
theorem law_OptimizeEquivalent (hG : Gl H) (hT : GT H) (hg : Gs H A n gs) (hcg : n ≤ c) (ho : Outs H A' n' outs) (hnn : ∀ g ∈ gs, 0 ≤ g.k) (hi : MatC H B m ins) (hni : ∀ l ∈ ins, ∀ x ∈ l, 0 ≤ x) :
    HCall Tryd.prog base 4 #[.agg #[.int .u64 P, .slice A n c, .slice A' n' c'], .slice B m d] H fun v _ => v = .bool true := by
  refine privitylaw36_OptimizeEquivalent.spec ?_
  unfold privitylaw36_OptimizeEquivalent.sh
  refine h_cbox (fun xb H1 X1 cb => ⟨_, rfl, _, _, _, _, _, _, _, cb.all, h_few (hg.ext X1) (ho.ext X1) (hi.ext X1).mat 60 (fun few H2 X2 => ⟨_, rfl, ?_⟩) (fun H2 X2 => ⟨_, rfl, ?_⟩)⟩)
  rotate_left
  · rw [if_neg (by decide)]
    exact h_awake36 (hG.ext (X1.trans X2)) (fun _ _ => ⟨_, rfl, rfl⟩)
  rw [if_pos (by decide)]
  have X12 := X1.trans X2
  refine ⟨_, _, _, _, _, _, _, (cb.ext X2).all, h_rvalid (hg.ext X12) (ho.ext X12) hnn (fun H3 X3 => ⟨_, rfl, ?_⟩)⟩
  have X13 := X12.trans X3
  cases hv : validB P gs outs with
  | false =>
    rw [if_pos (by decide)]
    exact h_awake36 (hG.ext X13) (fun _ _ => ⟨_, rfl, rfl⟩)
  | true =>
  rw [if_neg (by decide)]
  have v := validB_iff.1 hv
  have fg := few.gates
  have fo := few.outsL
  have C3 : Circ H3 A n gs A' n' outs := ⟨hg.ext X13, ho.ext X13, hnn, by omega, by omega⟩
  have cb3 := (cb.ext X2).ext X3
  refine ⟨_, _, _, _, _, _, _, cb3.all, h_optimize (v.wf hnn) v.outs' C3 (fun B1 n1 c1 B2 c2 B3 c3 H4 X4 og hc1 oo ot => ⟨_, _, _, _, _, _, _, _, _, _, rfl, h_ctvars (fun db tb H5 X5 dv tv => ?_)⟩)⟩
  have X35 := X4.trans X5
  have X15 := X13.trans X35
  have D : Circ H5 B1 n1 (optG gs outs) B2 outs.length (optO gs outs) := (opt_circ C3 og oo).ext X5
  have ck := opt_ck v hnn
  have lG : (optG gs outs).length ≤ gs.length := cL_le gs (ndAll gs outs) gs.length
  have lO : (optO gs outs).length = outs.length := by simp [optO]
  have cb5 := cb3.ext X35
  have G5 := hG.ext X15
  have I : In33 H5 A n gs A' n' outs B m ins := ⟨hG.ext X15, hT.ext X15, hg.ext X15, ho.ext X15, hi.ext X15, hnn, hni, few.gates, few.outsL, few.parties, few.rows⟩
  have J : In33 H5 B1 n1 (optG gs outs) B2 outs.length (optO gs outs) B m ins := ⟨hG.ext X15, hT.ext X15, D.g, D.o, hi.ext X15, D.nn, hni, by omega, by omega, few.parties, few.rows⟩
  clear hG hT hg ho hi C3 og oo ot
  refine ok_split (P := P) (gs := gs) (outs := outs) (ins := ins) (fun p hz hp hP hw hf => ?_) (fun hno => ?_)
  · subst hP
    refine ⟨_, _, _, _, _, _, _, cb5.all, ev_ok I hw hf (fun A1 d1 H6 X6 r6 => ⟨_, _, _, _, rfl, _, _, _, _, _, _, _, (dv.ext X6).all, ev_ok (J.ext X6) (validB_iff.1 ck.v') (ck.fits1 hf) (fun A2 d2 H7 X7 r7 => ⟨_, _, _, _, rfl, h_awake36 (G5.ext (X6.trans X7)) (fun H8 X8 => ⟨_, rfl, ?_⟩)⟩)⟩)⟩
    rw [if_pos rfl, if_pos (by decide)]
    refine h_sameList (r6.ext (X7.trans X8)) (r7.ext X8) (by rw [vs_length, outL_len]; unfold maxLen; omega) ⟨_, rfl, ?_⟩
    rw [ck.outL_eq hnn J.nn]
    simp
  · have hno' : ¬ (validB P (optG gs outs) (optO gs outs) = true ∧ fitsB P (optG gs outs) ins = true) := fun h => hno ⟨hv, ck.fits2 h.2⟩
    refine ⟨_, _, _, _, _, _, _, cb5.all, ev_no I hno (fun H6 X6 => ⟨_, _, _, _, rfl, _, _, _, _, _, _, _, (dv.ext X6).all, ev_no (J.ext X6) hno' (fun H7 X7 => ⟨_, _, _, _, rfl, h_awake36 (G5.ext (X6.trans X7)) (fun H8 X8 => ⟨_, rfl, ?_⟩)⟩)⟩)⟩
    rw [if_pos rfl, if_pos (by decide)]
    exact h_sameList Row.nil Row.nil (by decide) ⟨_, rfl, rfl⟩
end
end Go.Proofs.YtjpaichcaaacbabDoor.HL
end

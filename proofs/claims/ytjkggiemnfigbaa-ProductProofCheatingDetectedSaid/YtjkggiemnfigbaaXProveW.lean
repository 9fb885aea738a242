/- The program's productproof.Prove: its walk. -/
import Derived.Test.YtjkggiemnfigbaaXProve
import Derived.Test.YtjkggiemnfigbaaFDiv
namespace Go.Proofs.Ytjkggiemnfigbaa.X
open Go.RowKit Go.Shelf Go.Proofs.YtjkggiemnfigbaaW.PrintWords Go.Proofs.YtjkggiemnfigbaaW.PrintLast Go.Proofs.YtjkggiemnfigbaaW.PrintMore Go.Proofs.Ytjkggiemnfigbaa.PF Go.Proofs.Ytjkggiemnfigbaa.PQ Go.Proofs.YtjkggiemnfigbaaNum Go.Proofs.Ytjkggiemnfigbaa.FEv Go.Proofs.Ytjkggiemnfigbaa.FPoly Go.Proofs.Ytjkggiemnfigbaa.QT
open Kd (R_mono R_take)
attribute [local go_sem] Oper.semAt_some
section
variable {q : Nat} [NeZero q]
def stepP (t : Nat) (r : List (Fin q)) (s : List (Fin q) × List (List (Fin q))) (k : Nat) : List (Fin q) × List (List (Fin q)) := (pcut s.1 (prow t r k s.1) k, s.2.set (k - 1) (prow t r k s.1))
def stP (t : Nat) (r : List (Fin q)) (s : List (Fin q) × List (List (Fin q))) (pre : List (Dn t)) : List (Fin q) × List (List (Fin q)) := pre.foldl (fun s x => stepP t r s x.1) s
theorem stP_snoc {t : Nat} {r : List (Fin q)} {s : List (Fin q) × List (List (Fin q))} (pre : List (Dn t)) (x : Dn t) : stP t r s (pre ++ [x]) = stepP t r (stP t r s pre) x.1 := by unfold stP; rw [List.foldl_append]; rfl
theorem stP_down {t : Nat} {r L : List (Fin q)} : ∀ (n : Nat) (xs : List (Dn t)), n ≤ t → xs.map Subtype.val = downL t n →
    (stP t r (L, List.replicate t []) xs).1 = pleft t r L n ∧ (stP t r (L, List.replicate t []) xs).2.length = t ∧ ∀ i, i < t → rowN (stP t r (L, List.replicate t []) xs).2 i = if t - n ≤ i then prow t r (i + 1) (pleft t r L (t - 1 - i)) else []
  | 0, xs, _, h => by
    have : xs = [] := List.map_eq_nil_iff.1 h
    subst this
    refine ⟨rfl, by simp [stP], fun i hi => ?_⟩
    rw [if_neg (by omega)]
    show (List.replicate t ([] : List (Fin q))).getD i [] = []
    rw [List.getD_eq_getElem?_getD, List.getElem?_replicate, if_pos hi]; rfl
  | n + 1, xs, hn, h => by
    rw [downL_snoc] at h
    obtain ⟨ys, zs, rfl, h1, h2⟩ := List.map_eq_append_iff.1 h
    obtain ⟨x, zs', rfl, h3, h4⟩ := List.map_eq_cons_iff.1 h2
    have h5 : zs' = [] := List.map_eq_nil_iff.1 h4
    subst h5
    obtain ⟨e1, e2, e3⟩ := stP_down n ys (by omega) h1
    rw [stP_snoc]
    unfold stepP
    dsimp only
    rw [h3, e1]
    refine ⟨rfl, by rw [List.length_set, e2], fun i hi => ?_⟩
    show (List.set _ _ _).getD i [] = _
    rw [List.getD_eq_getElem?_getD, List.getElem?_set]
    by_cases h6 : t - n - 1 = i
    · rw [if_pos h6, if_pos (by rw [e2]; omega), if_pos (by omega), show i + 1 = t - n by omega, show t - 1 - i = n by omega]; rfl
    · rw [if_neg h6]
      have := e3 i hi
      unfold rowN at this
      rw [List.getD_eq_getElem?_getD] at this
      rw [this]
      by_cases h7 : t - n ≤ i
      · rw [if_pos h7, if_pos (by omega)]
      · rw [if_neg h7, if_neg (by omega)]
theorem stP_all {t : Nat} {r L : List (Fin q)} {xs : List (Dn t)} (h : xs.map Subtype.val = downL t t) : (stP t r (L, List.replicate t []) xs).1 = pleft t r L t ∧ (stP t r (L, List.replicate t []) xs).2 = pD t r L := by
  obtain ⟨e1, e2, e3⟩ := stP_down (r := r) (L := L) t xs (Nat.le_refl _) h
  refine ⟨e1, List.ext_getElem (by rw [e2, pD_len]) (fun i h1 h2 => ?_)⟩
  have h3 : i < t := by omega
  have h4 := e3 i h3
  rw [if_pos (by omega), ← rowN_pD h3] at h4
  unfold rowN at h4
  rw [List.getD_eq_getElem?_getD, List.getD_eq_getElem?_getD, List.getElem?_eq_getElem h1, List.getElem?_eq_getElem h2] at h4
  exact h4
set_option maxHeartbeats 4000000 in
set_option maxRecDepth 100000 in
theorem prove_calls (hq : Sup q) (t : Nat) (a b r : List (Fin q)) (A2 A3 A4 : Option Addr) (c2 c3 c4 : Nat) (w : World) (ht0 : 1 ≤ t) (ht : t < 65536) (ha : a.length ≤ t + 1) (hb : b.length ≤ t + 1) (hr : t * t ≤ r.length) (hr1 : r.length < 1099511627776) (hc4 : r.length ≤ c4)
    (k2 : Kd.C (Kd.int .u64) w A2 (a.map V).length (a.map V)) (k3 : Kd.C (Kd.int .u64) w A3 (b.map V).length (b.map V)) (k4 : Kd.C (Kd.int .u64) w A4 (r.map V).length (r.map V)) :
    Calls Try.prog 17 #[.int .u64 (q : Int), .int .i64 (t : Int), .slice A2 (a.map V).length c2, .slice A3 (b.map V).length c3, .slice A4 (r.map V).length c4] w fun e w' => ∃ v0_ v1_ : Value, e = .returned (.tuple #[v0_, v1_]) ∧ Kd.S (Kd.slice 22 (Kd.int .u64)) 23 w' w.heap.size (fun k_ => some k_ ≠ (v1_ : Value).ownBlock) v0_ (VV (pD t r (pL t a b))) ∧ Kd.R (Kd.int .u64) 22 w' w.heap.size (fun k_ => some k_ ≠ (v0_ : Value).ownBlock) v1_ ((pC t r (pL t a b)).map V) ∧ Below w.heap.size w w' := by
  have hM := polyOp_eq hq opMul a b (by omega) (by omega)
  obtain ⟨L1, hL1⟩ : ∃ L : List Int, a.map V = L := ⟨_, rfl⟩
  obtain ⟨L2, hL2⟩ : ∃ L : List Int, b.map V = L := ⟨_, rfl⟩
  obtain ⟨L3, hL3⟩ : ∃ L : List Int, r.map V = L := ⟨_, rfl⟩
  have hn3 : L3.length = r.length := by rw [← hL3, List.length_map]
  rw [hL1] at k2 hM ⊢
  rw [hL2] at k3 hM ⊢
  rw [hL3] at k4 ⊢
  obtain ⟨LM, hLM⟩ : ∃ L : List Int, (pmul a b).map V = L := ⟨_, rfl⟩
  rw [show opMul q a b = pmul a b from rfl, hLM] at hM
  have HM := Aside0.mk hM
  have HLM := Aside0.mk hLM
  have HL3 := Aside0.mk hL3
  have N3 := Aside0.mk hn3
  clear hL1 hL2 hL3 hM hn3 hLM
  have K2 := Aside0.mk k2
  have K3 := Aside0.mk k3
  have K4 := Aside0.mk k4
  have HA := Aside0.mk ha
  have HB := Aside0.mk hb
  have HR := Aside0.mk hr
  have HR1 := Aside0.mk hr1
  clear k2 k3 k4 ha hb hr hr1
  have hm1 := print_make (P := Try.prog) 23 22 .u64 8 Try.underlying23 infoU (by decide) (2 * t + 1) (by omega)
  have hm2 := fun W => run_make_row' (P := Try.prog) 28 23 (.slice none 0 0) 24 Try.underlying28 (by kernel_rfl) rfl .i64 .i64 t (by omega) (by omega) W
  rw [show ((2 * t + 1 : Nat) : Int) = 2 * (t : Int) + 1 by omega] at hm1
  refine (callsIn_wide (n := 10)).1 ?_
  refine callsIn_of_wp_marks Try.func17 rfl trivial ?_ rfl
  simp only [Try.ntmps17, List.size_toArray, List.length_cons, List.length_nil, Nat.reduceAdd, Nat.reduceSub, Array.replicate_succ, Array.replicate_zero, List.push_toArray, List.append_toArray, List.nil_append, List.cons_append]
  gi_wp2
  have bP := ((((Boxed.new w 22 (.int .u64 (q : Int))).alloc (.cells #[.int .i64 (t : Int)] 3)).alloc (.cells #[.slice A4 L3.length c4] 23)).alloc (.cells (madeCells #[.int .u64 0] (2 * t + 1)) 22)).alloc (.cells #[.slice (some ⟨w.heap.size + 1 + 1 + 1, 0, none⟩) (2 * t + 1) (2 * t + 1)] 23)
  have bT := (((Boxed.new (w.alloc (.cells #[.int .u64 (q : Int)] 22)) 3 (.int .i64 (t : Int))).alloc (.cells #[.slice A4 L3.length c4] 23)).alloc (.cells (madeCells #[.int .u64 0] (2 * t + 1)) 22)).alloc (.cells #[.slice (some ⟨w.heap.size + 1 + 1 + 1, 0, none⟩) (2 * t + 1) (2 * t + 1)] 23)
  have bR := ((Boxed.new ((w.alloc (.cells #[.int .u64 (q : Int)] 22)).alloc (.cells #[.int .i64 (t : Int)] 3)) 23 (.slice A4 L3.length c4)).alloc (.cells (madeCells #[.int .u64 0] (2 * t + 1)) 22)).alloc (.cells #[.slice (some ⟨w.heap.size + 1 + 1 + 1, 0, none⟩) (2 * t + 1) (2 * t + 1)] 23)
  have hl0 := own_made (((w.alloc (.cells #[.int .u64 (q : Int)] 22)).alloc (.cells #[.int .i64 (t : Int)] 3)).alloc (.cells #[.slice A4 L3.length c4] 23)) w.heap.size 22 .u64 (2 * t + 1) (by simp only [World.size_alloc]; omega) (by omega)
  have bL := Boxed.new ((((w.alloc (.cells #[.int .u64 (q : Int)] 22)).alloc (.cells #[.int .i64 (t : Int)] 3)).alloc (.cells #[.slice A4 L3.length c4] 23)).alloc (.cells (madeCells #[.int .u64 0] (2 * t + 1)) 22)) 23 (.slice (some ⟨w.heap.size + 1 + 1 + 1, 0, none⟩) (2 * t + 1) (2 * t + 1))
  have hB := below_alloc (below_alloc (below_alloc (below_alloc (below_alloc (Below.refl w.heap.size w) (.cells #[.int .u64 (q : Int)] 22)) (.cells #[.int .i64 (t : Int)] 3)) (.cells #[.slice A4 L3.length c4] 23)) (.cells (madeCells #[.int .u64 0] (2 * t + 1)) 22)) (.cells #[.slice (some ⟨w.heap.size + 1 + 1 + 1, 0, none⟩) (2 * t + 1) (2 * t + 1)] 23)
  have hL := Kd.R_alloc (Kd.R_of_own (enc := Value.int .u64) (h1 := fun _ => rfl) (ok := fun k => k = w.heap.size + 1 + 1 + 1) (xs := List.replicate (2 * t + 1) 0) (by rw [List.length_replicate]; exact hl0) (fun k e => by simp [Value.ownBlock] at e; exact e.symm)) (.cells #[.slice (some ⟨w.heap.size + 1 + 1 + 1, 0, none⟩) (2 * t + 1) (2 * t + 1)] 23)
  have hsz : (((((w.alloc (.cells #[.int .u64 (q : Int)] 22)).alloc (.cells #[.int .i64 (t : Int)] 3)).alloc (.cells #[.slice A4 L3.length c4] 23)).alloc (.cells (madeCells #[.int .u64 0] (2 * t + 1)) 22)).alloc (.cells #[.slice (some ⟨w.heap.size + 1 + 1 + 1, 0, none⟩) (2 * t + 1) (2 * t + 1)] 23)).heap.size = w.heap.size + 5 := by simp
  simp only [World.size_alloc] at bT bR bL hl0 hL
  clear hl0
  generalize ((((w.alloc (.cells #[.int .u64 (q : Int)] 22)).alloc (.cells #[.int .i64 (t : Int)] 3)).alloc (.cells #[.slice A4 L3.length c4] 23)).alloc (.cells (madeCells #[.int .u64 0] (2 * t + 1)) 22)).alloc (.cells #[.slice (some ⟨w.heap.size + 1 + 1 + 1, 0, none⟩) (2 * t + 1) (2 * t + 1)] 23) = W0 at bP bT bR bL hB hL hsz ⊢
  have HP := Aside0.mk (Pre.mk (q := q) (w := w) (t := t) hB bP bT bR bL hL (by omega))
  clear hsz bP bT bR bL hB hL
  have hlen : (pmul a b).length ≤ 2 * t + 1 := pmul_len2 HA.out HB.out
  have HLEN := Aside0.mk (show LM.length ≤ 2 * t + 1 by rw [← HLM.out, List.length_map]; exact hlen)
  clear hlen
  gi_cut [] from 88 (fun w' => Aside0 (Pre (q := q) w t A4 L3.length c4 w' ((pL t a b).map V)))
  case first =>
    have hP := HP.out.hP.cell
    have hLc := HP.out.hL.cell
    have hb1 := below_drew (Below.refl W0.heap.size W0)
    refine wpIn_only ?_
    gi_region_with ((refine ⟨trivial, ?_⟩; gi_at_call 37; refine (callsIn_wide.2 (mul_calls' _ A2 c2 L1 A3 c3 L2 _ _ (Kd.C_below K2.out (below_drew HP.out.below)) (Kd.C_below K3.out (below_drew HP.out.below)) HM.out)).mono ?_; rintro e w' ⟨v0, rfl, h1, h2⟩; obtain ⟨A, c, rfl⟩ := Kd.R_slice h1; have HP2 := Aside0.mk ((HP.out.under hb1).under h2); obtain ⟨w2, hcp, h3, h4⟩ := copy_ints (c := c) HP2.out.left (Kd.R_reads' h1).2.2 HLEN.out 3; have HP3 := Aside0.mk (HP2.out.copied h4 h3); have hLc2 := HP2.out.hL.cell; clear h1 h2 h3 h4))
    all_goals (gi_wp2; gi_meet; (case rel => exact ⟨by have := HP3.out; rw [← HLM.out, pL_map (by have := HLEN.out; rw [← HLM.out, List.length_map] at this; exact this)] at this; exact this⟩))
  case rest =>
    clear HP
    have HP := hcut
    clear hcut
    have hT := HP.out.hT.cell
    have hT2 := (HP.out.under (below_alloc (below_alloc (Below.refl _ wc) (.cells (madeCells #[.slice none 0 0] t) 23)) (.cells #[.slice (some ⟨wc.heap.size, 0, none⟩) t t] 28))).hT.cell
    gi_wp2_with (first | (refine ⟨trivial, ?_⟩; gi_at_call 49; refine (down_in Fence.wide _ trivial rfl _ _).mono ?_; rintro e w' ⟨rfl, rfl⟩))
    have hcN := (Boxed.new ((wc.alloc (.cells (madeCells #[.slice none 0 0] t) 23)).alloc (.cells #[.slice (some ⟨wc.heap.size, 0, none⟩) t t] 28)) 3 (.int .i64 (t : Int))).cell
    simp only [World.size_alloc] at hcN
    have hMem := HP.out.mem (by omega) (pL_len _ _ _) (.cells #[.int .i64 (t : Int)] 3)
    have hs1 : ((((wc.alloc (.cells (madeCells #[.slice none 0 0] t) 23)).alloc (.cells #[.slice (some ⟨wc.heap.size, 0, none⟩) t t] 28))).alloc (.cells #[.int .i64 (t : Int)] 3)).heap.size = wc.heap.size + 3 := by simp
    have hs0 := HP.out.size
    clear hT hT2 HP
    generalize (((wc.alloc (.cells (madeCells #[.slice none 0 0] t) 23)).alloc (.cells #[.slice (some ⟨wc.heap.size, 0, none⟩) t t] 28))).alloc (.cells #[.int .i64 (t : Int)] 3) = W1 at hcN hMem hs1 ⊢
    obtain ⟨gD, hgD⟩ : ∃ gD, wc.heap.size = gD := ⟨_, rfl⟩
    rw [hgD] at hcN hMem hs1 hs0 ⊢
    clear hgD
    refine wpIn_rangeFunc_ownF (α := Dn t) rfl (by omega) (gf := 66) (lb := #[.pointer (some ⟨gD + 1 + 1, 0, none⟩)]) rfl trivial (enters_of Try.func66 (by kernel_rfl) rfl)
      (down_stops Fence.wide 9 trivial rfl (by omega) (gD + 1 + 1) t w.heap.size (by omega) W1 (by omega) hcN) belowK_t (belowK_b (by omega)) (Below.refl _ _) (fun _ => rfl)
      (fun pre W => Mem w t A4 L3.length c4 (w.heap.size + 1 + 1 + 1) gD w.heap.size (w.heap.size + 1) (w.heap.size + 1 + 1) (w.heap.size + 1 + 1 + 1 + 1) (gD + 1) (w.heap.size + 1 + 1 + 1) W (stP t r (pL t a b, List.replicate t []) pre).1 (stP t r (pL t a b, List.replicate t []) pre).2)
      (fun _ _ _ => False) (mem_own _ (by omega)) (fun _ _ _ _ _ hs _ _ => hs) hMem
      (fun x => { tmps := #[(.int .u64 (q : Int)), (.int .i64 (t : Int)), (.slice A2 L1.length c2), (.slice A3 L2.length c3), (.slice A4 L3.length c4), (.pointer (some ⟨w.heap.size, 0, none⟩)), (.pointer (some ⟨w.heap.size + 1, 0, none⟩)), undef, undef, (.pointer (some ⟨w.heap.size + 1 + 1, 0, none⟩)), (.slice none 0 0), (.slice none 0 0), (.pointer (some ⟨w.heap.size + 1 + 1 + 1 + 1, 0, none⟩)), (.pointer (some ⟨gD + 1, 0, none⟩)), (.int .i64 (x.1 : Int)), undef, undef, undef, (.int .i64 (t : Int)), (.int .i64 (2 * (t : Int))), (.int .i64 (2 * (t : Int) + 1)), (.slice (some ⟨w.heap.size + 1 + 1 + 1, 0, none⟩) (2 * t + 1) (2 * t + 1)), u22, u23, u24, u25, u26, u27, (.int .i64 (t : Int)), (.slice (some ⟨gD, 0, none⟩) t t), (.int .i64 (t : Int)), (.func (.func 66) #[] #[.pointer (some ⟨gD + 1 + 1, 0, none⟩)]), (.int .i64 (x.1 : Int)), undef, undef, undef, undef, undef, undef, undef, undef, undef, undef, undef, undef, undef, undef, undef, undef, undef, undef, undef, undef, undef, undef, undef, undef, undef, undef, undef, undef, undef, undef, undef, undef, undef, undef, undef, undef, undef, undef, undef, undef, undef, undef, undef, undef, undef, undef, undef, undef, undef, undef, undef, undef, undef, undef, undef], defers := [] }) ?assign ?body ?done ?stop
    case assign =>
      intro l x W K hK
      dsimp only [encK]
      gi_wp2
      exact hK
    case stop =>
      rintro D c pre W _ _ h _
      exact h.elim
    case body =>
      rintro l pre x W hm _
      have hk1 := x.2.1
      have hk2 := x.2.2
      have hX : (stP t r (pL t a b, List.replicate t []) (pre ++ [x])) = stepP t r (stP t r (pL t a b, List.replicate t []) pre) x.1 := stP_snoc pre _
      dsimp only
      obtain ⟨m, hm1⟩ : ∃ m, x.1 = m + 1 := ⟨x.1 - 1, by omega⟩
      rw [hm1] at hX hk2 ⊢
      clear hm1 hk1
      have HX := Aside0.mk hX
      clear hX
      obtain ⟨s, hs⟩ : ∃ s, stP t r (pL t a b, List.replicate t []) pre = s := ⟨_, rfl⟩
      rw [hs] at hm HX
      clear hs
      have H0 := Aside0.mk hm
      clear hm
      have hTc := H0.out.hT.cell
      have hmf := print_make (P := Try.prog) 23 22 .u64 8 Try.underlying23 infoU (by decide) (t + 1) (by omega)
      rw [show ((t + 1 : Nat) : Int) = (t : Int) + 1 by omega] at hmf
      have hmix : Try.prog.follows .mixedOrders = true := by kernel_rfl
      have hF0 := own_made W w.heap.size 22 .u64 (t + 1) H0.out.below.size (by omega)
      have HF0 := Aside0.mk (Kd.R_of_own (enc := Value.int .u64) (h1 := fun _ => rfl) (ok := fun k => k = W.heap.size) (xs := List.replicate (t + 1) 0) (by rw [List.length_replicate]; exact hF0) (fun k e => by simp [Value.ownBlock] at e; exact e.symm))
      clear hF0
      have hbF : gD + 1 < W.heap.size := H0.out.hD.lt
      gi_upto_region 7 with (fail)
      have H1 := Aside0.mk (H0.out.alloc (.cells (madeCells #[.int .u64 0] (t + 1)) 22))
      have HK := Aside0.mk (KeepsOthers.alloc W (.cells (madeCells #[.int .u64 0] (t + 1)) 22))
      have HB1 := Aside0.mk ((Below.refl w.heap.size W).alloc H0.out.below.size (.cells (madeCells #[.int .u64 0] (t + 1)) 22))
      obtain ⟨F, hF⟩ : ∃ F, W.heap.size = F := ⟨_, rfl⟩
      rw [hF] at H1 HF0 hbF ⊢
      clear hF hTc
      generalize W.alloc (.cells (madeCells #[.int .u64 0] (t + 1)) 22) = W2 at H1 HK HB1 HF0 ⊢
      obtain ⟨lo, hlo⟩ : ∃ lo, m * t = lo := ⟨_, rfl⟩
      have hhi : (m + 1) * t = lo + t := by rw [Nat.succ_mul, hlo]
      have hle : lo + t ≤ L3.length := by
        have h1 : (m + 1) * t ≤ t * t := Nat.mul_le_mul_right t hk2
        have := HR.out
        have := N3.out
        omega
      have hlt : L3.length < 1099511627776 := by have := HR1.out; have := N3.out; omega
      have hc4' : L3.length ≤ c4 := by have := N3.out; omega
      have hys := Kd.C_mid (Kd.C_below K4.out H1.out.below) (show lo ≤ lo + t by omega) hle hc4'
      rw [if_neg (show ¬ c4 = lo by omega)] at hys
      simp only [show (Kd.int .u64).sz = 1 from rfl, Nat.mul_one] at hys
      obtain ⟨ys, hy⟩ : ∃ ys, (L3.take (lo + t)).drop lo = ys := ⟨_, rfl⟩
      rw [hy] at hys
      have hyl : ys.length = t := by rw [← hy, List.length_drop, List.length_take]; omega
      have hyd : ys = (L3.drop lo).take t := by rw [← hy, List.drop_take, Nat.add_sub_cancel_left]
      obtain ⟨w3, hcp, hF3, hg3⟩ := copy_ints (c := c4 - lo) HF0.out hys (by omega) 3
      rw [hyl] at hcp
      have HY := Aside0.mk hyd
      have HYL := Aside0.mk hyl
      have HLO := Aside0.mk hlo
      have HF3 := Aside0.mk hF3
      have HG3 := Aside0.mk hg3
      have hdr : (List.replicate (t + 1) (0 : Int)).drop ys.length = [0] := by rw [hyl, List.drop_replicate, show t + 1 - t = 1 by omega]; rfl
      rw [hdr] at HF3
      clear hlo hhi hyl hyd hF3 hg3 hdr hys hy
      obtain ⟨w1, w2⟩ : Value.int .i64 (wrap64 ((m : Int) * (t : Int))) = Value.int .i64 (lo : Int) ∧ Value.int .i64 (wrap64 (((m : Int) + 1) * (t : Int))) = Value.int .i64 ((lo : Int) + (t : Int)) := by
        have hlo := HLO.out
        have h1 : m * t = lo := hlo
        have h2 : (m + 1) * t = lo + t := by rw [Nat.succ_mul, hlo]
        have e1 : (m : Int) * (t : Int) = (lo : Int) := by rw [← Int.natCast_mul, h1]
        have e2 : ((m : Int) + 1) * (t : Int) = (lo : Int) + (t : Int) := by rw [show ((m : Int) + 1) = ((m + 1 : Nat) : Int) from rfl, ← Int.natCast_mul, h2]; rfl
        clear h1 h2 hlo
        rw [e1, e2]
        clear e1 e2
        exact ⟨by rw [wrap_in (by omega) (by omega)], by rw [wrap_in (by omega) (by omega)]⟩
      gi_cut [] from 88 (fun w' => Aside0 (Rnd w t A4 L3.length c4 (w.heap.size + 1 + 1 + 1) gD w.heap.size (w.heap.size + 1) (w.heap.size + 1 + 1) (w.heap.size + 1 + 1 + 1 + 1) (gD + 1) F W w' s.1 s.2 (ys ++ [0])))
      case first =>
        have hTc := H1.out.hT.cell
        have hRc := H1.out.hR.cell
        gi_wp2
        gi_meet
        case rel => exact ⟨⟨H1.out.step HG3.out (fun k e => .inr (by cases e; exact ⟨rfl, hbF⟩)), HK.out.trans (R_others HF0.out HG3.out), HB1.out.grown HG3.out (by have := H1.out.below.size; exact this) (fun k e => by cases e; have := H1.out.apart; omega), HF3.out, hbF⟩⟩
      case rest =>
        clear H1 HK HB1 HF0 HF3 HG3 hcp w1 w2
        have H1 := hcut
        clear hcut
        have hTc := H1.out.mem.hT.cell
        have hLc := H1.out.mem.hL.cell
        gi_upto_region 8 with (fail)
        gi_cut [] from 88 (fun w' => Aside0 (Rnd w t A4 L3.length c4 (w.heap.size + 1 + 1 + 1) gD w.heap.size (w.heap.size + 1) (w.heap.size + 1 + 1) (w.heap.size + 1 + 1 + 1 + 1) (gD + 1) F W w' s.1 s.2 (ys ++ [V (cf s.1 (m + 1 + t))])))
        case first =>
          obtain ⟨kt, hkt⟩ : ∃ kt, m + 1 + t = kt := ⟨_, rfl⟩
          have e1 : (((m + 1 : Nat) : Int) + (t : Int)) = (kt : Int) := by omega
          have p1 : 0 ≤ (kt : Int) := by omega
          have q1 : (kt : Int) < ((2 * t + 1 : Nat) : Int) := by omega
          have q1' : (kt : Int) < 2 * (t : Int) + 1 := by omega
          have p2 : 0 ≤ (t : Int) := by omega
          have q2 : (t : Int) < ((t + 1 : Nat) : Int) := by omega
          have q2' : (t : Int) < (t : Int) + 1 := by omega
          obtain ⟨hx, _⟩ := Kd.R_celln 0 H1.out.mem.left (kt : Int) p1 q1
          rw [show rdOf 0 (s.1.map V) (kt : Int) = V (cf s.1 kt) from rd_map _ _, Int.toNat_natCast] at hx
          obtain ⟨hz, hf⟩ := Kd.R_celln 0 H1.out.row (t : Int) p2 q2
          rw [Int.toNat_natCast] at hz hf
          have hwr : IntKind.i64.wrap ((m : Int) + 1 + (t : Int)) = (kt : Int) := by rw [show (m : Int) + 1 + (t : Int) = (kt : Int) by omega, i64_w, wrap_in (by omega) (by omega)]
          have HKT := Aside0.mk hkt
          have AR := Aside0.mk (And.intro ht0 (And.intro ht (And.intro hc4 (And.intro hk2 (And.intro hle (And.intro hlt (And.intro hc4' hbF)))))))
          clear e1 hkt ht0 ht hc4 hk2 hle hlt hc4' hbF hs1 hs0 hcN hMem hmf hm1 hm2
          refine round_quiet_tail 9 hmix (by kernel_rfl) (by kernel_rfl) (fun K hK => ?_)
          simp only [List.take_succ_cons, List.take_zero, List.drop_succ_cons, List.drop_zero]
          repeat (any_goals (first | go_big_quiet_step (fail) | quiet_step (fail)))
          refine wpQuiet_nil ?_
          intro _ hw'
          obtain ⟨nq, hw''⟩ := hw'
          subst hw''
          go_wp2
          gi_meet
          case rel =>
            have h := (H1.out.drewN nq).setF t (V (cf s.1 kt))
            have e : List.set (ys ++ [0]) t (V (cf s.1 kt)) = ys ++ [V (cf s.1 kt)] := by
              rw [List.set_append, if_neg (by have := HYL.out; omega), HYL.out, Nat.sub_self]; rfl
            rw [e] at h
            exact ⟨by rw [HKT.out]; exact h⟩
        case rest =>
          clear H1 hTc hLc
          have H1 := hcut
          clear hcut
          have hfl : (prow t r (m + 1) s.1).map V = ys ++ [V (cf s.1 (m + 1 + t))] := by
            unfold prow
            rw [List.map_append, List.map_take, List.map_drop, HL3.out, HY.out, Nat.add_sub_cancel, HLO.out]
            rfl
          rw [← hfl] at H1
          have hpl : (prow t r (m + 1) s.1).length = t + 1 := prow_len _ (by omega) (sq_le HR.out hk2)
          obtain ⟨f, hf⟩ : ∃ f, prow t r (m + 1) s.1 = f := ⟨_, rfl⟩
          rw [hf] at H1 hpl
          have HFP := Aside0.mk hf
          have HPL := Aside0.mk hpl
          clear hfl hf hpl
          gi_wp2
          gi_loopg [58] (t + 2) (fun kq v58 w' => ∃ (i : Nat) (lc : List (Fin q)), v58 = .int .i64 (i : Int) ∧ Aside0 (Rnd w t A4 L3.length c4 (w.heap.size + 1 + 1 + 1) gD w.heap.size (w.heap.size + 1) (w.heap.size + 1 + 1) (w.heap.size + 1 + 1 + 1 + 1) (gD + 1) F W w' lc s.2 (f.map V)) ∧ Aside0 (i ≤ t + 1) ∧ Aside0 (∀ j, cf lc j = if m + 1 ≤ j ∧ j < m + 1 + i then cf s.1 j - cf f (j - (m + 1)) else cf s.1 j) ∧ Aside0 (t + 1 < i + kq))
          case atStart => exact ⟨0, s.1, rfl, H1, ⟨by omega⟩, ⟨fun j => by rw [if_neg (by omega)]⟩, ⟨by omega⟩⟩
          case round =>
            clear H1
            obtain ⟨i, lc, rfl, H1, HI, HC, HK⟩ := hrel
            have hTc := H1.out.mem.hT.cell
            have hLc := H1.out.mem.hL.cell
            have hPc := H1.out.mem.hP.cell
            by_cases c1 : i < t + 1
            · have t1 : decide ((i : Int) < (t : Int) + 1) = true := decide_eq_true (by omega)
              obtain ⟨kt, hkt⟩ : ∃ kt, m + 1 + i = kt := ⟨_, rfl⟩
              have p1 : 0 ≤ (kt : Int) := by omega
              have q1 : (kt : Int) < ((2 * t + 1 : Nat) : Int) := by omega
              have q1' : (kt : Int) < 2 * (t : Int) + 1 := by omega
              have p2 : 0 ≤ (i : Int) := by omega
              have q2 : (i : Int) < ((t + 1 : Nat) : Int) := by omega
              have q2' : (i : Int) < (t : Int) + 1 := by omega
              obtain ⟨hx, hfx⟩ := Kd.R_celln 0 H1.out.mem.left (kt : Int) p1 q1
              rw [show rdOf 0 (lc.map V) (kt : Int) = V (cf lc kt) from rd_map _ _, Int.toNat_natCast] at hx
              rw [Int.toNat_natCast] at hfx
              obtain ⟨hz, _⟩ := Kd.R_celln 0 H1.out.row (i : Int) p2 q2
              rw [show rdOf 0 (f.map V) (i : Int) = V (cf f i) from rd_map _ _, Int.toNat_natCast] at hz
              have hwr : IntKind.i64.wrap ((m : Int) + 1 + (i : Int)) = (kt : Int) := by rw [show (m : Int) + 1 + (i : Int) = (kt : Int) by omega, i64_w, wrap_in (by omega) (by omega)]
              obtain ⟨kk, hsub⟩ := (sub_ev hq (cf lc kt) (cf f i)).rounds
              have HCS := Aside0.mk (fun n => Calls.quiet_of (w := wr) (n := n) ((field_Sub.calls kk _ _ _ _ (wr.drewN n) hsub).mono (fun _ _ h => ⟨h.1, h.2.out⟩)))
              have HKT := Aside0.mk hkt
              have AR := Aside0.mk (And.intro ht0 (And.intro ht (And.intro hc4 (And.intro hk2 (And.intro hle (And.intro hlt (And.intro hc4' (And.intro hbF c1))))))))
              clear hkt hsub ht0 ht hc4 hk2 hle hlt hc4' hbF hs1 hs0 hcN hMem hmf hm1 hm2 c1
              gi_upto_region 12 with (fail)
              refine round_quiet_tail 14 hmix (by kernel_rfl) (by kernel_rfl) (fun K hK => ?_)
              simp only [List.take_succ_cons, List.take_zero, List.drop_succ_cons, List.drop_zero]
              repeat (any_goals (first | go_big_quiet_step ((go_at_call 39; exact HCS.out _)) | quiet_step ((go_at_call 39; exact HCS.out _))))
              refine wpQuiet_nil ?_
              intro _ hw'
              obtain ⟨nq, hw''⟩ := hw'
              subst hw''
              have hw13 : (i : Int) ≤ 65536 := by have := AR.out.2.1; have := AR.out.2.2.2.2.2.2.2.2; omega
              go_wp2
              gi_wp2
              gi_roundg (t + 1 - i)
              case measure => have := HK.out; have := AR.out.2.2.2.2.2.2.2.2; omega
              case rel =>
                have c1 := AR.out.2.2.2.2.2.2.2.2
                have h := (H1.out.drewN nq).setL kt (cf lc kt - cf f i)
                refine ⟨i + 1, lc.set kt (cf lc kt - cf f i), by congr 1, ⟨h⟩, ⟨c1⟩, ⟨fun j => ?_⟩, ⟨by omega⟩⟩
                have hkt := HKT.out
                have hlen := H1.out.mem.len
                have hk2 := AR.out.2.2.2.1
                rw [cf_set _ _ _ _ (by omega)]
                by_cases hj : j = kt
                · rw [if_pos hj, if_pos (by omega), HC.out kt, if_neg (by omega), hj, show kt - (m + 1) = i by omega]
                · rw [if_neg hj, HC.out j]
                  by_cases h2 : m + 1 ≤ j ∧ j < m + 1 + i
                  · rw [if_pos h2, if_pos (by omega)]
                  · rw [if_neg h2, if_neg (by omega)]
            · have t1 : decide ((i : Int) < (t : Int) + 1) = false := decide_eq_false (by omega)
              have hi : i = t + 1 := by have := HI.out; omega
              have hDc := H1.out.mem.hD.cell
              have p1 : 0 ≤ (m : Int) := by omega
              have q1 : (m : Int) < (t : Int) := by omega
              obtain ⟨cc, hcl, _, hcc, hfr⟩ := Kd.R_elem (Kd.S_R H1.out.mem.rws) ([] : List Int) (m : Int) p1 q1
              obtain ⟨u, hu⟩ : ∃ u, cc[0]? = some u := by
                have h1 : cc.length = 1 := hcl
                exact ⟨_, List.getElem?_eq_getElem (by omega)⟩
              have hce := hcc 0 u hu
              have hfe := hfr 0
              rw [show (Kd.slice 22 (Kd.int .u64)).sz = 1 from rfl, Nat.mul_one, Nat.add_zero, Int.toNat_natCast] at hce hfe
              have hw13 : (m : Int) < 65536 := by omega
              have HH := Aside0.mk hi
              clear hcc hfr hu hcl hi
              gi_wp2
              have hlc : lc = pcut s.1 f (m + 1) := by
                have h1 := H1.out.mem.len
                have h2 := H0.out.len
                have h3 := HPL.out
                have hii := HH.out
                apply cf_ext (by rw [pcut_len, h1, h2])
                intro j
                rw [HC.out j, cf_pcut, hii]
                by_cases h4 : j < s.1.length
                · rw [if_pos h4]
                  by_cases h5 : m + 1 ≤ j
                  · rw [if_pos h5]
                    by_cases h6 : j < m + 1 + (t + 1)
                    · rw [if_pos ⟨h5, h6⟩]
                    · rw [if_neg (fun h => h6 h.2), cf_ge (l := f) (by omega)]; grind
                  · rw [if_neg h5, if_neg (fun h => h5 h.1)]; grind
                · rw [if_neg h4, if_neg (by omega), cf_ge (by omega)]
              have hap := H1.out.mem.apart
              have hm := H1.out.mem.setD hbF m (by omega) H1.out.row
              refine ⟨H1.out.oth.trans (KeepsOthers.setCell _ _ _), H1.out.bel.setCell (p := ⟨gD, m, none⟩) (by show w.heap.size ≤ gD; omega) _, ?_⟩
              show Mem _ _ _ _ _ _ _ _ _ _ _ _ _ _ (stP t r (pL t a b, List.replicate t []) (pre ++ [x])).1 (stP t r (pL t a b, List.replicate t []) (pre ++ [x])).2
              rw [HX.out]
              unfold stepP
              rw [HFP.out, Nat.add_sub_cancel, ← hlc]
              exact hm
    case done =>
      rintro D xs W hD hS hM hK
      have HM2 := Aside0.mk hM
      have HS := Aside0.mk hS
      have HKD := Aside0.mk hK
      clear hM hS hK
      have hTc := HM2.out.hT.cell
      have hLc := HM2.out.hL.cell
      have hDc := HM2.out.hD.cell
      gi_wp2
      refine wpIn_wide.2 ?_
      go_quiet (fail)
      have HKD2 := Aside0.mk (show (W.drewN nq).heap[D]? = some (.deferred (some [])) from HKD.out)
      gi_wp2
      refine ⟨by simp, .inl ⟨_, _, rfl, run_takeDeferred HKD2.out, ?_⟩⟩
      have M2 := (HM2.out.drewN nq).step (grownBy_putObj' _ D (.deferred none)) (fun k e => .inl (by cases e; exact ⟨⟨_, HKD2.out, rfl⟩, by omega⟩))
      obtain ⟨e1, e2⟩ := stP_all (r := r) (L := pL t a b) HS.out
      rw [e1, e2] at M2
      refine ⟨_, results_tmp2 rfl _ _ _, _, _, rfl, Kd.S_mono M2.rws (fun k hk e => hk.1 (by cases e; rfl)), ?_, M2.below⟩
      have hR := R_mono (R_take M2.left (m := t + 1) (by rw [List.length_map, pleft_len, pL_len]; omega)) (ok' := fun k => some k ≠ (Value.slice (some ⟨gD, 0, none⟩) t t).ownBlock) (fun k hk e => by have hap := M2.apart; have e' : k = gD := Option.some.inj e; have hk' : k = w.heap.size + 1 + 1 + 1 := hk; omega)
      unfold pC
      rw [List.map_take]
      exact hR
end
end Go.Proofs.Ytjkggiemnfigbaa.X

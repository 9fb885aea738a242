/- Part G of: The statement ProductProofUnique: the law answers true whatever its arguments; no condition. -/
import Derived.Test.YtjkggiemnfigbaaZProductProofUniqueF
import Derived.StillTailTactics
section
namespace Go.Proofs.Ytjkggiemnfigbaa.X
open Go.RowKit Go.Proofs.YtjkggiemnfigbaaW.PrintWords Go.Proofs.YtjkggiemnfigbaaW.PrintLast Go.Proofs.YtjkggiemnfigbaaW.PrintMore Go.Proofs.Ytjkggiemnfigbaa.PF Go.Proofs.YtjkggiemnfigbaaNum Go.Proofs.Ytjkggiemnfigbaa.FEv
theorem infoU : (Try.prog.info? 22).map (fun i => (i.zero, i.size, i.bytes)) = some (some (.int .u64 0), 1, 8) := by kernel_rfl
/-- What put leaves: k is added at i. -/
def Put {q : Nat} [NeZero q] (xs : List (Fin q)) (i : Nat) (k : Fin q) (ys : List (Fin q)) : Prop := ys.length = max xs.length (i + 1) ∧ ∀ j, cf ys j = cf xs j + if j = i then k else 0
set_option maxHeartbeats 1600000 in
set_option maxRecDepth 100000 in
theorem put_calls {q : Nat} [NeZero q] (hq : Sup q) (g i : Nat) (k : Fin q) (xs : List (Fin q)) (v : Value) (w0 w : World) (hi : i < 1099511627776) (hxs : xs.length < 1099511627776)
    (hbox : w.heap[g]? = some (.cells #[.int .u64 (q : Int), v] 82 (0, 0))) (hR : Kd.R (Kd.int .u64) 22 w w0.heap.size (fun k_ => k_ ≠ g) v (xs.map V)) (hB : Below w0.heap.size w0 w) (hg : w0.heap.size ≤ g) :
    Calls Try.prog 65 #[.pointer (some ⟨g, 0, none⟩), .int .i64 (i : Int), .int .u64 (V k)] w fun e w' => e = .returned (.tuple #[]) ∧ ∃ v' ys, w'.heap[g]? = some (.cells #[.int .u64 (q : Int), v'] 82 (0, 0)) ∧ Kd.R (Kd.int .u64) 22 w' w0.heap.size (fun k_ => k_ ≠ g) v' (ys.map V) ∧ Below w0.heap.size w0 w' ∧ Put xs i k ys := by
  have HX := Aside0.mk hbox
  have HR := Aside0.mk hR
  have HB := Aside0.mk hB
  have HL := Aside0.mk hxs
  clear hbox hR hB hxs
  go_enter Try.func65, Try.ntmps65
  go_wp2
  go_loopg [] (i + 2) (fun kq w' => ∃ (v : Value) (ys : List (Fin q)), Aside0 (w'.heap[g]? = some (.cells #[.int .u64 (q : Int), v] 82 (0, 0))) ∧ Aside0 (Kd.R (Kd.int .u64) 22 w' w0.heap.size (fun k_ => k_ ≠ g) v (ys.map V)) ∧ Aside0 (Below w0.heap.size w0 w') ∧ Aside0 (ys.length ≤ max xs.length (i + 1)) ∧ Aside0 (xs.length ≤ ys.length) ∧ Aside0 (∀ j, cf ys j = cf xs j) ∧ Aside0 (i + 1 < ys.length + kq))
  case atStart => exact ⟨v, xs, HX, HR, HB, ⟨by omega⟩, ⟨Nat.le_refl _⟩, ⟨fun _ => rfl⟩, ⟨by omega⟩⟩
  case round =>
    clear HX HR HB
    obtain ⟨v, ys, HX, HR, HB, HL1, HL2, HC, HK⟩ := hrel
    obtain ⟨A, c, hv⟩ := Kd.R_slice HR.out
    subst hv
    have hx0 := blk_cell HX.out 0
    have hx1 := blk_cell HX.out 1
    have hf1 := blk_frozen HX.out 1
    simp only [List.getElem?_toArray, List.getElem?_cons_zero, List.getElem?_cons_succ] at hx0 hx1
    obtain ⟨L, hL⟩ : ∃ L : List Int, ys.map V = L := ⟨_, rfl⟩
    have hlen : L.length = ys.length := by rw [← hL, List.length_map]
    rw [hL] at HR hx1
    by_cases c1 : ys.length ≤ i
    · have t1 : decide (L.length ≤ i) = true := decide_eq_true (by omega)
      have t2 : decide ((L.length : Int) ≤ i) = true := decide_eq_true (by omega)
      have HM := Aside0.mk hlen
      have HLL := Aside0.mk hL
      clear hlen hL
      go_wp2_with (first | ((with_reducible refine gate_builtin (b := .append) (xs := #[.tmp 17, .tmp 18]) rfl ?_); at_builtin; refine Kd.R_append (Kd.int .u64) (w0 := w0) w0.heap.size rfl (.tmp 17) (.tmp 18) 23 22 (.int .u64 0) 8 rfl Try.underlying23 infoU rfl (by decide) (by omega) (.slice A L.length c) L 0 [.int .u64 0] (fun k_ => k_ ≠ g) (fun _ => False) rfl rfl rfl (fun _ h => h.elim) ?aF HR.out HB.out ?aS ?aL ?_))
      case aF => intro k_ hk e; have := blk_lt HX.out; omega
      case aS => exact HB.out.size
      case aL => have := HM.out; omega
      intro v1 w1 ho hb hg1 hat
      obtain ⟨A1, c1', hv1⟩ := Kd.R_slice ho
      subst hv1
      rw [show (L ++ [(0 : Int)]).length = L.length + 1 by simp] at ho hat
      have HX1 := Aside0.mk (blk_grown HX.out hg1 (fun e => (HR.out.1 g e.symm) rfl))
      have HR1 := Aside0.mk ho
      have HB1 := Aside0.mk hb
      clear HX HR HB ho hb hg1 hat hx0 hx1 hf1
      have hx0 := blk_cell HX1.out 0
      have hx1 := blk_cell HX1.out 1
      have hf1 := blk_frozen HX1.out 1
      simp only [List.getElem?_toArray, List.getElem?_cons_zero, List.getElem?_cons_succ] at hx0 hx1
      go_wp2
      go_roundg (i + 1 - ys.length)
      case measure => have := HK.out; have := HM.out; omega
      case rel =>
        refine ⟨.slice A1 (L.length + 1) c1', ys ++ [0], ⟨?_⟩, ⟨?_⟩, ⟨?_⟩, ⟨?_⟩, ⟨?_⟩, ⟨?_⟩, ⟨?_⟩⟩
        · exact blk_set HX1.out 1 _
        · rw [List.map_append, HLL.out]
          exact Kd.R_far (p := ⟨g, 1, none⟩) HR1.out (fun _ h => h) _
        · exact below_set HB1.out hg
        · simp; omega
        · simp; have := HL2.out; omega
        · intro j
          rw [← HC.out j]
          unfold cf
          rw [List.getD_eq_getElem?_getD, List.getD_eq_getElem?_getD]
          rcases Nat.lt_or_ge j ys.length with h | h
          · rw [List.getElem?_append_left h]
          · rw [List.getElem?_append_right h, List.getElem?_eq_none h]
            cases hj : j - ys.length <;> simp
        · simp; have := HK.out; omega
    · have t1 : decide (L.length ≤ i) = false := decide_eq_false (by omega)
      have t2 : decide ((L.length : Int) ≤ i) = false := decide_eq_false (by omega)
      have p0 : 0 ≤ (i : Int) := by omega
      have q0 : (i : Int) < (L.length : Int) := by omega
      have hrd : rd L (i : Int) = V (cf ys i) := by
        rw [← hL]
        unfold rd cf
        rw [Int.toNat_natCast, List.getD_eq_getElem?_getD, List.getD_eq_getElem?_getD, List.getElem?_map, List.getElem?_eq_getElem (by omega)]
        rfl
      obtain ⟨kk, hadd⟩ := (add_ev hq (cf ys i) k).rounds
      have HA := Aside0.mk hadd
      have HRD := Aside0.mk hrd
      have HM := Aside0.mk hlen
      have HLL := Aside0.mk hL
      clear hadd hrd hlen hL
      obtain ⟨go, co, eo, gb, gl, cl, HG⟩ := Kd.R_form HR.out (by omega)
      injection eo with ea _ ec
      subst ea ec
      obtain ⟨hy0, hfy⟩ := Kd.R_celln 0 HR.out (i : Int) p0 q0
      rw [show rdOf 0 L (i : Int) = V (cf ys i) from HRD.out, Int.toNat_natCast] at hy0
      rw [Int.toNat_natCast] at hfy
      have HP := Kd.R_putg HR.out (i : Int) (V (cf ys i + k))
      rw [Int.toNat_natCast] at HP
      have HP1 := Aside0.mk HP.1
      have HP2 := Aside0.mk HP.2
      have HG1 := Aside0.mk HG
      clear HP HG
      have fin : ∀ n : Nat, ∃ v' ys', ((wr.drewN n).setCell ⟨go, i, none⟩ (.int .u64 (V (cf ys i + k)))).heap[g]? = some (.cells #[.int .u64 (q : Int), v'] 82 (0, 0)) ∧ Kd.R (Kd.int .u64) 22 ((wr.drewN n).setCell ⟨go, i, none⟩ (.int .u64 (V (cf ys i + k)))) w0.heap.size (fun k_ => k_ ≠ g) v' (ys'.map V) ∧ Below w0.heap.size w0 ((wr.drewN n).setCell ⟨go, i, none⟩ (.int .u64 (V (cf ys i + k)))) ∧ Put xs i k ys' := by
        intro n
        have hne : g ≠ go := fun e => by
          have h1 := HX.out
          have h2 := HG1.out
          rw [← e, h1] at h2
          injection h2 with h2
          injection h2 with _ h2 _
          exact absurd h2 (by decide)
        refine ⟨.slice (some ⟨go, 0, none⟩) L.length c, ys.set i (cf ys i + k), ?_, ?_, ?_, ?_, ?_⟩
        · have := blk_far (blk_drewN HX.out n) (p := ⟨go, i, none⟩) hne (.int .u64 (V (cf ys i + k)))
          rw [HLL.out] at this
          exact this
        · have := Kd.R_drewN HP1.out n
          rw [List.map_set, HLL.out]
          exact this
        · refine below_set (pw_below_drewN HB.out n) ?_
          exact gb
        · have := HM.out
          have h1 := HL1.out
          have h2 := HL2.out
          rw [List.length_set]
          omega
        · intro j
          rw [← HC.out j]
          unfold cf
          rw [List.getD_eq_getElem?_getD, List.getD_eq_getElem?_getD, List.getElem?_set]
          by_cases hj : j = i
          · subst hj
            rw [if_pos rfl, if_pos (by omega), if_pos rfl]
            rfl
          · rw [if_neg (fun e => hj e.symm), if_neg hj]
            simp
      clear gb gl
      go_wp2_with fail
      go_region_with (first | (go_at_call 31; refine (field_Add.calls kk _ _ _ _ _ HA.out).mono ?_; rintro e w' ⟨rfl, ⟨nd, rfl⟩⟩))
      all_goals (go_end0; exact ⟨rfl, fin _⟩)
end Go.Proofs.Ytjkggiemnfigbaa.X
end
section
namespace Go.Proofs.Ytjkggiemnfigbaa.X
open Go.RowKit Go.Proofs.YtjkggiemnfigbaaW.PrintWords Go.Proofs.YtjkggiemnfigbaaW.PrintLast Go.Proofs.YtjkggiemnfigbaaW.PrintMore Go.Proofs.Ytjkggiemnfigbaa.PF Go.Proofs.Ytjkggiemnfigbaa.PQ Go.Proofs.YtjkggiemnfigbaaNum Go.Proofs.Ytjkggiemnfigbaa.FEv Go.Proofs.Ytjkggiemnfigbaa.FPoly
theorem mf (fn : Fn) (first cap : Array Value) (w : World) : (Instr.makeFunc fn first cap).run Try.prog w = .ok (.func fn first cap) w := rfl
end Go.Proofs.Ytjkggiemnfigbaa.X
end
section
namespace Go.Proofs.Ytjkggiemnfigbaa.X
open Go.RowKit Go.Proofs.YtjkggiemnfigbaaW.PrintWords Go.Proofs.YtjkggiemnfigbaaW.PrintLast Go.Proofs.YtjkggiemnfigbaaW.PrintMore Go.Proofs.Ytjkggiemnfigbaa.PF Go.Proofs.Ytjkggiemnfigbaa.PQ Go.Proofs.YtjkggiemnfigbaaNum Go.Proofs.Ytjkggiemnfigbaa.FEv Go.Proofs.Ytjkggiemnfigbaa.FPoly
/-- The coefficients after n rounds of the outer loop and m rounds of the inner one. -/
def Mid {q : Nat} [NeZero q] (a b : List (Fin q)) (n m j : Nat) : Fin q := conv (cf (a.take n)) (cf b) j + if n ≤ j ∧ j - n < m then cf a n * cf b (j - n) else 0
theorem cf_take {q : Nat} [NeZero q] (a : List (Fin q)) (n j : Nat) : cf (a.take n) j = if j < n then cf a j else 0 := by
  unfold cf
  rw [List.getD_eq_getElem?_getD, List.getD_eq_getElem?_getD, List.getElem?_take]
  by_cases h : j < n
  · rw [if_pos h, if_pos h]
  · rw [if_neg h, if_neg h]
    rfl
theorem mid_step {q : Nat} [NeZero q] (a b : List (Fin q)) (n m j : Nat) : Mid a b n (m + 1) j = Mid a b n m j + if j = n + m then cf a n * cf b m else 0 := by
  unfold Mid
  by_cases h : j = n + m
  · subst h
    rw [if_pos (by omega), if_neg (by omega), if_pos rfl, show n + m - n = m by omega]
    grind
  · rw [if_neg h]
    by_cases h2 : n ≤ j ∧ j - n < m
    · rw [if_pos h2, if_pos (by omega)]
      grind
    · rw [if_neg h2, if_neg (by omega)]
      grind
theorem mid_end {q : Nat} [NeZero q] (a b : List (Fin q)) (n j : Nat) : Mid a b n b.length j = conv (cf (a.take (n + 1))) (cf b) j := by
  have e : conv (cf (a.take (n + 1))) (cf b) j = conv (fun i => cf (a.take n) i + if i = n then cf a n else 0) (cf b) j := conv_congr (fun i _ => by
    rw [cf_take, cf_take]
    by_cases h : i = n
    · subst h
      rw [if_pos (by omega), if_neg (by omega), if_pos rfl]
      grind
    · rw [if_neg h]
      by_cases h2 : i < n
      · rw [if_pos h2, if_pos (by omega)]; grind
      · rw [if_neg h2, if_neg (by omega)]; grind) (fun _ _ => rfl)
  rw [e, conv_addl]
  unfold Mid
  congr 1
  unfold conv
  by_cases h : n ≤ j
  · rw [sumF_one (j := n) (by omega) (fun i _ hi => by show (if i = n then cf a n else 0) * _ = 0; rw [if_neg hi]; grind)]
    show _ = (if n = n then cf a n else 0) * cf b (j - n)
    rw [if_pos rfl]
    by_cases h2 : j - n < b.length
    · rw [if_pos ⟨h, h2⟩]
    · rw [if_neg (fun c => h2 c.2), cf_ge (l := b) (by omega)]
      grind
  · rw [if_neg (fun c => h c.1), sumF_ext (m := 0) (Nat.zero_le _) (fun i _ hi => by show (if i = n then cf a n else 0) * _ = 0; rw [if_neg (by omega)]; grind)]
    rfl
theorem mid_zero {q : Nat} [NeZero q] (a b : List (Fin q)) (j : Nat) : conv (cf (a.take 0)) (cf b) j = 0 := by
  unfold conv
  rw [sumF_ext (m := 0) (Nat.zero_le _) (fun i _ _ => by rw [List.take_zero, cf_nil]; grind)]
  rfl
theorem mid_start {q : Nat} [NeZero q] (a b : List (Fin q)) (n j : Nat) : Mid a b n 0 j = conv (cf (a.take n)) (cf b) j := by
  unfold Mid
  rw [if_neg (by omega)]
  grind
theorem mid_put {q : Nat} [NeZero q] {a b ys ys' : List (Fin q)} {n m : Nat} (h : Put ys (n + m) (cf a n * cf b m) ys') (hz : ∀ j, cf ys j = Mid a b n m j) (j : Nat) : cf ys' j = Mid a b n (m + 1) j := by
  rw [h.2 j, hz j, mid_step]
set_option maxHeartbeats 1600000 in
set_option maxRecDepth 100000 in
theorem mul_calls {q : Nat} [NeZero q] (hq : Sup q) (a b : List (Fin q)) (A1 A2 : Option Addr) (c1 c2 : Nat) (w : World) (ha : a.length < 274877906944) (hb : b.length < 274877906944)
    (hr1 : Kd.C (Kd.int .u64) w A1 (a.map V).length (a.map V)) (hr2 : Kd.C (Kd.int .u64) w A2 (b.map V).length (b.map V)) :
    Calls Try.prog 37 #[.int .u64 (q : Int), .slice A1 (a.map V).length c1, .slice A2 (b.map V).length c2] w fun e w' => ∃ v0_ : Value, e = .returned v0_ ∧ Kd.R (Kd.int .u64) 22 w' w.heap.size (fun _ => True) v0_ ((pmul a b).map V) ∧ Below w.heap.size w w' := by
  have HR1 := Aside0.mk hr1
  have HR2 := Aside0.mk hr2
  clear hr1 hr2
  have hmf := mf
  obtain ⟨L1, hL1⟩ : ∃ L : List Int, a.map V = L := ⟨_, rfl⟩
  obtain ⟨L2, hL2⟩ : ∃ L : List Int, b.map V = L := ⟨_, rfl⟩
  have hn1 : L1.length = a.length := by rw [← hL1, List.length_map]
  have hn2 : L2.length = b.length := by rw [← hL2, List.length_map]
  rw [hL1] at HR1 ⊢
  rw [hL2] at HR2 ⊢
  have HL1 := Aside0.mk hL1
  have HL2 := Aside0.mk hL2
  have N1 := Aside0.mk hn1
  have N2 := Aside0.mk hn2
  have NA := Aside0.mk ha
  have NB := Aside0.mk hb
  clear hL1 hL2 hn1 hn2 ha hb
  go_enter Try.func37, Try.ntmps37
  go_wp2
  have HX0 := Aside0.mk (blk_new w (Obj.cells #[.int .u64 (q : Int), .slice none 0 0] 82))
  have HB0 := Aside0.mk (below_alloc (Below.refl w.heap.size w) (Obj.cells #[.int .u64 (q : Int), .slice none 0 0] 82))
  generalize w.alloc (Obj.cells #[.int .u64 (q : Int), .slice none 0 0] 82) = w1 at HX0 HB0 ⊢
  go_loopg [20] (a.length + 1) (fun kq v20 w' => ∃ (n : Nat) (v : Value) (ys : List (Fin q)), v20 = .int .i64 (n : Int) ∧ Aside0 (w'.heap[w.heap.size]? = some (.cells #[.int .u64 (q : Int), v] 82 (0, 0))) ∧ Aside0 (Kd.R (Kd.int .u64) 22 w' w.heap.size (fun k_ => k_ ≠ w.heap.size) v (ys.map V)) ∧ Aside0 (Below w.heap.size w w') ∧ Aside0 (n ≤ a.length) ∧ Aside0 (ys.length ≤ a.length + b.length) ∧ Aside0 (∀ j, cf ys j = conv (cf (a.take n)) (cf b) j) ∧ Aside0 (a.length < n + kq))
  case atStart => exact ⟨0, _, [], rfl, HX0, ⟨Kd.R_nil _ _ _ _ _⟩, HB0, ⟨by omega⟩, ⟨by simp⟩, ⟨fun j => by rw [mid_zero, cf_nil]⟩, ⟨by omega⟩⟩
  case round =>
    clear HX0 HB0
    obtain ⟨n, v, ys, rfl, HX, HR, HB, HN, HY, HC, HK⟩ := hrel
    by_cases c1 : n < a.length
    · have t1 : decide ((n : Int) < (L1.length : Int)) = true := decide_eq_true (by have := N1.out; omega)
      have hrd : rd L1 (n : Int) = V (cf a n) := by rw [← HL1.out, rd_map]
      have p1 : 0 ≤ (n : Int) := by omega
      have q1 : (n : Int) < (L1.length : Int) := of_decide_eq_true t1
      obtain ⟨ad, e1, hx⟩ := Kd.at_int HR1.out (n : Int) p1 q1
      cases e1
      replace hx := (HB.out.cell (World.block_lt_of_cell? w _ hx)).trans hx
      have HRD := Aside0.mk hrd
      rw [hrd, Int.toNat_natCast] at hx
      clear hrd
      have HC1 := Aside0.mk (show ∀ j, cf ys j = Mid a b n 0 j from fun j => by rw [HC.out j, mid_start])
      clear HC
      have C1 := Aside0.mk c1
      clear c1
      go_wp2
      go_loopg [27] (b.length + 1) (fun kq v27 w' => ∃ (m : Nat) (v : Value) (ys : List (Fin q)), v27 = .int .i64 (m : Int) ∧ Aside0 (w'.heap[w.heap.size]? = some (.cells #[.int .u64 (q : Int), v] 82 (0, 0))) ∧ Aside0 (Kd.R (Kd.int .u64) 22 w' w.heap.size (fun k_ => k_ ≠ w.heap.size) v (ys.map V)) ∧ Aside0 (Below w.heap.size w w') ∧ Aside0 (m ≤ b.length) ∧ Aside0 (ys.length ≤ a.length + b.length) ∧ Aside0 (∀ j, cf ys j = Mid a b n m j) ∧ Aside0 (b.length < m + kq))
      case atStart => exact ⟨0, v, ys, rfl, HX, HR, HB, ⟨by omega⟩, HY, HC1, ⟨by omega⟩⟩
      case round =>
        clear HX HR HB HC1 HY hx
        obtain ⟨m, v, ys, rfl, HX, HR, HB, HM, HY, HC, HK2⟩ := hrel
        by_cases c2 : m < b.length
        · have t2 : decide ((m : Int) < (L2.length : Int)) = true := decide_eq_true (by have := N2.out; omega)
          have hrd : rd L2 (m : Int) = V (cf b m) := by rw [← HL2.out, rd_map]
          have p2 : 0 ≤ (m : Int) := by omega
          have q2 : (m : Int) < (L2.length : Int) := of_decide_eq_true t2
          obtain ⟨ad2, e2, hx⟩ := Kd.at_int HR2.out (m : Int) p2 q2
          cases e2
          replace hx := (HB.out.cell (World.block_lt_of_cell? w _ hx)).trans hx
          have HRD2 := Aside0.mk hrd
          rw [hrd, Int.toNat_natCast] at hx
          clear hrd
          obtain ⟨kk, hmul⟩ := (mul_ev hq (cf a n) (cf b m)).rounds
          have HA := Aside0.mk hmul
          clear hmul
          have hwr : IntKind.i64.wrap ((n : Int) + (m : Int)) = ((n + m : Nat) : Int) := by rw [i64_w, wrap_in (by omega) (by have := NA.out; have := NB.out; have := C1.out; omega)]; omega
          have hwr2 : wrap64 ((n : Int) + (m : Int)) = ((n + m : Nat) : Int) := by rw [wrap_in (by omega) (by have := NA.out; have := NB.out; have := C1.out; omega)]; omega
          go_wp2_with (first | (go_at_call 21; refine (field_Mul.calls kk _ _ _ _ _ HA.out).mono ?_; rintro e w' ⟨rfl, ⟨nd, rfl⟩⟩) | (go_at_call 65; refine (put_calls hq w.heap.size (n + m) (cf a n * cf b m) ys v w _ (by have := NA.out; have := NB.out; have := C1.out; omega) (by have := NA.out; have := NB.out; have := HY.out; omega) (blk_drewN HX.out _) (Kd.R_drewN HR.out _) (pw_below_drewN HB.out _) (Nat.le_refl _)).mono ?_; rintro e w' ⟨rfl, v', ys', h1, h2, h3, h4⟩))
          go_roundg (b.length - m)
          case measure => have := HK2.out; omega
          case rel => exact ⟨m + 1, v', ys', by rw [wrap_in (by omega) (by have := NB.out; omega)]; rfl, ⟨h1⟩, ⟨h2⟩, ⟨h3⟩, ⟨c2⟩, ⟨by have := h4.1; have := HY.out; have := C1.out; omega⟩, ⟨mid_put h4 HC.out⟩, ⟨by omega⟩⟩
        · have t2 : decide ((m : Int) < (L2.length : Int)) = false := decide_eq_false (by have := N2.out; omega)
          have t2n : decide (m < L2.length) = false := decide_eq_false (by have := N2.out; omega)
          have em : m = b.length := by have := HM.out; omega
          have HC2 := Aside0.mk (show ∀ j, cf ys j = conv (cf (a.take (n + 1))) (cf b) j from fun j => by rw [HC.out j, em, mid_end])
          clear HC em
          go_wp2
          go_roundg (a.length - n)
          case measure => have := HK.out; have := C1.out; omega
          case rel => exact ⟨n + 1, v, ys, by rw [wrap_in (by omega) (by have := NA.out; have := C1.out; omega)]; rfl, HX, HR, HB, ⟨C1.out⟩, HY, HC2, ⟨by have := C1.out; omega⟩⟩
    · have t1 : decide ((n : Int) < (L1.length : Int)) = false := decide_eq_false (by have := N1.out; omega)
      have t1n : decide (n < L1.length) = false := decide_eq_false (by have := N1.out; omega)
      have en : n = a.length := by have := HN.out; omega
      have he : ptrim ys = pmul a b := (tr_ptrim ys).eq (tr_pmul a b) (fun j => by rw [cf_ptrim, cf_pmul, HC.out j, en, List.take_length])
      have hT := trim_ev (ys := ys) (by have := NA.out; have := NB.out; have := HY.out; omega)
      rw [he] at hT
      obtain ⟨kt, hT⟩ := hT.rounds
      have HT := Aside0.mk hT
      have HE := Aside0.mk he
      clear hT he HC en
      obtain ⟨A, c, hv⟩ := Kd.R_slice HR.out
      subst hv
      have hx1 := blk_cell HX.out 1
      simp only [List.getElem?_toArray, List.getElem?_cons_zero, List.getElem?_cons_succ] at hx1
      obtain ⟨L, hL⟩ : ∃ L : List Int, ys.map V = L := ⟨_, rfl⟩
      rw [hL] at HR HT hx1
      go_wp2_with (first | (go_at_call 42; refine (poly_Trim.calls kt _ _ L _ _ (Kd.R_reads' HR.out).2.2 (Kd.R_reads' HR.out).2.1 HT.out).mono ?_; rintro e w' ⟨v0, rfl, h1, h2⟩))
      go_ret
      exact ⟨_, rfl, Kd.R_lower h1 HB.out.size, below_step HB.out h2⟩
end Go.Proofs.Ytjkggiemnfigbaa.X
end
section
namespace Go.Proofs.Ytjkggiemnfigbaa.X
open Go.RowKit Go.Proofs.YtjkggiemnfigbaaW.PrintWords Go.Proofs.Ytjkggiemnfigbaa.PF Go.Proofs.Ytjkggiemnfigbaa.PQ Go.Proofs.YtjkggiemnfigbaaNum Go.Proofs.Ytjkggiemnfigbaa.FEv Go.Proofs.Ytjkggiemnfigbaa.FPoly
abbrev POp := (q : Nat) → [NeZero q] → List (Fin q) → List (Fin q) → List (Fin q)
def opMul : POp := fun _ _ a b => pmul a b
instance (p : Nat) : Decidable (Sup p) := by unfold Sup; infer_instance
/-- What the operation yields, for lists of elements of a supported prime. -/
def polyOp (op : POp) (a0 : Int) (l1 l2 : List Int) : Option (List Int) :=
  if h : Sup a0.toNat ∧ 0 ≤ a0 ∧ (∀ x ∈ l1, 0 ≤ x ∧ x < a0) ∧ (∀ x ∈ l2, 0 ≤ x ∧ x < a0) ∧ l1.length < 274877906944 ∧ l2.length < 274877906944 then
    have : NeZero a0.toNat := ⟨fun e => by have := h.1.le; omega⟩
    some ((op a0.toNat (l1.map E) (l2.map E)).map V)
  else none
theorem map_EV {q : Nat} [NeZero q] (a : List (Fin q)) : (a.map V).map E = a := by
  rw [List.map_map]
  conv => rhs; rw [← List.map_id a]
  exact List.map_congr_left (fun x _ => E_V x)
theorem map_VE {q : Nat} [NeZero q] {l : List Int} (h : ∀ x ∈ l, 0 ≤ x ∧ x < (q : Int)) : (l.map E : List (Fin q)).map V = l := by
  rw [List.map_map]
  conv => rhs; rw [← List.map_id l]
  exact List.map_congr_left (fun x hx => V_E_lt (h x hx).1 (h x hx).2)
theorem polyOp_some {op : POp} {a0 : Int} {l1 l2 r : List Int} (h : polyOp op a0 l1 l2 = some r) : ∃ (q : Nat) (_ : NeZero q) (a b : List (Fin q)), Sup q ∧ a0 = (q : Int) ∧ l1 = a.map V ∧ l2 = b.map V ∧ a.length < 274877906944 ∧ b.length < 274877906944 ∧ r = (op q a b).map V := by
  unfold polyOp at h
  split at h
  · rename_i hx
    obtain ⟨h1, h2, h3, h4, h5, h6⟩ := hx
    have e : ((a0.toNat : Nat) : Int) = a0 := Int.toNat_of_nonneg h2
    have hz : NeZero a0.toNat := ⟨fun e => by have := h1.le; omega⟩
    refine ⟨a0.toNat, hz, _, _, h1, e.symm, ?_, ?_, ?_, ?_, (Option.some.inj h).symm⟩
    · exact (map_VE (by rw [e]; exact h3)).symm
    · exact (map_VE (by rw [e]; exact h4)).symm
    · rw [List.length_map]; exact h5
    · rw [List.length_map]; exact h6
  · cases h
theorem polyOp_eq {q : Nat} [i : NeZero q] (hq : Sup q) (op : POp) (a b : List (Fin q)) (ha : a.length < 274877906944) (hb : b.length < 274877906944) : polyOp op (q : Int) (a.map V) (b.map V) = some ((op q a b).map V) := by
  have hV : ∀ (l : List (Fin q)) (x : Int), x ∈ l.map V → 0 ≤ x ∧ x < (q : Int) := fun l x hx => by
    obtain ⟨y, _, rfl⟩ := List.mem_map.mp hx
    exact ⟨V_nonneg y, V_lt y⟩
  unfold polyOp
  rw [dif_pos ⟨hq, by omega, hV a, hV b, by rw [List.length_map]; exact ha, by rw [List.length_map]; exact hb⟩]
  show some ((op q ((a.map V).map E) ((b.map V).map E)).map V) = _
  rw [map_EV, map_EV]
theorem mul_calls' (a0 : Int) (A1 : Option Addr) (c1 : Nat) (l1 : List Int) (A2 : Option Addr) (c2 : Nat) (l2 : List Int) (r : List Int) (w : World) (hr1 : Kd.C (Kd.int .u64) w A1 l1.length l1) (hr2 : Kd.C (Kd.int .u64) w A2 l2.length l2) (h : polyOp opMul a0 l1 l2 = some r) :
    Calls Try.prog 37 #[.int .u64 a0, .slice A1 l1.length c1, .slice A2 l2.length c2] w fun e w' => ∃ v0_ : Value, e = .returned (v0_) ∧ Kd.R (Kd.int .u64) 22 w' w.heap.size (fun _ => True) v0_ r ∧ Below w.heap.size w w' := by
  obtain ⟨q, _, a, b, hq, rfl, rfl, rfl, ha, hb, rfl⟩ := polyOp_some h
  exact mul_calls hq a b A1 A2 c1 c2 w ha hb hr1 hr2
end Go.Proofs.Ytjkggiemnfigbaa.X
end

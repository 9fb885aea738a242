/- The program's polynomials: a product, by the method put. -/
import Derived.Test.YtjkggiemnfigbaaXAdd
import Derived.Test.YtjkggiemnfigbaaFPoly
namespace Go.Proofs.Ytjkggiemnfigbaa.X
open Go.RowKit Go.Proofs.YtjkggiemnfigbaaW.PrintWords Go.Proofs.YtjkggiemnfigbaaW.PrintLast Go.Proofs.YtjkggiemnfigbaaW.PrintMore Go.Proofs.Ytjkggiemnfigbaa.PF Go.Proofs.Ytjkggiemnfigbaa.PQ Go.Proofs.YtjkggiemnfigbaaNum Go.Proofs.Ytjkggiemnfigbaa.FEv Go.Proofs.Ytjkggiemnfigbaa.FPoly
attribute [local go_sem] max2_int min2_int max_two min_two max_three min_three max_four min_four
/-- The coefficients after n rounds of the outer loop and m rounds of the inner one. -/
def Mid {q : Nat} [NeZero q] (a b : List (Fin q)) (n m j : Nat) : Fin q := conv (cf (a.take n)) (cf b) j + if n ≤ j ∧ j - n < m then cf a n * cf b (j - n) else 0
theorem cf_take {q : Nat} [NeZero q] (a : List (Fin q)) (n j : Nat) : cf (a.take n) j = if j < n then cf a j else 0 := by
  unfold cf
  rw [List.getD_eq_getElem?_getD, List.getD_eq_getElem?_getD, List.getElem?_take]
  by_cases h : j < n
  · rw [if_pos h, if_pos h]
  · rw [if_neg h, if_neg h]
    rfl
theorem mid_step {q : Nat} [NeZero q] (a b : List (Fin q)) (n m j : Nat) : Mid a b n (m + 1) j = Mid a b n m j + if j = n + m then cf a n * cf b m else 0 := by
  unfold Mid
  by_cases h : j = n + m
  · subst h
    rw [if_pos (by omega), if_neg (by omega), if_pos rfl, show n + m - n = m by omega]
    grind
  · rw [if_neg h]
    by_cases h2 : n ≤ j ∧ j - n < m
    · rw [if_pos h2, if_pos (by omega)]
      grind
    · rw [if_neg h2, if_neg (by omega)]
      grind
theorem mid_end {q : Nat} [NeZero q] (a b : List (Fin q)) (n j : Nat) : Mid a b n b.length j = conv (cf (a.take (n + 1))) (cf b) j := by
  have e : conv (cf (a.take (n + 1))) (cf b) j = conv (fun i => cf (a.take n) i + if i = n then cf a n else 0) (cf b) j := conv_congr (fun i _ => by
    rw [cf_take, cf_take]
    by_cases h : i = n
    · subst h
      rw [if_pos (by omega), if_neg (by omega), if_pos rfl]
      grind
    · rw [if_neg h]
      by_cases h2 : i < n
      · rw [if_pos h2, if_pos (by omega)]; grind
      · rw [if_neg h2, if_neg (by omega)]; grind) (fun _ _ => rfl)
  rw [e, conv_addl]
  unfold Mid
  congr 1
  unfold conv
  by_cases h : n ≤ j
  · rw [sumF_one (j := n) (by omega) (fun i _ hi => by show (if i = n then cf a n else 0) * _ = 0; rw [if_neg hi]; grind)]
    show _ = (if n = n then cf a n else 0) * cf b (j - n)
    rw [if_pos rfl]
    by_cases h2 : j - n < b.length
    · rw [if_pos ⟨h, h2⟩]
    · rw [if_neg (fun c => h2 c.2), cf_ge (l := b) (by omega)]
      grind
  · rw [if_neg (fun c => h c.1), sumF_ext (m := 0) (Nat.zero_le _) (fun i _ hi => by show (if i = n then cf a n else 0) * _ = 0; rw [if_neg (by omega)]; grind)]
    rfl
theorem mid_zero {q : Nat} [NeZero q] (a b : List (Fin q)) (j : Nat) : conv (cf (a.take 0)) (cf b) j = 0 := by
  unfold conv
  rw [sumF_ext (m := 0) (Nat.zero_le _) (fun i _ _ => by rw [List.take_zero, cf_nil]; grind)]
  rfl
theorem mid_start {q : Nat} [NeZero q] (a b : List (Fin q)) (n j : Nat) : Mid a b n 0 j = conv (cf (a.take n)) (cf b) j := by
  unfold Mid
  rw [if_neg (by omega)]
  grind
theorem mid_put {q : Nat} [NeZero q] {a b ys ys' : List (Fin q)} {n m : Nat} (h : Put ys (n + m) (cf a n * cf b m) ys') (hz : ∀ j, cf ys j = Mid a b n m j) (j : Nat) : cf ys' j = Mid a b n (m + 1) j := by
  rw [h.2 j, hz j, mid_step]
set_option maxHeartbeats 1600000 in
set_option maxRecDepth 100000 in
theorem mul_calls {q : Nat} [NeZero q] (hq : Sup q) (a b : List (Fin q)) (A1 A2 : Option Addr) (c1 c2 : Nat) (w : World) (ha : a.length < 274877906944) (hb : b.length < 274877906944)
    (hr1 : Kd.C (Kd.int .u64) w A1 (a.map V).length (a.map V)) (hr2 : Kd.C (Kd.int .u64) w A2 (b.map V).length (b.map V)) :
    Calls Try.prog 37 #[.int .u64 (q : Int), .slice A1 (a.map V).length c1, .slice A2 (b.map V).length c2] w fun e w' => ∃ v0_ : Value, e = .returned v0_ ∧ Kd.R (Kd.int .u64) 22 w' w.heap.size (fun _ => True) v0_ ((pmul a b).map V) ∧ Below w.heap.size w w' := by
  have HR1 := Aside0.mk hr1
  have HR2 := Aside0.mk hr2
  clear hr1 hr2
  have hmf := mf
  obtain ⟨L1, hL1⟩ : ∃ L : List Int, a.map V = L := ⟨_, rfl⟩
  obtain ⟨L2, hL2⟩ : ∃ L : List Int, b.map V = L := ⟨_, rfl⟩
  have hn1 : L1.length = a.length := by rw [← hL1, List.length_map]
  have hn2 : L2.length = b.length := by rw [← hL2, List.length_map]
  rw [hL1] at HR1 ⊢
  rw [hL2] at HR2 ⊢
  have HL1 := Aside0.mk hL1
  have HL2 := Aside0.mk hL2
  have N1 := Aside0.mk hn1
  have N2 := Aside0.mk hn2
  have NA := Aside0.mk ha
  have NB := Aside0.mk hb
  clear hL1 hL2 hn1 hn2 ha hb
  go_enter Try.func37, Try.ntmps37
  go_wp2
  have HX0 := Aside0.mk (blk_new w (Obj.cells #[.int .u64 (q : Int), .slice none 0 0] 82))
  have HB0 := Aside0.mk (below_alloc (Below.refl w.heap.size w) (Obj.cells #[.int .u64 (q : Int), .slice none 0 0] 82))
  generalize w.alloc (Obj.cells #[.int .u64 (q : Int), .slice none 0 0] 82) = w1 at HX0 HB0 ⊢
  go_loopg [20] (a.length + 1) (fun kq v20 w' => ∃ (n : Nat) (v : Value) (ys : List (Fin q)), v20 = .int .i64 (n : Int) ∧ Aside0 (w'.heap[w.heap.size]? = some (.cells #[.int .u64 (q : Int), v] 82 (0, 0))) ∧ Aside0 (Kd.R (Kd.int .u64) 22 w' w.heap.size (fun k_ => k_ ≠ w.heap.size) v (ys.map V)) ∧ Aside0 (Below w.heap.size w w') ∧ Aside0 (n ≤ a.length) ∧ Aside0 (ys.length ≤ a.length + b.length) ∧ Aside0 (∀ j, cf ys j = conv (cf (a.take n)) (cf b) j) ∧ Aside0 (a.length < n + kq))
  case atStart => exact ⟨0, _, [], rfl, HX0, ⟨Kd.R_nil _ _ _ _ _⟩, HB0, ⟨by omega⟩, ⟨by simp⟩, ⟨fun j => by rw [mid_zero, cf_nil]⟩, ⟨by omega⟩⟩
  case round =>
    clear HX0 HB0
    obtain ⟨n, v, ys, rfl, HX, HR, HB, HN, HY, HC, HK⟩ := hrel
    by_cases c1 : n < a.length
    · have t1 : decide ((n : Int) < (L1.length : Int)) = true := decide_eq_true (by have := N1.out; omega)
      have hrd : rd L1 (n : Int) = V (cf a n) := by rw [← HL1.out, rd_map]
      have p1 : 0 ≤ (n : Int) := by omega
      have q1 : (n : Int) < (L1.length : Int) := of_decide_eq_true t1
      obtain ⟨ad, e1, hx⟩ := Kd.at_int HR1.out (n : Int) p1 q1
      cases e1
      replace hx := (HB.out.cell (World.block_lt_of_cell? w _ hx)).trans hx
      have HRD := Aside0.mk hrd
      rw [hrd, Int.toNat_natCast] at hx
      clear hrd
      have HC1 := Aside0.mk (show ∀ j, cf ys j = Mid a b n 0 j from fun j => by rw [HC.out j, mid_start])
      clear HC
      have C1 := Aside0.mk c1
      clear c1
      go_wp2
      go_loopg [27] (b.length + 1) (fun kq v27 w' => ∃ (m : Nat) (v : Value) (ys : List (Fin q)), v27 = .int .i64 (m : Int) ∧ Aside0 (w'.heap[w.heap.size]? = some (.cells #[.int .u64 (q : Int), v] 82 (0, 0))) ∧ Aside0 (Kd.R (Kd.int .u64) 22 w' w.heap.size (fun k_ => k_ ≠ w.heap.size) v (ys.map V)) ∧ Aside0 (Below w.heap.size w w') ∧ Aside0 (m ≤ b.length) ∧ Aside0 (ys.length ≤ a.length + b.length) ∧ Aside0 (∀ j, cf ys j = Mid a b n m j) ∧ Aside0 (b.length < m + kq))
      case atStart => exact ⟨0, v, ys, rfl, HX, HR, HB, ⟨by omega⟩, HY, HC1, ⟨by omega⟩⟩
      case round =>
        clear HX HR HB HC1 HY hx
        obtain ⟨m, v, ys, rfl, HX, HR, HB, HM, HY, HC, HK2⟩ := hrel
        by_cases c2 : m < b.length
        · have t2 : decide ((m : Int) < (L2.length : Int)) = true := decide_eq_true (by have := N2.out; omega)
          have hrd : rd L2 (m : Int) = V (cf b m) := by rw [← HL2.out, rd_map]
          have p2 : 0 ≤ (m : Int) := by omega
          have q2 : (m : Int) < (L2.length : Int) := of_decide_eq_true t2
          obtain ⟨ad2, e2, hx⟩ := Kd.at_int HR2.out (m : Int) p2 q2
          cases e2
          replace hx := (HB.out.cell (World.block_lt_of_cell? w _ hx)).trans hx
          have HRD2 := Aside0.mk hrd
          rw [hrd, Int.toNat_natCast] at hx
          clear hrd
          obtain ⟨kk, hmul⟩ := (mul_ev hq (cf a n) (cf b m)).rounds
          have HA := Aside0.mk hmul
          clear hmul
          have hwr : IntKind.i64.wrap ((n : Int) + (m : Int)) = ((n + m : Nat) : Int) := by rw [i64_w, wrap_in (by omega) (by have := NA.out; have := NB.out; have := C1.out; omega)]; omega
          have hwr2 : wrap64 ((n : Int) + (m : Int)) = ((n + m : Nat) : Int) := by rw [wrap_in (by omega) (by have := NA.out; have := NB.out; have := C1.out; omega)]; omega
          go_wp2_with (first | (go_at_call 21; refine (field_Mul.calls kk _ _ _ _ _ HA.out).mono ?_; rintro e w' ⟨rfl, ⟨nd, rfl⟩⟩) | (go_at_call 65; refine (put_calls hq w.heap.size (n + m) (cf a n * cf b m) ys v w _ (by have := NA.out; have := NB.out; have := C1.out; omega) (by have := NA.out; have := NB.out; have := HY.out; omega) (blk_drewN HX.out _) (Kd.R_drewN HR.out _) (pw_below_drewN HB.out _) (Nat.le_refl _)).mono ?_; rintro e w' ⟨rfl, v', ys', h1, h2, h3, h4⟩))
          go_roundg (b.length - m)
          case measure => have := HK2.out; omega
          case rel => exact ⟨m + 1, v', ys', by rw [wrap_in (by omega) (by have := NB.out; omega)]; rfl, ⟨h1⟩, ⟨h2⟩, ⟨h3⟩, ⟨c2⟩, ⟨by have := h4.1; have := HY.out; have := C1.out; omega⟩, ⟨mid_put h4 HC.out⟩, ⟨by omega⟩⟩
        · have t2 : decide ((m : Int) < (L2.length : Int)) = false := decide_eq_false (by have := N2.out; omega)
          have t2n : decide (m < L2.length) = false := decide_eq_false (by have := N2.out; omega)
          have em : m = b.length := by have := HM.out; omega
          have HC2 := Aside0.mk (show ∀ j, cf ys j = conv (cf (a.take (n + 1))) (cf b) j from fun j => by rw [HC.out j, em, mid_end])
          clear HC em
          go_wp2
          go_roundg (a.length - n)
          case measure => have := HK.out; have := C1.out; omega
          case rel => exact ⟨n + 1, v, ys, by rw [wrap_in (by omega) (by have := NA.out; have := C1.out; omega)]; rfl, HX, HR, HB, ⟨C1.out⟩, HY, HC2, ⟨by have := C1.out; omega⟩⟩
    · have t1 : decide ((n : Int) < (L1.length : Int)) = false := decide_eq_false (by have := N1.out; omega)
      have t1n : decide (n < L1.length) = false := decide_eq_false (by have := N1.out; omega)
      have en : n = a.length := by have := HN.out; omega
      have he : ptrim ys = pmul a b := (tr_ptrim ys).eq (tr_pmul a b) (fun j => by rw [cf_ptrim, cf_pmul, HC.out j, en, List.take_length])
      have hT := trim_ev (ys := ys) (by have := NA.out; have := NB.out; have := HY.out; omega)
      rw [he] at hT
      obtain ⟨kt, hT⟩ := hT.rounds
      have HT := Aside0.mk hT
      have HE := Aside0.mk he
      clear hT he HC en
      obtain ⟨A, c, hv⟩ := Kd.R_slice HR.out
      subst hv
      have hx1 := blk_cell HX.out 1
      simp only [List.getElem?_toArray, List.getElem?_cons_zero, List.getElem?_cons_succ] at hx1
      obtain ⟨L, hL⟩ : ∃ L : List Int, ys.map V = L := ⟨_, rfl⟩
      rw [hL] at HR HT hx1
      go_wp2_with (first | (go_at_call 42; refine (poly_Trim.calls kt _ _ L _ _ (Kd.R_reads' HR.out).2.2 (Kd.R_reads' HR.out).2.1 HT.out).mono ?_; rintro e w' ⟨v0, rfl, h1, h2⟩))
      go_ret
      exact ⟨_, rfl, Kd.R_lower h1 HB.out.size, below_step HB.out h2⟩
end Go.Proofs.Ytjkggiemnfigbaa.X

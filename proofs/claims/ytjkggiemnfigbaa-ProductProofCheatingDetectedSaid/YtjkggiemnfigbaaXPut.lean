/- The method put of the program's polynomials: it adds an element to one coefficient of a list behind a pointer. -/
import Derived.Test.YtjkggiemnfigbaaFRef
import Derived.Test.YtjkggiemnfigbaaPoly
import Derived.StillTailTactics
namespace Go.Proofs.Ytjkggiemnfigbaa.X
open Go.RowKit Go.Proofs.YtjkggiemnfigbaaW.PrintWords Go.Proofs.YtjkggiemnfigbaaW.PrintLast Go.Proofs.YtjkggiemnfigbaaW.PrintMore Go.Proofs.Ytjkggiemnfigbaa.PF Go.Proofs.YtjkggiemnfigbaaNum Go.Proofs.Ytjkggiemnfigbaa.FEv
attribute [local go_sem] max2_int min2_int max_two min_two max_three min_three max_four min_four
theorem infoU : (Try.prog.info? 22).map (fun i => (i.zero, i.size, i.bytes)) = some (some (.int .u64 0), 1, 8) := by kernel_rfl
/-- What put leaves: k is added at i. -/
def Put {q : Nat} [NeZero q] (xs : List (Fin q)) (i : Nat) (k : Fin q) (ys : List (Fin q)) : Prop := ys.length = max xs.length (i + 1) ∧ ∀ j, cf ys j = cf xs j + if j = i then k else 0
set_option maxHeartbeats 1600000 in
set_option maxRecDepth 100000 in
theorem put_calls {q : Nat} [NeZero q] (hq : Sup q) (g i : Nat) (k : Fin q) (xs : List (Fin q)) (v : Value) (w0 w : World) (hi : i < 1099511627776) (hxs : xs.length < 1099511627776)
    (hbox : w.heap[g]? = some (.cells #[.int .u64 (q : Int), v] 82 (0, 0))) (hR : Kd.R (Kd.int .u64) 22 w w0.heap.size (fun k_ => k_ ≠ g) v (xs.map V)) (hB : Below w0.heap.size w0 w) (hg : w0.heap.size ≤ g) :
    Calls Try.prog 65 #[.pointer (some ⟨g, 0, none⟩), .int .i64 (i : Int), .int .u64 (V k)] w fun e w' => e = .returned (.tuple #[]) ∧ ∃ v' ys, w'.heap[g]? = some (.cells #[.int .u64 (q : Int), v'] 82 (0, 0)) ∧ Kd.R (Kd.int .u64) 22 w' w0.heap.size (fun k_ => k_ ≠ g) v' (ys.map V) ∧ Below w0.heap.size w0 w' ∧ Put xs i k ys := by
  have HX := Aside0.mk hbox
  have HR := Aside0.mk hR
  have HB := Aside0.mk hB
  have HL := Aside0.mk hxs
  clear hbox hR hB hxs
  go_enter Try.func65, Try.ntmps65
  go_wp2
  go_loopg [] (i + 2) (fun kq w' => ∃ (v : Value) (ys : List (Fin q)), Aside0 (w'.heap[g]? = some (.cells #[.int .u64 (q : Int), v] 82 (0, 0))) ∧ Aside0 (Kd.R (Kd.int .u64) 22 w' w0.heap.size (fun k_ => k_ ≠ g) v (ys.map V)) ∧ Aside0 (Below w0.heap.size w0 w') ∧ Aside0 (ys.length ≤ max xs.length (i + 1)) ∧ Aside0 (xs.length ≤ ys.length) ∧ Aside0 (∀ j, cf ys j = cf xs j) ∧ Aside0 (i + 1 < ys.length + kq))
  case atStart => exact ⟨v, xs, HX, HR, HB, ⟨by omega⟩, ⟨Nat.le_refl _⟩, ⟨fun _ => rfl⟩, ⟨by omega⟩⟩
  case round =>
    clear HX HR HB
    obtain ⟨v, ys, HX, HR, HB, HL1, HL2, HC, HK⟩ := hrel
    obtain ⟨A, c, hv⟩ := Kd.R_slice HR.out
    subst hv
    have hx0 := blk_cell HX.out 0
    have hx1 := blk_cell HX.out 1
    have hf1 := blk_frozen HX.out 1
    simp only [List.getElem?_toArray, List.getElem?_cons_zero, List.getElem?_cons_succ] at hx0 hx1
    obtain ⟨L, hL⟩ : ∃ L : List Int, ys.map V = L := ⟨_, rfl⟩
    have hlen : L.length = ys.length := by rw [← hL, List.length_map]
    rw [hL] at HR hx1
    by_cases c1 : ys.length ≤ i
    · have t1 : decide (L.length ≤ i) = true := decide_eq_true (by omega)
      have t2 : decide ((L.length : Int) ≤ i) = true := decide_eq_true (by omega)
      have HM := Aside0.mk hlen
      have HLL := Aside0.mk hL
      clear hlen hL
      go_wp2_with (first | ((with_reducible refine gate_builtin (b := .append) (xs := #[.tmp 17, .tmp 18]) rfl ?_); at_builtin; refine Kd.R_append (Kd.int .u64) (w0 := w0) w0.heap.size rfl (.tmp 17) (.tmp 18) 23 22 (.int .u64 0) 8 rfl Try.underlying23 infoU rfl (by decide) (by omega) (.slice A L.length c) L 0 [.int .u64 0] (fun k_ => k_ ≠ g) (fun _ => False) rfl rfl rfl (fun _ h => h.elim) ?aF HR.out HB.out ?aS ?aL ?_))
      case aF => intro k_ hk e; have := blk_lt HX.out; omega
      case aS => exact HB.out.size
      case aL => have := HM.out; omega
      intro v1 w1 ho hb hg1 hat
      obtain ⟨A1, c1', hv1⟩ := Kd.R_slice ho
      subst hv1
      rw [show (L ++ [(0 : Int)]).length = L.length + 1 by simp] at ho hat
      have HX1 := Aside0.mk (blk_grown HX.out hg1 (fun e => (HR.out.1 g e.symm) rfl))
      have HR1 := Aside0.mk ho
      have HB1 := Aside0.mk hb
      clear HX HR HB ho hb hg1 hat hx0 hx1 hf1
      have hx0 := blk_cell HX1.out 0
      have hx1 := blk_cell HX1.out 1
      have hf1 := blk_frozen HX1.out 1
      simp only [List.getElem?_toArray, List.getElem?_cons_zero, List.getElem?_cons_succ] at hx0 hx1
      go_wp2
      go_roundg (i + 1 - ys.length)
      case measure => have := HK.out; have := HM.out; omega
      case rel =>
        refine ⟨.slice A1 (L.length + 1) c1', ys ++ [0], ⟨?_⟩, ⟨?_⟩, ⟨?_⟩, ⟨?_⟩, ⟨?_⟩, ⟨?_⟩, ⟨?_⟩⟩
        · exact blk_set HX1.out 1 _
        · rw [List.map_append, HLL.out]
          exact Kd.R_far (p := ⟨g, 1, none⟩) HR1.out (fun _ h => h) _
        · exact below_set HB1.out hg
        · simp; omega
        · simp; have := HL2.out; omega
        · intro j
          rw [← HC.out j]
          unfold cf
          rw [List.getD_eq_getElem?_getD, List.getD_eq_getElem?_getD]
          rcases Nat.lt_or_ge j ys.length with h | h
          · rw [List.getElem?_append_left h]
          · rw [List.getElem?_append_right h, List.getElem?_eq_none h]
            cases hj : j - ys.length <;> simp
        · simp; have := HK.out; omega
    · have t1 : decide (L.length ≤ i) = false := decide_eq_false (by omega)
      have t2 : decide ((L.length : Int) ≤ i) = false := decide_eq_false (by omega)
      have p0 : 0 ≤ (i : Int) := by omega
      have q0 : (i : Int) < (L.length : Int) := by omega
      have hrd : rd L (i : Int) = V (cf ys i) := by
        rw [← hL]
        unfold rd cf
        rw [Int.toNat_natCast, List.getD_eq_getElem?_getD, List.getD_eq_getElem?_getD, List.getElem?_map, List.getElem?_eq_getElem (by omega)]
        rfl
      obtain ⟨kk, hadd⟩ := (add_ev hq (cf ys i) k).rounds
      have HA := Aside0.mk hadd
      have HRD := Aside0.mk hrd
      have HM := Aside0.mk hlen
      have HLL := Aside0.mk hL
      clear hadd hrd hlen hL
      obtain ⟨go, co, eo, gb, gl, cl, HG⟩ := Kd.R_form HR.out (by omega)
      injection eo with ea _ ec
      subst ea ec
      obtain ⟨hy0, hfy⟩ := Kd.R_celln 0 HR.out (i : Int) p0 q0
      rw [show rdOf 0 L (i : Int) = V (cf ys i) from HRD.out, Int.toNat_natCast] at hy0
      rw [Int.toNat_natCast] at hfy
      have HP := Kd.R_putg HR.out (i : Int) (V (cf ys i + k))
      rw [Int.toNat_natCast] at HP
      have HP1 := Aside0.mk HP.1
      have HP2 := Aside0.mk HP.2
      have HG1 := Aside0.mk HG
      clear HP HG
      have fin : ∀ n : Nat, ∃ v' ys', ((wr.drewN n).setCell ⟨go, i, none⟩ (.int .u64 (V (cf ys i + k)))).heap[g]? = some (.cells #[.int .u64 (q : Int), v'] 82 (0, 0)) ∧ Kd.R (Kd.int .u64) 22 ((wr.drewN n).setCell ⟨go, i, none⟩ (.int .u64 (V (cf ys i + k)))) w0.heap.size (fun k_ => k_ ≠ g) v' (ys'.map V) ∧ Below w0.heap.size w0 ((wr.drewN n).setCell ⟨go, i, none⟩ (.int .u64 (V (cf ys i + k)))) ∧ Put xs i k ys' := by
        intro n
        have hne : g ≠ go := fun e => by
          have h1 := HX.out
          have h2 := HG1.out
          rw [← e, h1] at h2
          injection h2 with h2
          injection h2 with _ h2 _
          exact absurd h2 (by decide)
        refine ⟨.slice (some ⟨go, 0, none⟩) L.length c, ys.set i (cf ys i + k), ?_, ?_, ?_, ?_, ?_⟩
        · have := blk_far (blk_drewN HX.out n) (p := ⟨go, i, none⟩) hne (.int .u64 (V (cf ys i + k)))
          rw [HLL.out] at this
          exact this
        · have := Kd.R_drewN HP1.out n
          rw [List.map_set, HLL.out]
          exact this
        · refine below_set (pw_below_drewN HB.out n) ?_
          exact gb
        · have := HM.out
          have h1 := HL1.out
          have h2 := HL2.out
          rw [List.length_set]
          omega
        · intro j
          rw [← HC.out j]
          unfold cf
          rw [List.getD_eq_getElem?_getD, List.getD_eq_getElem?_getD, List.getElem?_set]
          by_cases hj : j = i
          · subst hj
            rw [if_pos rfl, if_pos (by omega), if_pos rfl]
            rfl
          · rw [if_neg (fun e => hj e.symm), if_neg hj]
            simp
      clear gb gl
      go_wp2_with fail
      go_region_with (first | (go_at_call 31; refine (field_Add.calls kk _ _ _ _ _ HA.out).mono ?_; rintro e w' ⟨rfl, ⟨nd, rfl⟩⟩))
      all_goals (go_end0; exact ⟨rfl, fin _⟩)
end Go.Proofs.Ytjkggiemnfigbaa.X

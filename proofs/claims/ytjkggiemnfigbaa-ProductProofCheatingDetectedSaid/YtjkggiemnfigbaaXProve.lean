/- The program's productproof.Prove: the memory in the course of its loop. -/
import Derived.Test.YtjkggiemnfigbaaXDown
import Derived.Test.YtjkggiemnfigbaaXOp
import Derived.Test.YtjkggiemnfigbaaProd
import Derived.Test.YtjkggiemnfigbaaQT
import Derived.Sort.CutIn
import Derived.Sort.LoopGhostIn
import Derived.Laws.CopyRow
import Derived.Laws.IdiomCopy
namespace Go.Proofs.Ytjkggiemnfigbaa.X
open Go.RowKit Go.Shelf Go.Proofs.YtjkggiemnfigbaaW.PrintWords Go.Proofs.YtjkggiemnfigbaaW.PrintLast Go.Proofs.YtjkggiemnfigbaaW.PrintMore Go.Proofs.Ytjkggiemnfigbaa.PF Go.Proofs.Ytjkggiemnfigbaa.PQ Go.Proofs.YtjkggiemnfigbaaNum Go.Proofs.Ytjkggiemnfigbaa.FEv Go.Proofs.Ytjkggiemnfigbaa.FPoly Kd
section
open Kd
variable {α : Type} {d : Kd α} {e : Nat} {X Y : World} {base : Nat} {ok : Nat → Prop} {v : Value} {xs : List α}
/-- A block that holds no cells is none of a row's. -/
theorem R_nocells (h : d.R e X base ok v xs) {row : Option Nat} (hg : X.grownBy Y row) (hr : ∀ r, row = some r → ∃ o : Obj, X.heap[r]? = some o ∧ o.isCells = false) : d.R e Y base ok v xs :=
  R_mono (R_grown (R_bound h) hg (fun k hk e => by
    obtain ⟨_, _, _, q, _, cells, hc⟩ := hk
    obtain ⟨o, ho, hn⟩ := hr k e.symm
    rw [hc] at ho
    cases ho
    cases hn)) (fun _ hk => hk.1)
end
theorem R_block {α : Type} {d : Kd α} {e : Nat} {W : World} {base g n c : Nat} {ok : Nat → Prop} {xs : List α} (h : d.R e W base ok (.slice (some ⟨g, 0, none⟩) n c) xs) : ∃ cells, W.heap[g]? = some (.cells cells e (0, 0)) := R_typed h g rfl
theorem R_others {α : Type} {d : Kd α} {e : Nat} {W W' : World} {base g n c : Nat} {ok : Nat → Prop} {xs : List α} (h : d.R e W base ok (.slice (some ⟨g, 0, none⟩) n c) xs) (hg : W.grownBy W' (some g)) : KeepsOthers W W' :=
  KeepsOthers.of_grownBy hg (fun j o ej hj => by
    cases ej
    obtain ⟨cells, hc⟩ := R_block h
    rw [hc] at hj
    cases hj
    rfl)
/-- copy: the first elements are the source's. -/
theorem copy_ints {W : World} {base : Nat} {ok : Nat → Prop} {g n : Nat} {xs ys : List Int} {A : Option Addr} {c : Nat} (h : (Kd.int .u64).R 22 W base ok (.slice (some ⟨g, 0, none⟩) n n) xs) (hs : (Kd.int .u64).C W A ys.length ys) (hm : ys.length ≤ n) (ty : TypeId) :
    ∃ w2, (Builtin.copy_ #[23, 23] ty #[.slice (some ⟨g, 0, none⟩) n n, .slice A ys.length c]).run Try.prog W = .ok (goInt ys.length) w2 ∧ (Kd.int .u64).R 22 w2 base ok (.slice (some ⟨g, 0, none⟩) n n) (ys ++ xs.drop ys.length) ∧ W.grownBy w2 (some g) := by
  have hsz : (Try.prog.info? 22).map (·.size) = some 1 := by have := infoU; revert this; cases Try.prog.info? 22 with | none => simp | some i => simp; intro _ h1 _; exact h1
  have hn := (Kd.R_reads' h).1
  rcases Nat.eq_zero_or_pos ys.length with h0 | h0
  · have hr := run_copy_none (P := Try.prog) W 23 23 ty 22 (some ⟨g, 0, none⟩) A n n ys.length c Try.underlying23 hsz (by rw [h0]; exact Nat.min_eq_left (Nat.zero_le _))
    refine ⟨W, by rw [hr, h0]; rfl, ?_, ⟨rfl, rfl, rfl, Nat.le_refl _, fun _ _ _ => rfl⟩⟩
    rw [List.eq_nil_of_length_eq_zero h0]
    exact h
  · have hok := h.1
    have ho := own_of_R h
    have hn' : xs.length = n := hn.symm
    rcases ho.2 with ⟨hv, _⟩ | ⟨g', cap', cur, hv, hb, hh, hnc, hcm, hcs, ht⟩
    · cases hv
    injection hv with ha _ hc'
    injection ha with ha
    injection ha with hg
    subst hg; subst hc'
    obtain ⟨ad, e1, hcell⟩ := hs.2.2 h0
    subst e1
    have hsrc : ∀ j v, (encs (Value.int .u64) ys)[j]? = some v → W.cell? (ad.add j) = some v := fun j v hj => by
      simp only [encs] at hj
      rw [List.getElem?_map] at hj
      obtain ⟨y, hy, rfl⟩ := Option.map_eq_some_iff.1 hj
      obtain ⟨cc, hcl, hK, hcc⟩ := hcell j y hy
      have hK' : cc = [Value.int .u64 y] := hK
      subst hK'
      have := hcc 0 _ rfl
      rwa [show (Kd.int .u64).sz = 1 from rfl, Nat.mul_one, Nat.add_zero] at this
    have hl : (encs (Value.int .u64) ys).length = ys.length := encs_length ..
    have hr := run_copy_row (P := Try.prog) W 23 23 ty 22 g 0 n n ad ys.length c cur 22 (encs (Value.int .u64) ys) Try.underlying23 hsz hh (by rw [hl]; exact (Nat.min_eq_left hm).symm) hsrc (by rw [hl, hcs]; omega) (fun v hv => by simp only [encs] at hv; obtain ⟨y, _, rfl⟩ := List.mem_map.1 hv; rfl)
    rw [hl] at hr
    have hcur : cur.toList.length = n := by rw [Array.length_toList, hcs, Nat.mul_one]
    have ht' : cur.toList = encs (Value.int .u64) xs := by rw [← ht, List.take_of_length_le (by rw [hcur, hn']; omega)]
    have hnew : cur.toList.take 0 ++ encs (Value.int .u64) ys ++ cur.toList.drop (0 + ys.length) = encs (Value.int .u64) (ys ++ xs.drop ys.length) := by
      rw [ht', List.take_zero, List.nil_append, Nat.zero_add]
      simp [encs, List.map_drop]
    have hlen : (ys ++ xs.drop ys.length).length = n := by rw [List.length_append, List.length_drop]; omega
    rw [hnew] at hr
    refine ⟨_, hr, R_of_own ⟨by rw [encs_length, Nat.mul_one], .inr ⟨g, n, _, by rw [hlen], hb, setRow_heap W g _ _ _ _ hh, by rw [hlen]; exact Nat.le_refl _, hcm, by simp [encs_length, hlen], by rw [hlen, Nat.mul_one]; exact List.take_of_length_le (by simp [encs_length, hlen])⟩⟩ hok, ?_⟩
    exact ⟨rfl, rfl, rfl, by simp, fun k _ hk => setRow_other W g k _ (fun e => hk (by rw [e]))⟩
theorem boxO {W : World} {B B' : Nat} {t : TypeId} {v : Value} (h : Boxed W B t v) (hne : B ≠ B') (i : Nat) (u : Value) : Boxed (W.setCell ⟨B', i, none⟩ u) B t v :=
  (Below.heap_setCell W ⟨B', i, none⟩ u B hne).trans h
/-- make([][]uint64, t): rows of nothing. -/
theorem rows_made (W : World) {base : Nat} {ok : Nat → Prop} (t : Nat) (hb : base ≤ W.heap.size) (hok : ok W.heap.size) (ht : t < 1099511627776) :
    Kd.S (Kd.slice 22 (Kd.int .u64)) 23 (W.alloc (.cells (madeCells #[.slice none 0 0] t) 23)) base ok (.slice (some ⟨W.heap.size, 0, none⟩) t t) (List.replicate t ([] : List Int)) := by
  refine S_bare ⟨fun k e => by simp [Value.ownBlock] at e; rw [← e]; exact hok, (madeCells #[Value.slice none 0 0] t).toList, ?_, ?_⟩
  · have h := World.ownsRow_lit (base := base) (e := 23) (size := 1) W (madeCells #[Value.slice none 0 0] t) t hb (by simp [maxLen]; omega) (by simp [size_madeCells])
    rw [List.length_replicate]
    exact h
  · have h := reps_made (R := (bare (Kd.slice 22 (Kd.int .u64))).M (W.alloc (.cells (madeCells #[.slice none 0 0] t) 23)) base (fun k => ok k ∧ some k ≠ (Value.slice (some ⟨W.heap.size, 0, none⟩) t t).ownBlock)) (z := Value.slice none 0 0) (size := 1) (z0 := ([] : List Int)) rfl (by omega) ⟨_, rfl, R_nil _ _ _ _ _⟩ t
    rw [Nat.mul_one] at h
    exact h
/-! ### The memory in the course of the loop -/
section
variable {q : Nat} [NeZero q]
set_option linter.unusedSectionVars false
def VV (ds : List (List (Fin q))) : List (List Int) := ds.map (fun l => l.map V)
/-- What the blocks hold: the boxes of p, t, r, left and d; the array of left; the rows. F: a block that is none of the rows' (besides left's). -/
structure Mem (w : World) (t : Nat) (A3 : Option Addr) (n3 c3 gL gD bP bT bR bL bD : Nat) (F : Nat) (W : World) (lc : List (Fin q)) (rows : List (List (Fin q))) : Prop where
  below : Below w.heap.size w W
  hP : Boxed W bP 22 (.int .u64 (q : Int))
  hT : Boxed W bT 3 (.int .i64 (t : Int))
  hR : Boxed W bR 23 (.slice A3 n3 c3)
  hL : Boxed W bL 23 (.slice (some ⟨gL, 0, none⟩) (2 * t + 1) (2 * t + 1))
  hD : Boxed W bD 28 (.slice (some ⟨gD, 0, none⟩) t t)
  left : (Kd.int .u64).R 22 W w.heap.size (fun k => k = gL) (.slice (some ⟨gL, 0, none⟩) (2 * t + 1) (2 * t + 1)) (lc.map V)
  rws : Kd.S (Kd.slice 22 (Kd.int .u64)) 23 W w.heap.size (fun k => k ≠ gL ∧ k ≠ F) (.slice (some ⟨gD, 0, none⟩) t t) (VV rows)
  apart : (bP < bT ∧ bT < bR ∧ bR < gL ∧ gL < bL ∧ bL < gD ∧ gD < bD) ∧ w.heap.size ≤ bP
  len : lc.length = 2 * t + 1
  cnt : rows.length = t
theorem pL_map {t : Nat} {a b : List (Fin q)} (h : (pmul a b).length ≤ 2 * t + 1) : (pmul a b).map FEv.V ++ (List.replicate (2 * t + 1) (0 : Int)).drop ((pmul a b).map FEv.V).length = (pL t a b).map FEv.V := by
  have e : pL t a b = pmul a b ++ List.replicate (2 * t + 1 - (pmul a b).length) 0 := by
    apply cf_ext
    · rw [pL_len, List.length_append, List.length_replicate]; omega
    · intro i
      rw [cf_append]
      unfold pL
      rw [cf_map_range]
      by_cases h1 : i < (pmul a b).length
      · rw [if_pos (by omega), if_pos h1]
      · rw [if_neg h1, cf_ge (by omega)]
        have : cf (List.replicate (2 * t + 1 - (pmul a b).length) (0 : Fin q)) (i - (pmul a b).length) = 0 := by
          unfold cf
          rw [List.getD_eq_getElem?_getD, List.getElem?_replicate]
          split <;> rfl
        rw [this]
        split <;> rfl
  rw [e, List.map_append, List.drop_replicate, List.length_map, List.map_replicate]
  rfl
/-- The memory ahead of the loop. -/
structure Pre (w : World) (t : Nat) (A3 : Option Addr) (n3 c3 : Nat) (W : World) (xs : List Int) : Prop where
  below : Below w.heap.size w W
  hP : Boxed W w.heap.size 22 (.int .u64 (q : Int))
  hT : Boxed W (w.heap.size + 1) 3 (.int .i64 (t : Int))
  hR : Boxed W (w.heap.size + 1 + 1) 23 (.slice A3 n3 c3)
  hL : Boxed W (w.heap.size + 1 + 1 + 1 + 1) 23 (.slice (some ⟨w.heap.size + 1 + 1 + 1, 0, none⟩) (2 * t + 1) (2 * t + 1))
  left : (Kd.int .u64).R 22 W w.heap.size (fun k => k = w.heap.size + 1 + 1 + 1) (.slice (some ⟨w.heap.size + 1 + 1 + 1, 0, none⟩) (2 * t + 1) (2 * t + 1)) xs
  size : w.heap.size + 5 ≤ W.heap.size
theorem Boxed.under {W W' : World} {B : Nat} {t : TypeId} {v : Value} (h : Boxed W B t v) (hb : Below W.heap.size W W') : Boxed W' B t v := (hb.block B h.lt).trans h
theorem Pre.under {w : World} {t : Nat} {A3 : Option Addr} {n3 c3 : Nat} {W W' : World} {xs : List Int} (h : Pre (q := q) w t A3 n3 c3 W xs) (hb : Below W.heap.size W W') : Pre (q := q) w t A3 n3 c3 W' xs :=
  ⟨below_then h.below (by have := h.size; omega) hb, Boxed.under h.hP hb, Boxed.under h.hT hb, Boxed.under h.hR hb, Boxed.under h.hL hb, R_below h.left hb, by have := h.size; have := hb.size; omega⟩
theorem Pre.copied {w : World} {t : Nat} {A3 : Option Addr} {n3 c3 : Nat} {W W' : World} {xs ys : List Int} (h : Pre (q := q) w t A3 n3 c3 W xs) (hg : W.grownBy W' (some (w.heap.size + 1 + 1 + 1)))
    (hl : (Kd.int .u64).R 22 W' w.heap.size (fun k => k = w.heap.size + 1 + 1 + 1) (.slice (some ⟨w.heap.size + 1 + 1 + 1, 0, none⟩) (2 * t + 1) (2 * t + 1)) ys) : Pre (q := q) w t A3 n3 c3 W' ys := by
  have h5 := h.size
  refine ⟨h.below.grown hg (by omega) (fun k e => by cases e; omega), h.hP.kept hg (by simp; omega), h.hT.kept hg (by simp), h.hR.kept hg (by simp), h.hL.kept hg (by simp), hl, by have := hg.size; omega⟩
variable {w : World} {t : Nat} {A3 : Option Addr} {n3 c3 gL gD bP bT bR bL bD F : Nat} {W W' : World} {lc : List (Fin q)} {rows : List (List (Fin q))}
/-- What turns none of these blocks. -/
theorem Mem.step (h : Mem w t A3 n3 c3 gL gD bP bT bR bL bD F W lc rows) {row : Option Nat} (hg : W.grownBy W' row) (hrow : ∀ k, row = some k → (∃ o : Obj, W.heap[k]? = some o ∧ o.isCells = false) ∧ w.heap.size ≤ k ∨ k = F ∧ bD < F) : Mem w t A3 n3 c3 gL gD bP bT bR bL bD F W' lc rows := by
  have ne : ∀ {B : Nat} {ty : TypeId} {u : Value}, Boxed W B ty u → B ≤ bD → some B ≠ row := fun hB hle e => by
    rcases hrow _ e.symm with ⟨⟨o, ho, hc⟩, _⟩ | h1
    · rw [show W.heap[_]? = _ from hB] at ho; cases ho; cases hc
    · omega
  have hap := h.apart
  have hs := h.below.size
  refine ⟨h.below.grown hg hs (fun k e => ?_), h.hP.kept hg (ne h.hP (by omega)), h.hT.kept hg (ne h.hT (by omega)), h.hR.kept hg (ne h.hR (by omega)), h.hL.kept hg (ne h.hL (by omega)), h.hD.kept hg (ne h.hD (by omega)), ?_, ?_, h.apart, h.len, h.cnt⟩
  · rcases hrow _ e with ⟨_, h1⟩ | h1 <;> omega
  · refine R_mono (R_grown (R_bound h.left) hg (fun k hk e => ?_)) (fun _ hk => hk.1)
    obtain ⟨h0, _, _, qq, _, cells, hc⟩ := hk
    rcases hrow _ e.symm with ⟨⟨o, ho, hn⟩, _⟩ | h1
    · rw [hc] at ho; cases ho; cases hn
    · omega
  · refine S_mono (S_grown (S_bound h.rws) hg (fun k hk e => ?_)) (fun _ hk => hk.1)
    obtain ⟨h0, _, _, qq, _, cells, hc⟩ := hk
    rcases hrow _ e.symm with ⟨⟨o, ho, hn⟩, _⟩ | h1
    · rw [hc] at ho; cases ho; cases hn
    · exact h0.2 h1.1
theorem Mem.drewN (h : Mem w t A3 n3 c3 gL gD bP bT bR bL bD F W lc rows) (n : Nat) : Mem w t A3 n3 c3 gL gD bP bT bR bL bD F (W.drewN n) lc rows :=
  h.step (row := none) (grown_of_below (pw_below_drewN (Below.refl _ _) n) none) (fun _ e => by cases e)
theorem Mem.drew (h : Mem w t A3 n3 c3 gL gD bP bT bR bL bD F W lc rows) : Mem w t A3 n3 c3 gL gD bP bT bR bL bD F W.drew lc rows :=
  h.step (row := none) (grown_of_below (below_drew (Below.refl _ _)) none) (fun _ e => by cases e)
/-- A new block. -/
theorem Mem.alloc (h : Mem w t A3 n3 c3 gL gD bP bT bR bL bD F W lc rows) (o : Obj) : Mem w t A3 n3 c3 gL gD bP bT bR bL bD W.heap.size (W.alloc o) lc rows := by
  have h1 := h.step (row := none) (grown_of_below (below_alloc (Below.refl W.heap.size W) o) none) (fun _ e => by cases e)
  refine { h1 with rws := ?_ }
  have h2 := S_alloc (S_bound h.rws) o
  exact S_mono h2 (fun k hk => ⟨hk.1.1, by have := hk.2.2.1; omega⟩)
/-- What lies ahead of the loop, and the rows. -/
theorem Pre.mem {ys : List (Fin q)} (h : Pre (q := q) w t A3 n3 c3 W (ys.map V)) (ht : t < 1099511627776) (hl : ys.length = 2 * t + 1) (o : Obj) :
    Mem w t A3 n3 c3 (w.heap.size + 1 + 1 + 1) W.heap.size w.heap.size (w.heap.size + 1) (w.heap.size + 1 + 1) (w.heap.size + 1 + 1 + 1 + 1) (W.heap.size + 1) (w.heap.size + 1 + 1 + 1)
      (((W.alloc (.cells (madeCells #[.slice none 0 0] t) 23)).alloc (.cells #[.slice (some ⟨W.heap.size, 0, none⟩) t t] 28)).alloc o) ys (List.replicate t []) := by
  have h5 := h.size
  have hb := below_alloc (below_alloc (below_alloc (Below.refl W.heap.size W) (.cells (madeCells #[.slice none 0 0] t) 23)) (.cells #[.slice (some ⟨W.heap.size, 0, none⟩) t t] 28)) o
  have h1 := h.under hb
  refine ⟨h1.below, h1.hP, h1.hT, h1.hR, h1.hL, ?_, h1.left, ?_, by omega, hl, by simp⟩
  · have := (Boxed.new (W.alloc (.cells (madeCells #[.slice none 0 0] t) 23)) 28 (.slice (some ⟨W.heap.size, 0, none⟩) t t)).alloc o
    simp only [World.size_alloc] at this
    exact this
  · have hr := rows_made W (base := w.heap.size) (ok := fun k => k ≠ w.heap.size + 1 + 1 + 1 ∧ k ≠ w.heap.size + 1 + 1 + 1) t (by omega) (by omega) ht
    have := S_alloc (S_alloc hr (.cells #[.slice (some ⟨W.heap.size, 0, none⟩) t t] 28)) o
    have e : VV (List.replicate t ([] : List (Fin q))) = List.replicate t ([] : List Int) := by unfold VV; rw [List.map_replicate]; rfl
    rw [e]
    exact this
/-- A store into left. -/
theorem Mem.setL (h : Mem w t A3 n3 c3 gL gD bP bT bR bL bD F W lc rows) (i : Nat) (x : Fin q) : Mem w t A3 n3 c3 gL gD bP bT bR bL bD F (W.setCell ⟨gL, i, none⟩ (.int .u64 (V x))) (lc.set i x) rows := by
  have hap := h.apart
  have hg := grownBy_setCell' W gL (.int .u64 (V x))
  refine ⟨below_set h.below (by omega), boxO h.hP (by omega) i _, boxO h.hT (by omega) i _, boxO h.hR (by omega) i _, boxO h.hL (by omega) i _, boxO h.hD (by omega) i _, ?_, ?_, h.apart, by rw [List.length_set]; exact h.len, h.cnt⟩
  · rw [List.map_set]
    have := R_putn h.left (i : Int) (V x)
    rwa [Int.toNat_natCast] at this
  · exact S_far (p := ⟨gL, i, none⟩) h.rws (fun k hk => hk.1) _
/-- A store into a block that is none of these. -/
theorem Mem.setF (h : Mem w t A3 n3 c3 gL gD bP bT bR bL bD F W lc rows) (hF : bD < F) (i : Nat) (u : Value) : Mem w t A3 n3 c3 gL gD bP bT bR bL bD F (W.setCell ⟨F, i, none⟩ u) lc rows := by
  have hap := h.apart
  refine ⟨below_set h.below (by show w.heap.size ≤ F; omega), boxO h.hP (by omega) i _, boxO h.hT (by omega) i _, boxO h.hR (by omega) i _, boxO h.hL (by omega) i _, boxO h.hD (by omega) i _, ?_, ?_, h.apart, h.len, h.cnt⟩
  · exact R_far (p := ⟨F, i, none⟩) h.left (fun k hk => by show k ≠ F; omega) _
  · exact S_far (p := ⟨F, i, none⟩) h.rws (fun k hk => hk.2) _
/-- d[i] = f. -/
theorem Mem.setD (h : Mem w t A3 n3 c3 gL gD bP bT bR bL bD F W lc rows) (hF : bD < F) (i : Nat) (hi : i < t) {f : List (Fin q)} {n : Nat} (hf : (Kd.int .u64).R 22 W w.heap.size (fun k => k = F) (.slice (some ⟨F, 0, none⟩) n n) (f.map V)) :
    Mem w t A3 n3 c3 gL gD bP bT bR bL bD gL (W.setCell ⟨gD, i, none⟩ (.slice (some ⟨F, 0, none⟩) n n)) lc (rows.set i f) := by
  have hap := h.apart
  refine ⟨below_set h.below (by omega), boxO h.hP (by omega) i _, boxO h.hT (by omega) i _, boxO h.hR (by omega) i _, boxO h.hL (by omega) i _, boxO h.hD (by omega) i _, ?_, ?_, h.apart, h.len, by rw [List.length_set]; exact h.cnt⟩
  · exact R_far (p := ⟨gD, i, none⟩) h.left (fun k hk => by show k ≠ gD; omega) _
  · have h0 : (0 : Int) ≤ (i : Int) := by omega
    have h1 : (i : Int) < (t : Int) := by omega
    obtain ⟨oki, c, hcl, _, _, _, _, hH⟩ := S_elem h.rws ([] : List Int) (i : Int) h0 h1
    have h2 := (S_seg (ok := fun k => k ≠ gL) (okg := fun k => k = F) (j := 0) (seg := [.slice (some ⟨F, 0, none⟩) n n]) (x' := f.map V) (okp := fun k => k = F) hH h0 h1 (by show 0 + 1 ≤ 1; omega) ⟨_, by
      have : c.length = 1 := hcl
      match c, this with
      | [u], _ => rfl, hf⟩ (fun k hk => .inr hk) (fun k hk => ⟨by show k ≠ gL; omega, by show k ≠ gD; omega⟩)).1
    rw [Int.toNat_natCast] at h2
    have e1 : VV (rows.set i f) = (VV rows).set i (f.map V) := by unfold VV; rw [List.map_set]
    rw [e1]
    refine S_mono (ok := fun k => k ≠ gL) ?_ (fun k hk => ⟨hk, hk⟩)
    have e2 : W.setCells gD (i * (Kd.slice 22 (Kd.int .u64)).sz + 0) [.slice (some ⟨F, 0, none⟩) n n] = W.setCell ⟨gD, i, none⟩ (.slice (some ⟨F, 0, none⟩) n n) := by
      rw [show (Kd.slice 22 (Kd.int .u64)).sz = 1 from rfl, Nat.mul_one, Nat.add_zero]; rfl
    rw [e2] at h2
    exact h2
/-- In a round that began in W: all this, and the row F that is being filled. -/
structure Rnd (w : World) (t : Nat) (A3 : Option Addr) (n3 c3 gL gD bP bT bR bL bD : Nat) (F : Nat) (W W' : World) (lc : List (Fin q)) (rows : List (List (Fin q))) (f : List Int) : Prop where
  mem : Mem w t A3 n3 c3 gL gD bP bT bR bL bD F W' lc rows
  oth : KeepsOthers W W'
  bel : Below w.heap.size W W'
  row : (Kd.int .u64).R 22 W' w.heap.size (fun k => k = F) (.slice (some ⟨F, 0, none⟩) (t + 1) (t + 1)) f
  far : bD < F
theorem others_drewN {W W' : World} (h : KeepsOthers W W') (n : Nat) : KeepsOthers W (W'.drewN n) :=
  h.trans (KeepsOthers.of_grownBy (row := none) (grown_of_below (pw_below_drewN (Below.refl _ _) n) none) (fun _ _ e => by cases e))
theorem Rnd.drewN {W0 : World} {f : List Int} (h : Rnd w t A3 n3 c3 gL gD bP bT bR bL bD F W0 W lc rows f) (n : Nat) : Rnd w t A3 n3 c3 gL gD bP bT bR bL bD F W0 (W.drewN n) lc rows f :=
  ⟨h.mem.drewN n, others_drewN h.oth n, pw_below_drewN h.bel n, R_drewN h.row n, h.far⟩
theorem Rnd.setF {W0 : World} {f : List Int} (h : Rnd w t A3 n3 c3 gL gD bP bT bR bL bD F W0 W lc rows f) (i : Nat) (x : Int) : Rnd w t A3 n3 c3 gL gD bP bT bR bL bD F W0 (W.setCell ⟨F, i, none⟩ (.int .u64 x)) lc rows (f.set i x) := by
  have hap := h.mem.apart
  have hfar := h.far
  refine ⟨h.mem.setF h.far i _, h.oth.trans (KeepsOthers.setCell _ _ _), h.bel.setCell (p := ⟨F, i, none⟩) (by show w.heap.size ≤ F; omega) _, ?_, h.far⟩
  have := R_putn h.row (i : Int) x
  rwa [Int.toNat_natCast] at this
theorem Rnd.setL {W0 : World} {f : List Int} (h : Rnd w t A3 n3 c3 gL gD bP bT bR bL bD F W0 W lc rows f) (i : Nat) (x : Fin q) : Rnd w t A3 n3 c3 gL gD bP bT bR bL bD F W0 (W.setCell ⟨gL, i, none⟩ (.int .u64 (FEv.V x))) (lc.set i x) rows f := by
  have hap := h.mem.apart
  have hfar := h.far
  refine ⟨h.mem.setL i x, h.oth.trans (KeepsOthers.setCell _ _ _), h.bel.setCell (p := ⟨gL, i, none⟩) (by show w.heap.size ≤ gL; omega) _, ?_, h.far⟩
  exact R_far (p := ⟨gL, i, none⟩) h.row (fun k hk => by show k ≠ gL; omega) _
/-- The loop's own book-keeping turns none of it. -/
theorem mem_own {β : Type} (f : β → List (Fin q) × List (List (Fin q))) {B : Nat} (hB : w.heap.size ≤ B) : OwnFrom B (fun s X => Mem w t A3 n3 c3 gL gD bP bT bR bL bD F X (f s).1 (f s).2) :=
  fun _ _ _ _ h hg hr => h.step hg (fun k e => .inl ⟨(hr k e).2, Nat.le_trans hB (hr k e).1⟩)
end
end Go.Proofs.Ytjkggiemnfigbaa.X

/- Part H of: The statement ProductProofUnique: the law answers true whatever its arguments; no condition. -/
import Derived.Test.YtjkggiemnfigbaaZProductProofUniqueG
import Derived.Laws.IdiomCopy
import Derived.Sort.CutIn
import Derived.Sort.LoopGhostIn
import Derived.Laws.CopyRow
section
namespace Go.Proofs.Ytjkggiemnfigbaa.X
open Go.RowKit Go.Shelf Go.Proofs.YtjkggiemnfigbaaW.PrintWords Go.Proofs.YtjkggiemnfigbaaW.PrintLast Go.Proofs.YtjkggiemnfigbaaW.PrintMore Go.Proofs.Ytjkggiemnfigbaa.PF Go.Proofs.Ytjkggiemnfigbaa.PQ Go.Proofs.YtjkggiemnfigbaaNum Go.Proofs.Ytjkggiemnfigbaa.FEv Go.Proofs.Ytjkggiemnfigbaa.FPoly Kd
section
open Kd
end
theorem R_block {α : Type} {d : Kd α} {e : Nat} {W : World} {base g n c : Nat} {ok : Nat → Prop} {xs : List α} (h : d.R e W base ok (.slice (some ⟨g, 0, none⟩) n c) xs) : ∃ cells, W.heap[g]? = some (.cells cells e (0, 0)) := R_typed h g rfl
theorem R_others {α : Type} {d : Kd α} {e : Nat} {W W' : World} {base g n c : Nat} {ok : Nat → Prop} {xs : List α} (h : d.R e W base ok (.slice (some ⟨g, 0, none⟩) n c) xs) (hg : W.grownBy W' (some g)) : KeepsOthers W W' :=
  KeepsOthers.of_grownBy hg (fun j o ej hj => by
    cases ej
    obtain ⟨cells, hc⟩ := R_block h
    rw [hc] at hj
    cases hj
    rfl)
/-- copy: the first elements are the source's. -/
theorem copy_ints {W : World} {base : Nat} {ok : Nat → Prop} {g n : Nat} {xs ys : List Int} {A : Option Addr} {c : Nat} (h : (Kd.int .u64).R 22 W base ok (.slice (some ⟨g, 0, none⟩) n n) xs) (hs : (Kd.int .u64).C W A ys.length ys) (hm : ys.length ≤ n) (ty : TypeId) :
    ∃ w2, (Builtin.copy_ #[23, 23] ty #[.slice (some ⟨g, 0, none⟩) n n, .slice A ys.length c]).run Try.prog W = .ok (goInt ys.length) w2 ∧ (Kd.int .u64).R 22 w2 base ok (.slice (some ⟨g, 0, none⟩) n n) (ys ++ xs.drop ys.length) ∧ W.grownBy w2 (some g) := by
  have hsz : (Try.prog.info? 22).map (·.size) = some 1 := by have := infoU; revert this; cases Try.prog.info? 22 with | none => simp | some i => simp; intro _ h1 _; exact h1
  have hn := (Kd.R_reads' h).1
  rcases Nat.eq_zero_or_pos ys.length with h0 | h0
  · have hr := run_copy_none (P := Try.prog) W 23 23 ty 22 (some ⟨g, 0, none⟩) A n n ys.length c Try.underlying23 hsz (by rw [h0]; exact Nat.min_eq_left (Nat.zero_le _))
    refine ⟨W, by rw [hr, h0]; rfl, ?_, ⟨rfl, rfl, rfl, Nat.le_refl _, fun _ _ _ => rfl⟩⟩
    rw [List.eq_nil_of_length_eq_zero h0]
    exact h
  · have hok := h.1
    have ho := own_of_R h
    have hn' : xs.length = n := hn.symm
    rcases ho.2 with ⟨hv, _⟩ | ⟨g', cap', cur, hv, hb, hh, hnc, hcm, hcs, ht⟩
    · cases hv
    injection hv with ha _ hc'
    injection ha with ha
    injection ha with hg
    subst hg; subst hc'
    obtain ⟨ad, e1, hcell⟩ := hs.2.2 h0
    subst e1
    have hsrc : ∀ j v, (encs (Value.int .u64) ys)[j]? = some v → W.cell? (ad.add j) = some v := fun j v hj => by
      simp only [encs] at hj
      rw [List.getElem?_map] at hj
      obtain ⟨y, hy, rfl⟩ := Option.map_eq_some_iff.1 hj
      obtain ⟨cc, hcl, hK, hcc⟩ := hcell j y hy
      have hK' : cc = [Value.int .u64 y] := hK
      subst hK'
      have := hcc 0 _ rfl
      rwa [show (Kd.int .u64).sz = 1 from rfl, Nat.mul_one, Nat.add_zero] at this
    have hl : (encs (Value.int .u64) ys).length = ys.length := encs_length ..
    have hr := run_copy_row (P := Try.prog) W 23 23 ty 22 g 0 n n ad ys.length c cur 22 (encs (Value.int .u64) ys) Try.underlying23 hsz hh (by rw [hl]; exact (Nat.min_eq_left hm).symm) hsrc (by rw [hl, hcs]; omega) (fun v hv => by simp only [encs] at hv; obtain ⟨y, _, rfl⟩ := List.mem_map.1 hv; rfl)
    rw [hl] at hr
    have hcur : cur.toList.length = n := by rw [Array.length_toList, hcs, Nat.mul_one]
    have ht' : cur.toList = encs (Value.int .u64) xs := by rw [← ht, List.take_of_length_le (by rw [hcur, hn']; omega)]
    have hnew : cur.toList.take 0 ++ encs (Value.int .u64) ys ++ cur.toList.drop (0 + ys.length) = encs (Value.int .u64) (ys ++ xs.drop ys.length) := by
      rw [ht', List.take_zero, List.nil_append, Nat.zero_add]
      simp [encs, List.map_drop]
    have hlen : (ys ++ xs.drop ys.length).length = n := by rw [List.length_append, List.length_drop]; omega
    rw [hnew] at hr
    refine ⟨_, hr, R_of_own ⟨by rw [encs_length, Nat.mul_one], .inr ⟨g, n, _, by rw [hlen], hb, setRow_heap W g _ _ _ _ hh, by rw [hlen]; exact Nat.le_refl _, hcm, by simp [encs_length, hlen], by rw [hlen, Nat.mul_one]; exact List.take_of_length_le (by simp [encs_length, hlen])⟩⟩ hok, ?_⟩
    exact ⟨rfl, rfl, rfl, by simp, fun k _ hk => setRow_other W g k _ (fun e => hk (by rw [e]))⟩
theorem boxO {W : World} {B B' : Nat} {t : TypeId} {v : Value} (h : Boxed W B t v) (hne : B ≠ B') (i : Nat) (u : Value) : Boxed (W.setCell ⟨B', i, none⟩ u) B t v :=
  (Below.heap_setCell W ⟨B', i, none⟩ u B hne).trans h
/-- make([][]uint64, t): rows of nothing. -/
theorem rows_made (W : World) {base : Nat} {ok : Nat → Prop} (t : Nat) (hb : base ≤ W.heap.size) (hok : ok W.heap.size) (ht : t < 1099511627776) :
    Kd.S (Kd.slice 22 (Kd.int .u64)) 23 (W.alloc (.cells (madeCells #[.slice none 0 0] t) 23)) base ok (.slice (some ⟨W.heap.size, 0, none⟩) t t) (List.replicate t ([] : List Int)) := by
  refine S_bare ⟨fun k e => by simp [Value.ownBlock] at e; rw [← e]; exact hok, (madeCells #[Value.slice none 0 0] t).toList, ?_, ?_⟩
  · have h := World.ownsRow_lit (base := base) (e := 23) (size := 1) W (madeCells #[Value.slice none 0 0] t) t hb (by simp [maxLen]; omega) (by simp [size_madeCells])
    rw [List.length_replicate]
    exact h
  · have h := reps_made (R := (bare (Kd.slice 22 (Kd.int .u64))).M (W.alloc (.cells (madeCells #[.slice none 0 0] t) 23)) base (fun k => ok k ∧ some k ≠ (Value.slice (some ⟨W.heap.size, 0, none⟩) t t).ownBlock)) (z := Value.slice none 0 0) (size := 1) (z0 := ([] : List Int)) rfl (by omega) ⟨_, rfl, R_nil _ _ _ _ _⟩ t
    rw [Nat.mul_one] at h
    exact h
section
variable {q : Nat} [NeZero q]
set_option linter.unusedSectionVars false
def VV (ds : List (List (Fin q))) : List (List Int) := ds.map (fun l => l.map V)
/-- What the blocks hold: the boxes of p, t, r, left and d; the array of left; the rows. F: a block that is none of the rows' (besides left's). -/
structure Mem (w : World) (t : Nat) (A3 : Option Addr) (n3 c3 gL gD bP bT bR bL bD : Nat) (F : Nat) (W : World) (lc : List (Fin q)) (rows : List (List (Fin q))) : Prop where
  below : Below w.heap.size w W
  hP : Boxed W bP 22 (.int .u64 (q : Int))
  hT : Boxed W bT 3 (.int .i64 (t : Int))
  hR : Boxed W bR 23 (.slice A3 n3 c3)
  hL : Boxed W bL 23 (.slice (some ⟨gL, 0, none⟩) (2 * t + 1) (2 * t + 1))
  hD : Boxed W bD 28 (.slice (some ⟨gD, 0, none⟩) t t)
  left : (Kd.int .u64).R 22 W w.heap.size (fun k => k = gL) (.slice (some ⟨gL, 0, none⟩) (2 * t + 1) (2 * t + 1)) (lc.map V)
  rws : Kd.S (Kd.slice 22 (Kd.int .u64)) 23 W w.heap.size (fun k => k ≠ gL ∧ k ≠ F) (.slice (some ⟨gD, 0, none⟩) t t) (VV rows)
  apart : (bP < bT ∧ bT < bR ∧ bR < gL ∧ gL < bL ∧ bL < gD ∧ gD < bD) ∧ w.heap.size ≤ bP
  len : lc.length = 2 * t + 1
  cnt : rows.length = t
theorem pL_map {t : Nat} {a b : List (Fin q)} (h : (pmul a b).length ≤ 2 * t + 1) : (pmul a b).map FEv.V ++ (List.replicate (2 * t + 1) (0 : Int)).drop ((pmul a b).map FEv.V).length = (pL t a b).map FEv.V := by
  have e : pL t a b = pmul a b ++ List.replicate (2 * t + 1 - (pmul a b).length) 0 := by
    apply cf_ext
    · rw [pL_len, List.length_append, List.length_replicate]; omega
    · intro i
      rw [cf_append]
      unfold pL
      rw [cf_map_range]
      by_cases h1 : i < (pmul a b).length
      · rw [if_pos (by omega), if_pos h1]
      · rw [if_neg h1, cf_ge (by omega)]
        have : cf (List.replicate (2 * t + 1 - (pmul a b).length) (0 : Fin q)) (i - (pmul a b).length) = 0 := by
          unfold cf
          rw [List.getD_eq_getElem?_getD, List.getElem?_replicate]
          split <;> rfl
        rw [this]
        split <;> rfl
  rw [e, List.map_append, List.drop_replicate, List.length_map, List.map_replicate]
  rfl
/-- The memory ahead of the loop. -/
structure Pre (w : World) (t : Nat) (A3 : Option Addr) (n3 c3 : Nat) (W : World) (xs : List Int) : Prop where
  below : Below w.heap.size w W
  hP : Boxed W w.heap.size 22 (.int .u64 (q : Int))
  hT : Boxed W (w.heap.size + 1) 3 (.int .i64 (t : Int))
  hR : Boxed W (w.heap.size + 1 + 1) 23 (.slice A3 n3 c3)
  hL : Boxed W (w.heap.size + 1 + 1 + 1 + 1) 23 (.slice (some ⟨w.heap.size + 1 + 1 + 1, 0, none⟩) (2 * t + 1) (2 * t + 1))
  left : (Kd.int .u64).R 22 W w.heap.size (fun k => k = w.heap.size + 1 + 1 + 1) (.slice (some ⟨w.heap.size + 1 + 1 + 1, 0, none⟩) (2 * t + 1) (2 * t + 1)) xs
  size : w.heap.size + 5 ≤ W.heap.size
theorem Boxed.under {W W' : World} {B : Nat} {t : TypeId} {v : Value} (h : Boxed W B t v) (hb : Below W.heap.size W W') : Boxed W' B t v := (hb.block B h.lt).trans h
theorem Pre.under {w : World} {t : Nat} {A3 : Option Addr} {n3 c3 : Nat} {W W' : World} {xs : List Int} (h : Pre (q := q) w t A3 n3 c3 W xs) (hb : Below W.heap.size W W') : Pre (q := q) w t A3 n3 c3 W' xs :=
  ⟨below_then h.below (by have := h.size; omega) hb, Boxed.under h.hP hb, Boxed.under h.hT hb, Boxed.under h.hR hb, Boxed.under h.hL hb, R_below h.left hb, by have := h.size; have := hb.size; omega⟩
theorem Pre.copied {w : World} {t : Nat} {A3 : Option Addr} {n3 c3 : Nat} {W W' : World} {xs ys : List Int} (h : Pre (q := q) w t A3 n3 c3 W xs) (hg : W.grownBy W' (some (w.heap.size + 1 + 1 + 1)))
    (hl : (Kd.int .u64).R 22 W' w.heap.size (fun k => k = w.heap.size + 1 + 1 + 1) (.slice (some ⟨w.heap.size + 1 + 1 + 1, 0, none⟩) (2 * t + 1) (2 * t + 1)) ys) : Pre (q := q) w t A3 n3 c3 W' ys := by
  have h5 := h.size
  refine ⟨h.below.grown hg (by omega) (fun k e => by cases e; omega), h.hP.kept hg (by simp; omega), h.hT.kept hg (by simp), h.hR.kept hg (by simp), h.hL.kept hg (by simp), hl, by have := hg.size; omega⟩
variable {w : World} {t : Nat} {A3 : Option Addr} {n3 c3 gL gD bP bT bR bL bD F : Nat} {W W' : World} {lc : List (Fin q)} {rows : List (List (Fin q))}
/-- What turns none of these blocks. -/
theorem Mem.step (h : Mem w t A3 n3 c3 gL gD bP bT bR bL bD F W lc rows) {row : Option Nat} (hg : W.grownBy W' row) (hrow : ∀ k, row = some k → (∃ o : Obj, W.heap[k]? = some o ∧ o.isCells = false) ∧ w.heap.size ≤ k ∨ k = F ∧ bD < F) : Mem w t A3 n3 c3 gL gD bP bT bR bL bD F W' lc rows := by
  have ne : ∀ {B : Nat} {ty : TypeId} {u : Value}, Boxed W B ty u → B ≤ bD → some B ≠ row := fun hB hle e => by
    rcases hrow _ e.symm with ⟨⟨o, ho, hc⟩, _⟩ | h1
    · rw [show W.heap[_]? = _ from hB] at ho; cases ho; cases hc
    · omega
  have hap := h.apart
  have hs := h.below.size
  refine ⟨h.below.grown hg hs (fun k e => ?_), h.hP.kept hg (ne h.hP (by omega)), h.hT.kept hg (ne h.hT (by omega)), h.hR.kept hg (ne h.hR (by omega)), h.hL.kept hg (ne h.hL (by omega)), h.hD.kept hg (ne h.hD (by omega)), ?_, ?_, h.apart, h.len, h.cnt⟩
  · rcases hrow _ e with ⟨_, h1⟩ | h1 <;> omega
  · refine R_mono (R_grown (R_bound h.left) hg (fun k hk e => ?_)) (fun _ hk => hk.1)
    obtain ⟨h0, _, _, qq, _, cells, hc⟩ := hk
    rcases hrow _ e.symm with ⟨⟨o, ho, hn⟩, _⟩ | h1
    · rw [hc] at ho; cases ho; cases hn
    · omega
  · refine S_mono (S_grown (S_bound h.rws) hg (fun k hk e => ?_)) (fun _ hk => hk.1)
    obtain ⟨h0, _, _, qq, _, cells, hc⟩ := hk
    rcases hrow _ e.symm with ⟨⟨o, ho, hn⟩, _⟩ | h1
    · rw [hc] at ho; cases ho; cases hn
    · exact h0.2 h1.1
theorem Mem.drewN (h : Mem w t A3 n3 c3 gL gD bP bT bR bL bD F W lc rows) (n : Nat) : Mem w t A3 n3 c3 gL gD bP bT bR bL bD F (W.drewN n) lc rows :=
  h.step (row := none) (grown_of_below (pw_below_drewN (Below.refl _ _) n) none) (fun _ e => by cases e)
/-- A new block. -/
theorem Mem.alloc (h : Mem w t A3 n3 c3 gL gD bP bT bR bL bD F W lc rows) (o : Obj) : Mem w t A3 n3 c3 gL gD bP bT bR bL bD W.heap.size (W.alloc o) lc rows := by
  have h1 := h.step (row := none) (grown_of_below (below_alloc (Below.refl W.heap.size W) o) none) (fun _ e => by cases e)
  refine { h1 with rws := ?_ }
  have h2 := S_alloc (S_bound h.rws) o
  exact S_mono h2 (fun k hk => ⟨hk.1.1, by have := hk.2.2.1; omega⟩)
/-- What lies ahead of the loop, and the rows. -/
theorem Pre.mem {ys : List (Fin q)} (h : Pre (q := q) w t A3 n3 c3 W (ys.map V)) (ht : t < 1099511627776) (hl : ys.length = 2 * t + 1) (o : Obj) :
    Mem w t A3 n3 c3 (w.heap.size + 1 + 1 + 1) W.heap.size w.heap.size (w.heap.size + 1) (w.heap.size + 1 + 1) (w.heap.size + 1 + 1 + 1 + 1) (W.heap.size + 1) (w.heap.size + 1 + 1 + 1)
      (((W.alloc (.cells (madeCells #[.slice none 0 0] t) 23)).alloc (.cells #[.slice (some ⟨W.heap.size, 0, none⟩) t t] 28)).alloc o) ys (List.replicate t []) := by
  have h5 := h.size
  have hb := below_alloc (below_alloc (below_alloc (Below.refl W.heap.size W) (.cells (madeCells #[.slice none 0 0] t) 23)) (.cells #[.slice (some ⟨W.heap.size, 0, none⟩) t t] 28)) o
  have h1 := h.under hb
  refine ⟨h1.below, h1.hP, h1.hT, h1.hR, h1.hL, ?_, h1.left, ?_, by omega, hl, by simp⟩
  · have := (Boxed.new (W.alloc (.cells (madeCells #[.slice none 0 0] t) 23)) 28 (.slice (some ⟨W.heap.size, 0, none⟩) t t)).alloc o
    simp only [World.size_alloc] at this
    exact this
  · have hr := rows_made W (base := w.heap.size) (ok := fun k => k ≠ w.heap.size + 1 + 1 + 1 ∧ k ≠ w.heap.size + 1 + 1 + 1) t (by omega) (by omega) ht
    have := S_alloc (S_alloc hr (.cells #[.slice (some ⟨W.heap.size, 0, none⟩) t t] 28)) o
    have e : VV (List.replicate t ([] : List (Fin q))) = List.replicate t ([] : List Int) := by unfold VV; rw [List.map_replicate]; rfl
    rw [e]
    exact this
/-- A store into left. -/
theorem Mem.setL (h : Mem w t A3 n3 c3 gL gD bP bT bR bL bD F W lc rows) (i : Nat) (x : Fin q) : Mem w t A3 n3 c3 gL gD bP bT bR bL bD F (W.setCell ⟨gL, i, none⟩ (.int .u64 (V x))) (lc.set i x) rows := by
  have hap := h.apart
  have hg := grownBy_setCell' W gL (.int .u64 (V x))
  refine ⟨below_set h.below (by omega), boxO h.hP (by omega) i _, boxO h.hT (by omega) i _, boxO h.hR (by omega) i _, boxO h.hL (by omega) i _, boxO h.hD (by omega) i _, ?_, ?_, h.apart, by rw [List.length_set]; exact h.len, h.cnt⟩
  · rw [List.map_set]
    have := R_putn h.left (i : Int) (V x)
    rwa [Int.toNat_natCast] at this
  · exact S_far (p := ⟨gL, i, none⟩) h.rws (fun k hk => hk.1) _
/-- A store into a block that is none of these. -/
theorem Mem.setF (h : Mem w t A3 n3 c3 gL gD bP bT bR bL bD F W lc rows) (hF : bD < F) (i : Nat) (u : Value) : Mem w t A3 n3 c3 gL gD bP bT bR bL bD F (W.setCell ⟨F, i, none⟩ u) lc rows := by
  have hap := h.apart
  refine ⟨below_set h.below (by show w.heap.size ≤ F; omega), boxO h.hP (by omega) i _, boxO h.hT (by omega) i _, boxO h.hR (by omega) i _, boxO h.hL (by omega) i _, boxO h.hD (by omega) i _, ?_, ?_, h.apart, h.len, h.cnt⟩
  · exact R_far (p := ⟨F, i, none⟩) h.left (fun k hk => by show k ≠ F; omega) _
  · exact S_far (p := ⟨F, i, none⟩) h.rws (fun k hk => hk.2) _
/-- d[i] = f. -/
theorem Mem.setD (h : Mem w t A3 n3 c3 gL gD bP bT bR bL bD F W lc rows) (hF : bD < F) (i : Nat) (hi : i < t) {f : List (Fin q)} {n : Nat} (hf : (Kd.int .u64).R 22 W w.heap.size (fun k => k = F) (.slice (some ⟨F, 0, none⟩) n n) (f.map V)) :
    Mem w t A3 n3 c3 gL gD bP bT bR bL bD gL (W.setCell ⟨gD, i, none⟩ (.slice (some ⟨F, 0, none⟩) n n)) lc (rows.set i f) := by
  have hap := h.apart
  refine ⟨below_set h.below (by omega), boxO h.hP (by omega) i _, boxO h.hT (by omega) i _, boxO h.hR (by omega) i _, boxO h.hL (by omega) i _, boxO h.hD (by omega) i _, ?_, ?_, h.apart, h.len, by rw [List.length_set]; exact h.cnt⟩
  · exact R_far (p := ⟨gD, i, none⟩) h.left (fun k hk => by show k ≠ gD; omega) _
  · have h0 : (0 : Int) ≤ (i : Int) := by omega
    have h1 : (i : Int) < (t : Int) := by omega
    obtain ⟨oki, c, hcl, _, _, _, _, hH⟩ := S_elem h.rws ([] : List Int) (i : Int) h0 h1
    have h2 := (S_seg (ok := fun k => k ≠ gL) (okg := fun k => k = F) (j := 0) (seg := [.slice (some ⟨F, 0, none⟩) n n]) (x' := f.map V) (okp := fun k => k = F) hH h0 h1 (by show 0 + 1 ≤ 1; omega) ⟨_, by
      have : c.length = 1 := hcl
      match c, this with
      | [u], _ => rfl, hf⟩ (fun k hk => .inr hk) (fun k hk => ⟨by show k ≠ gL; omega, by show k ≠ gD; omega⟩)).1
    rw [Int.toNat_natCast] at h2
    have e1 : VV (rows.set i f) = (VV rows).set i (f.map V) := by unfold VV; rw [List.map_set]
    rw [e1]
    refine S_mono (ok := fun k => k ≠ gL) ?_ (fun k hk => ⟨hk, hk⟩)
    have e2 : W.setCells gD (i * (Kd.slice 22 (Kd.int .u64)).sz + 0) [.slice (some ⟨F, 0, none⟩) n n] = W.setCell ⟨gD, i, none⟩ (.slice (some ⟨F, 0, none⟩) n n) := by
      rw [show (Kd.slice 22 (Kd.int .u64)).sz = 1 from rfl, Nat.mul_one, Nat.add_zero]; rfl
    rw [e2] at h2
    exact h2
/-- In a round that began in W: all this, and the row F that is being filled. -/
structure Rnd (w : World) (t : Nat) (A3 : Option Addr) (n3 c3 gL gD bP bT bR bL bD : Nat) (F : Nat) (W W' : World) (lc : List (Fin q)) (rows : List (List (Fin q))) (f : List Int) : Prop where
  mem : Mem w t A3 n3 c3 gL gD bP bT bR bL bD F W' lc rows
  oth : KeepsOthers W W'
  bel : Below w.heap.size W W'
  row : (Kd.int .u64).R 22 W' w.heap.size (fun k => k = F) (.slice (some ⟨F, 0, none⟩) (t + 1) (t + 1)) f
  far : bD < F
theorem others_drewN {W W' : World} (h : KeepsOthers W W') (n : Nat) : KeepsOthers W (W'.drewN n) :=
  h.trans (KeepsOthers.of_grownBy (row := none) (grown_of_below (pw_below_drewN (Below.refl _ _) n) none) (fun _ _ e => by cases e))
theorem Rnd.drewN {W0 : World} {f : List Int} (h : Rnd w t A3 n3 c3 gL gD bP bT bR bL bD F W0 W lc rows f) (n : Nat) : Rnd w t A3 n3 c3 gL gD bP bT bR bL bD F W0 (W.drewN n) lc rows f :=
  ⟨h.mem.drewN n, others_drewN h.oth n, pw_below_drewN h.bel n, R_drewN h.row n, h.far⟩
theorem Rnd.setF {W0 : World} {f : List Int} (h : Rnd w t A3 n3 c3 gL gD bP bT bR bL bD F W0 W lc rows f) (i : Nat) (x : Int) : Rnd w t A3 n3 c3 gL gD bP bT bR bL bD F W0 (W.setCell ⟨F, i, none⟩ (.int .u64 x)) lc rows (f.set i x) := by
  have hap := h.mem.apart
  have hfar := h.far
  refine ⟨h.mem.setF h.far i _, h.oth.trans (KeepsOthers.setCell _ _ _), h.bel.setCell (p := ⟨F, i, none⟩) (by show w.heap.size ≤ F; omega) _, ?_, h.far⟩
  have := R_putn h.row (i : Int) x
  rwa [Int.toNat_natCast] at this
theorem Rnd.setL {W0 : World} {f : List Int} (h : Rnd w t A3 n3 c3 gL gD bP bT bR bL bD F W0 W lc rows f) (i : Nat) (x : Fin q) : Rnd w t A3 n3 c3 gL gD bP bT bR bL bD F W0 (W.setCell ⟨gL, i, none⟩ (.int .u64 (FEv.V x))) (lc.set i x) rows f := by
  have hap := h.mem.apart
  have hfar := h.far
  refine ⟨h.mem.setL i x, h.oth.trans (KeepsOthers.setCell _ _ _), h.bel.setCell (p := ⟨gL, i, none⟩) (by show w.heap.size ≤ gL; omega) _, ?_, h.far⟩
  exact R_far (p := ⟨gL, i, none⟩) h.row (fun k hk => by show k ≠ gL; omega) _
/-- The loop's own book-keeping turns none of it. -/
theorem mem_own {β : Type} (f : β → List (Fin q) × List (List (Fin q))) {B : Nat} (hB : w.heap.size ≤ B) : OwnFrom B (fun s X => Mem w t A3 n3 c3 gL gD bP bT bR bL bD F X (f s).1 (f s).2) :=
  fun _ _ _ _ h hg hr => h.step hg (fun k e => .inl ⟨(hr k e).2, Nat.le_trans hB (hr k e).1⟩)
end
end Go.Proofs.Ytjkggiemnfigbaa.X
end
section
namespace Go.Proofs.Ytjkggiemnfigbaa.X
open Go.RowKit Go.Shelf Go.Proofs.YtjkggiemnfigbaaW.PrintWords Go.Proofs.YtjkggiemnfigbaaW.PrintLast Go.Proofs.YtjkggiemnfigbaaW.PrintMore Go.Proofs.Ytjkggiemnfigbaa.PF Go.Proofs.Ytjkggiemnfigbaa.PQ Go.Proofs.YtjkggiemnfigbaaNum Go.Proofs.Ytjkggiemnfigbaa.FEv Go.Proofs.Ytjkggiemnfigbaa.FPoly Go.Proofs.Ytjkggiemnfigbaa.QT
attribute [local go_sem] Oper.semAt_some
section
variable {q : Nat} [NeZero q]
def stepP (t : Nat) (r : List (Fin q)) (s : List (Fin q) × List (List (Fin q))) (k : Nat) : List (Fin q) × List (List (Fin q)) := (pcut s.1 (prow t r k s.1) k, s.2.set (k - 1) (prow t r k s.1))
def stP (t : Nat) (r : List (Fin q)) (s : List (Fin q) × List (List (Fin q))) (pre : List (Dn t)) : List (Fin q) × List (List (Fin q)) := pre.foldl (fun s x => stepP t r s x.1) s
theorem stP_snoc {t : Nat} {r : List (Fin q)} {s : List (Fin q) × List (List (Fin q))} (pre : List (Dn t)) (x : Dn t) : stP t r s (pre ++ [x]) = stepP t r (stP t r s pre) x.1 := by unfold stP; rw [List.foldl_append]; rfl
theorem stP_down {t : Nat} {r L : List (Fin q)} : ∀ (n : Nat) (xs : List (Dn t)), n ≤ t → xs.map Subtype.val = downL t n →
    (stP t r (L, List.replicate t []) xs).1 = pleft t r L n ∧ (stP t r (L, List.replicate t []) xs).2.length = t ∧ ∀ i, i < t → rowN (stP t r (L, List.replicate t []) xs).2 i = if t - n ≤ i then prow t r (i + 1) (pleft t r L (t - 1 - i)) else []
  | 0, xs, _, h => by
    have : xs = [] := List.map_eq_nil_iff.1 h
    subst this
    refine ⟨rfl, by simp [stP], fun i hi => ?_⟩
    rw [if_neg (by omega)]
    show (List.replicate t ([] : List (Fin q))).getD i [] = []
    rw [List.getD_eq_getElem?_getD, List.getElem?_replicate, if_pos hi]; rfl
  | n + 1, xs, hn, h => by
    rw [downL_snoc] at h
    obtain ⟨ys, zs, rfl, h1, h2⟩ := List.map_eq_append_iff.1 h
    obtain ⟨x, zs', rfl, h3, h4⟩ := List.map_eq_cons_iff.1 h2
    have h5 : zs' = [] := List.map_eq_nil_iff.1 h4
    subst h5
    obtain ⟨e1, e2, e3⟩ := stP_down n ys (by omega) h1
    rw [stP_snoc]
    unfold stepP
    dsimp only
    rw [h3, e1]
    refine ⟨rfl, by rw [List.length_set, e2], fun i hi => ?_⟩
    show (List.set _ _ _).getD i [] = _
    rw [List.getD_eq_getElem?_getD, List.getElem?_set]
    by_cases h6 : t - n - 1 = i
    · rw [if_pos h6, if_pos (by rw [e2]; omega), if_pos (by omega), show i + 1 = t - n by omega, show t - 1 - i = n by omega]; rfl
    · rw [if_neg h6]
      have := e3 i hi
      unfold rowN at this
      rw [List.getD_eq_getElem?_getD] at this
      rw [this]
      by_cases h7 : t - n ≤ i
      · rw [if_pos h7, if_pos (by omega)]
      · rw [if_neg h7, if_neg (by omega)]
theorem stP_all {t : Nat} {r L : List (Fin q)} {xs : List (Dn t)} (h : xs.map Subtype.val = downL t t) : (stP t r (L, List.replicate t []) xs).1 = pleft t r L t ∧ (stP t r (L, List.replicate t []) xs).2 = pD t r L := by
  obtain ⟨e1, e2, e3⟩ := stP_down (r := r) (L := L) t xs (Nat.le_refl _) h
  refine ⟨e1, List.ext_getElem (by rw [e2, pD_len]) (fun i h1 h2 => ?_)⟩
  have h3 : i < t := by omega
  have h4 := e3 i h3
  rw [if_pos (by omega), ← rowN_pD h3] at h4
  unfold rowN at h4
  rw [List.getD_eq_getElem?_getD, List.getD_eq_getElem?_getD, List.getElem?_eq_getElem h1, List.getElem?_eq_getElem h2] at h4
  exact h4
set_option maxHeartbeats 4000000 in
set_option maxRecDepth 100000 in
theorem prove_calls (hq : Sup q) (t : Nat) (a b r : List (Fin q)) (A2 A3 A4 : Option Addr) (c2 c3 c4 : Nat) (w : World) (ht0 : 1 ≤ t) (ht : t < 65536) (ha : a.length ≤ t + 1) (hb : b.length ≤ t + 1) (hr : t * t ≤ r.length) (hr1 : r.length < 1099511627776) (hc4 : r.length ≤ c4)
    (k2 : Kd.C (Kd.int .u64) w A2 (a.map V).length (a.map V)) (k3 : Kd.C (Kd.int .u64) w A3 (b.map V).length (b.map V)) (k4 : Kd.C (Kd.int .u64) w A4 (r.map V).length (r.map V)) :
    Calls Try.prog 17 #[.int .u64 (q : Int), .int .i64 (t : Int), .slice A2 (a.map V).length c2, .slice A3 (b.map V).length c3, .slice A4 (r.map V).length c4] w fun e w' => ∃ v0_ v1_ : Value, e = .returned (.tuple #[v0_, v1_]) ∧ Kd.S (Kd.slice 22 (Kd.int .u64)) 23 w' w.heap.size (fun k_ => some k_ ≠ (v1_ : Value).ownBlock) v0_ (VV (pD t r (pL t a b))) ∧ Kd.R (Kd.int .u64) 22 w' w.heap.size (fun k_ => some k_ ≠ (v0_ : Value).ownBlock) v1_ ((pC t r (pL t a b)).map V) ∧ Below w.heap.size w w' := by
  have hM := polyOp_eq hq opMul a b (by omega) (by omega)
  obtain ⟨L1, hL1⟩ : ∃ L : List Int, a.map V = L := ⟨_, rfl⟩
  obtain ⟨L2, hL2⟩ : ∃ L : List Int, b.map V = L := ⟨_, rfl⟩
  obtain ⟨L3, hL3⟩ : ∃ L : List Int, r.map V = L := ⟨_, rfl⟩
  have hn3 : L3.length = r.length := by rw [← hL3, List.length_map]
  rw [hL1] at k2 hM ⊢
  rw [hL2] at k3 hM ⊢
  rw [hL3] at k4 ⊢
  obtain ⟨LM, hLM⟩ : ∃ L : List Int, (pmul a b).map V = L := ⟨_, rfl⟩
  rw [show opMul q a b = pmul a b from rfl, hLM] at hM
  have HM := Aside0.mk hM
  have HLM := Aside0.mk hLM
  have HL3 := Aside0.mk hL3
  have N3 := Aside0.mk hn3
  clear hL1 hL2 hL3 hM hn3 hLM
  have K2 := Aside0.mk k2
  have K3 := Aside0.mk k3
  have K4 := Aside0.mk k4
  have HA := Aside0.mk ha
  have HB := Aside0.mk hb
  have HR := Aside0.mk hr
  have HR1 := Aside0.mk hr1
  clear k2 k3 k4 ha hb hr hr1
  have hm1 := print_make (P := Try.prog) 23 22 .u64 8 Try.underlying23 infoU (by decide) (2 * t + 1) (by omega)
  have hm2 := fun W => run_make_row' (P := Try.prog) 28 23 (.slice none 0 0) 24 Try.underlying28 (by kernel_rfl) rfl .i64 .i64 t (by omega) (by omega) W
  rw [show ((2 * t + 1 : Nat) : Int) = 2 * (t : Int) + 1 by omega] at hm1
  refine (callsIn_wide (n := 10)).1 ?_
  refine callsIn_of_wp_marks Try.func17 rfl trivial ?_ rfl
  simp only [Try.ntmps17, List.size_toArray, List.length_cons, List.length_nil, Nat.reduceAdd, Nat.reduceSub, Array.replicate_succ, Array.replicate_zero, List.push_toArray, List.append_toArray, List.nil_append, List.cons_append]
  gi_wp2
  have bP := ((((Boxed.new w 22 (.int .u64 (q : Int))).alloc (.cells #[.int .i64 (t : Int)] 3)).alloc (.cells #[.slice A4 L3.length c4] 23)).alloc (.cells (madeCells #[.int .u64 0] (2 * t + 1)) 22)).alloc (.cells #[.slice (some ⟨w.heap.size + 1 + 1 + 1, 0, none⟩) (2 * t + 1) (2 * t + 1)] 23)
  have bT := (((Boxed.new (w.alloc (.cells #[.int .u64 (q : Int)] 22)) 3 (.int .i64 (t : Int))).alloc (.cells #[.slice A4 L3.length c4] 23)).alloc (.cells (madeCells #[.int .u64 0] (2 * t + 1)) 22)).alloc (.cells #[.slice (some ⟨w.heap.size + 1 + 1 + 1, 0, none⟩) (2 * t + 1) (2 * t + 1)] 23)
  have bR := ((Boxed.new ((w.alloc (.cells #[.int .u64 (q : Int)] 22)).alloc (.cells #[.int .i64 (t : Int)] 3)) 23 (.slice A4 L3.length c4)).alloc (.cells (madeCells #[.int .u64 0] (2 * t + 1)) 22)).alloc (.cells #[.slice (some ⟨w.heap.size + 1 + 1 + 1, 0, none⟩) (2 * t + 1) (2 * t + 1)] 23)
  have hl0 := own_made (((w.alloc (.cells #[.int .u64 (q : Int)] 22)).alloc (.cells #[.int .i64 (t : Int)] 3)).alloc (.cells #[.slice A4 L3.length c4] 23)) w.heap.size 22 .u64 (2 * t + 1) (by simp only [World.size_alloc]; omega) (by omega)
  have bL := Boxed.new ((((w.alloc (.cells #[.int .u64 (q : Int)] 22)).alloc (.cells #[.int .i64 (t : Int)] 3)).alloc (.cells #[.slice A4 L3.length c4] 23)).alloc (.cells (madeCells #[.int .u64 0] (2 * t + 1)) 22)) 23 (.slice (some ⟨w.heap.size + 1 + 1 + 1, 0, none⟩) (2 * t + 1) (2 * t + 1))
  have hB := below_alloc (below_alloc (below_alloc (below_alloc (below_alloc (Below.refl w.heap.size w) (.cells #[.int .u64 (q : Int)] 22)) (.cells #[.int .i64 (t : Int)] 3)) (.cells #[.slice A4 L3.length c4] 23)) (.cells (madeCells #[.int .u64 0] (2 * t + 1)) 22)) (.cells #[.slice (some ⟨w.heap.size + 1 + 1 + 1, 0, none⟩) (2 * t + 1) (2 * t + 1)] 23)
  have hL := Kd.R_alloc (Kd.R_of_own (enc := Value.int .u64) (h1 := fun _ => rfl) (ok := fun k => k = w.heap.size + 1 + 1 + 1) (xs := List.replicate (2 * t + 1) 0) (by rw [List.length_replicate]; exact hl0) (fun k e => by simp [Value.ownBlock] at e; exact e.symm)) (.cells #[.slice (some ⟨w.heap.size + 1 + 1 + 1, 0, none⟩) (2 * t + 1) (2 * t + 1)] 23)
  have hsz : (((((w.alloc (.cells #[.int .u64 (q : Int)] 22)).alloc (.cells #[.int .i64 (t : Int)] 3)).alloc (.cells #[.slice A4 L3.length c4] 23)).alloc (.cells (madeCells #[.int .u64 0] (2 * t + 1)) 22)).alloc (.cells #[.slice (some ⟨w.heap.size + 1 + 1 + 1, 0, none⟩) (2 * t + 1) (2 * t + 1)] 23)).heap.size = w.heap.size + 5 := by simp
  simp only [World.size_alloc] at bT bR bL hl0 hL
  clear hl0
  generalize ((((w.alloc (.cells #[.int .u64 (q : Int)] 22)).alloc (.cells #[.int .i64 (t : Int)] 3)).alloc (.cells #[.slice A4 L3.length c4] 23)).alloc (.cells (madeCells #[.int .u64 0] (2 * t + 1)) 22)).alloc (.cells #[.slice (some ⟨w.heap.size + 1 + 1 + 1, 0, none⟩) (2 * t + 1) (2 * t + 1)] 23) = W0 at bP bT bR bL hB hL hsz ⊢
  have HP := Aside0.mk (Pre.mk (q := q) (w := w) (t := t) hB bP bT bR bL hL (by omega))
  clear hsz bP bT bR bL hB hL
  have hlen : (pmul a b).length ≤ 2 * t + 1 := pmul_len2 HA.out HB.out
  have HLEN := Aside0.mk (show LM.length ≤ 2 * t + 1 by rw [← HLM.out, List.length_map]; exact hlen)
  clear hlen
  gi_cut [] from 88 (fun w' => Aside0 (Pre (q := q) w t A4 L3.length c4 w' ((pL t a b).map V)))
  case first =>
    have hP := HP.out.hP.cell
    have hLc := HP.out.hL.cell
    have hb1 := below_drew (Below.refl W0.heap.size W0)
    refine wpIn_only ?_
    gi_region_with ((refine ⟨trivial, ?_⟩; gi_at_call 37; refine (callsIn_wide.2 (mul_calls' _ A2 c2 L1 A3 c3 L2 _ _ (Kd.C_below K2.out (below_drew HP.out.below)) (Kd.C_below K3.out (below_drew HP.out.below)) HM.out)).mono ?_; rintro e w' ⟨v0, rfl, h1, h2⟩; obtain ⟨A, c, rfl⟩ := Kd.R_slice h1; have HP2 := Aside0.mk ((HP.out.under hb1).under h2); obtain ⟨w2, hcp, h3, h4⟩ := copy_ints (c := c) HP2.out.left (Kd.R_reads' h1).2.2 HLEN.out 3; have HP3 := Aside0.mk (HP2.out.copied h4 h3); have hLc2 := HP2.out.hL.cell; clear h1 h2 h3 h4))
    all_goals (gi_wp2; gi_meet; (case rel => exact ⟨by have := HP3.out; rw [← HLM.out, pL_map (by have := HLEN.out; rw [← HLM.out, List.length_map] at this; exact this)] at this; exact this⟩))
  case rest =>
    clear HP
    have HP := hcut
    clear hcut
    have hT := HP.out.hT.cell
    have hT2 := (HP.out.under (below_alloc (below_alloc (Below.refl _ wc) (.cells (madeCells #[.slice none 0 0] t) 23)) (.cells #[.slice (some ⟨wc.heap.size, 0, none⟩) t t] 28))).hT.cell
    gi_wp2_with (first | (refine ⟨trivial, ?_⟩; gi_at_call 49; refine (down_in Fence.wide _ trivial rfl _ _).mono ?_; rintro e w' ⟨rfl, rfl⟩))
    have hcN := (Boxed.new ((wc.alloc (.cells (madeCells #[.slice none 0 0] t) 23)).alloc (.cells #[.slice (some ⟨wc.heap.size, 0, none⟩) t t] 28)) 3 (.int .i64 (t : Int))).cell
    simp only [World.size_alloc] at hcN
    have hMem := HP.out.mem (by omega) (pL_len _ _ _) (.cells #[.int .i64 (t : Int)] 3)
    have hs1 : ((((wc.alloc (.cells (madeCells #[.slice none 0 0] t) 23)).alloc (.cells #[.slice (some ⟨wc.heap.size, 0, none⟩) t t] 28))).alloc (.cells #[.int .i64 (t : Int)] 3)).heap.size = wc.heap.size + 3 := by simp
    have hs0 := HP.out.size
    clear hT hT2 HP
    generalize (((wc.alloc (.cells (madeCells #[.slice none 0 0] t) 23)).alloc (.cells #[.slice (some ⟨wc.heap.size, 0, none⟩) t t] 28))).alloc (.cells #[.int .i64 (t : Int)] 3) = W1 at hcN hMem hs1 ⊢
    obtain ⟨gD, hgD⟩ : ∃ gD, wc.heap.size = gD := ⟨_, rfl⟩
    rw [hgD] at hcN hMem hs1 hs0 ⊢
    clear hgD
    refine wpIn_rangeFunc_ownF (α := Dn t) rfl (by omega) (gf := 66) (lb := #[.pointer (some ⟨gD + 1 + 1, 0, none⟩)]) rfl trivial (enters_of Try.func66 (by kernel_rfl) rfl)
      (down_stops Fence.wide 9 trivial rfl (by omega) (gD + 1 + 1) t w.heap.size (by omega) W1 (by omega) hcN) belowK_t (belowK_b (by omega)) (Below.refl _ _) (fun _ => rfl)
      (fun pre W => Mem w t A4 L3.length c4 (w.heap.size + 1 + 1 + 1) gD w.heap.size (w.heap.size + 1) (w.heap.size + 1 + 1) (w.heap.size + 1 + 1 + 1 + 1) (gD + 1) (w.heap.size + 1 + 1 + 1) W (stP t r (pL t a b, List.replicate t []) pre).1 (stP t r (pL t a b, List.replicate t []) pre).2)
      (fun _ _ _ => False) (mem_own _ (by omega)) (fun _ _ _ _ _ hs _ _ => hs) hMem
      (fun x => { tmps := #[(.int .u64 (q : Int)), (.int .i64 (t : Int)), (.slice A2 L1.length c2), (.slice A3 L2.length c3), (.slice A4 L3.length c4), (.pointer (some ⟨w.heap.size, 0, none⟩)), (.pointer (some ⟨w.heap.size + 1, 0, none⟩)), undef, undef, (.pointer (some ⟨w.heap.size + 1 + 1, 0, none⟩)), (.slice none 0 0), (.slice none 0 0), (.pointer (some ⟨w.heap.size + 1 + 1 + 1 + 1, 0, none⟩)), (.pointer (some ⟨gD + 1, 0, none⟩)), (.int .i64 (x.1 : Int)), undef, undef, undef, (.int .i64 (t : Int)), (.int .i64 (2 * (t : Int))), (.int .i64 (2 * (t : Int) + 1)), (.slice (some ⟨w.heap.size + 1 + 1 + 1, 0, none⟩) (2 * t + 1) (2 * t + 1)), u22, u23, u24, u25, u26, u27, (.int .i64 (t : Int)), (.slice (some ⟨gD, 0, none⟩) t t), (.int .i64 (t : Int)), (.func (.func 66) #[] #[.pointer (some ⟨gD + 1 + 1, 0, none⟩)]), (.int .i64 (x.1 : Int)), undef, undef, undef, undef, undef, undef, undef, undef, undef, undef, undef, undef, undef, undef, undef, undef, undef, undef, undef, undef, undef, undef, undef, undef, undef, undef, undef, undef, undef, undef, undef, undef, undef, undef, undef, undef, undef, undef, undef, undef, undef, undef, undef, undef, undef, undef, undef, undef, undef, undef, undef, undef, undef, undef, undef], defers := [] }) ?assign ?body ?done ?stop
    case assign =>
      intro l x W K hK
      dsimp only [encK]
      gi_wp2
      exact hK
    case stop =>
      rintro D c pre W _ _ h _
      exact h.elim
    case body =>
      rintro l pre x W hm _
      have hk1 := x.2.1
      have hk2 := x.2.2
      have hX : (stP t r (pL t a b, List.replicate t []) (pre ++ [x])) = stepP t r (stP t r (pL t a b, List.replicate t []) pre) x.1 := stP_snoc pre _
      dsimp only
      obtain ⟨m, hm1⟩ : ∃ m, x.1 = m + 1 := ⟨x.1 - 1, by omega⟩
      rw [hm1] at hX hk2 ⊢
      clear hm1 hk1
      have HX := Aside0.mk hX
      clear hX
      obtain ⟨s, hs⟩ : ∃ s, stP t r (pL t a b, List.replicate t []) pre = s := ⟨_, rfl⟩
      rw [hs] at hm HX
      clear hs
      have H0 := Aside0.mk hm
      clear hm
      have hTc := H0.out.hT.cell
      have hmf := print_make (P := Try.prog) 23 22 .u64 8 Try.underlying23 infoU (by decide) (t + 1) (by omega)
      rw [show ((t + 1 : Nat) : Int) = (t : Int) + 1 by omega] at hmf
      have hmix : Try.prog.follows .mixedOrders = true := by kernel_rfl
      have hF0 := own_made W w.heap.size 22 .u64 (t + 1) H0.out.below.size (by omega)
      have HF0 := Aside0.mk (Kd.R_of_own (enc := Value.int .u64) (h1 := fun _ => rfl) (ok := fun k => k = W.heap.size) (xs := List.replicate (t + 1) 0) (by rw [List.length_replicate]; exact hF0) (fun k e => by simp [Value.ownBlock] at e; exact e.symm))
      clear hF0
      have hbF : gD + 1 < W.heap.size := H0.out.hD.lt
      gi_upto_region 7 with (fail)
      have H1 := Aside0.mk (H0.out.alloc (.cells (madeCells #[.int .u64 0] (t + 1)) 22))
      have HK := Aside0.mk (KeepsOthers.alloc W (.cells (madeCells #[.int .u64 0] (t + 1)) 22))
      have HB1 := Aside0.mk ((Below.refl w.heap.size W).alloc H0.out.below.size (.cells (madeCells #[.int .u64 0] (t + 1)) 22))
      obtain ⟨F, hF⟩ : ∃ F, W.heap.size = F := ⟨_, rfl⟩
      rw [hF] at H1 HF0 hbF ⊢
      clear hF hTc
      generalize W.alloc (.cells (madeCells #[.int .u64 0] (t + 1)) 22) = W2 at H1 HK HB1 HF0 ⊢
      obtain ⟨lo, hlo⟩ : ∃ lo, m * t = lo := ⟨_, rfl⟩
      have hhi : (m + 1) * t = lo + t := by rw [Nat.succ_mul, hlo]
      have hle : lo + t ≤ L3.length := by
        have h1 : (m + 1) * t ≤ t * t := Nat.mul_le_mul_right t hk2
        have := HR.out
        have := N3.out
        omega
      have hlt : L3.length < 1099511627776 := by have := HR1.out; have := N3.out; omega
      have hc4' : L3.length ≤ c4 := by have := N3.out; omega
      have hys := Kd.C_mid (Kd.C_below K4.out H1.out.below) (show lo ≤ lo + t by omega) hle hc4'
      rw [if_neg (show ¬ c4 = lo by omega)] at hys
      simp only [show (Kd.int .u64).sz = 1 from rfl, Nat.mul_one] at hys
      obtain ⟨ys, hy⟩ : ∃ ys, (L3.take (lo + t)).drop lo = ys := ⟨_, rfl⟩
      rw [hy] at hys
      have hyl : ys.length = t := by rw [← hy, List.length_drop, List.length_take]; omega
      have hyd : ys = (L3.drop lo).take t := by rw [← hy, List.drop_take, Nat.add_sub_cancel_left]
      obtain ⟨w3, hcp, hF3, hg3⟩ := copy_ints (c := c4 - lo) HF0.out hys (by omega) 3
      rw [hyl] at hcp
      have HY := Aside0.mk hyd
      have HYL := Aside0.mk hyl
      have HLO := Aside0.mk hlo
      have HF3 := Aside0.mk hF3
      have HG3 := Aside0.mk hg3
      have hdr : (List.replicate (t + 1) (0 : Int)).drop ys.length = [0] := by rw [hyl, List.drop_replicate, show t + 1 - t = 1 by omega]; rfl
      rw [hdr] at HF3
      clear hlo hhi hyl hyd hF3 hg3 hdr hys hy
      obtain ⟨w1, w2⟩ : Value.int .i64 (wrap64 ((m : Int) * (t : Int))) = Value.int .i64 (lo : Int) ∧ Value.int .i64 (wrap64 (((m : Int) + 1) * (t : Int))) = Value.int .i64 ((lo : Int) + (t : Int)) := by
        have hlo := HLO.out
        have h1 : m * t = lo := hlo
        have h2 : (m + 1) * t = lo + t := by rw [Nat.succ_mul, hlo]
        have e1 : (m : Int) * (t : Int) = (lo : Int) := by rw [← Int.natCast_mul, h1]
        have e2 : ((m : Int) + 1) * (t : Int) = (lo : Int) + (t : Int) := by rw [show ((m : Int) + 1) = ((m + 1 : Nat) : Int) from rfl, ← Int.natCast_mul, h2]; rfl
        clear h1 h2 hlo
        rw [e1, e2]
        clear e1 e2
        exact ⟨by rw [wrap_in (by omega) (by omega)], by rw [wrap_in (by omega) (by omega)]⟩
      gi_cut [] from 88 (fun w' => Aside0 (Rnd w t A4 L3.length c4 (w.heap.size + 1 + 1 + 1) gD w.heap.size (w.heap.size + 1) (w.heap.size + 1 + 1) (w.heap.size + 1 + 1 + 1 + 1) (gD + 1) F W w' s.1 s.2 (ys ++ [0])))
      case first =>
        have hTc := H1.out.hT.cell
        have hRc := H1.out.hR.cell
        gi_wp2
        gi_meet
        case rel => exact ⟨⟨H1.out.step HG3.out (fun k e => .inr (by cases e; exact ⟨rfl, hbF⟩)), HK.out.trans (R_others HF0.out HG3.out), HB1.out.grown HG3.out (by have := H1.out.below.size; exact this) (fun k e => by cases e; have := H1.out.apart; omega), HF3.out, hbF⟩⟩
      case rest =>
        clear H1 HK HB1 HF0 HF3 HG3 hcp w1 w2
        have H1 := hcut
        clear hcut
        have hTc := H1.out.mem.hT.cell
        have hLc := H1.out.mem.hL.cell
        gi_upto_region 8 with (fail)
        gi_cut [] from 88 (fun w' => Aside0 (Rnd w t A4 L3.length c4 (w.heap.size + 1 + 1 + 1) gD w.heap.size (w.heap.size + 1) (w.heap.size + 1 + 1) (w.heap.size + 1 + 1 + 1 + 1) (gD + 1) F W w' s.1 s.2 (ys ++ [V (cf s.1 (m + 1 + t))])))
        case first =>
          obtain ⟨kt, hkt⟩ : ∃ kt, m + 1 + t = kt := ⟨_, rfl⟩
          have e1 : (((m + 1 : Nat) : Int) + (t : Int)) = (kt : Int) := by omega
          have p1 : 0 ≤ (kt : Int) := by omega
          have q1 : (kt : Int) < ((2 * t + 1 : Nat) : Int) := by omega
          have q1' : (kt : Int) < 2 * (t : Int) + 1 := by omega
          have p2 : 0 ≤ (t : Int) := by omega
          have q2 : (t : Int) < ((t + 1 : Nat) : Int) := by omega
          have q2' : (t : Int) < (t : Int) + 1 := by omega
          obtain ⟨hx, _⟩ := Kd.R_celln 0 H1.out.mem.left (kt : Int) p1 q1
          rw [show rdOf 0 (s.1.map V) (kt : Int) = V (cf s.1 kt) from rd_map _ _, Int.toNat_natCast] at hx
          obtain ⟨hz, hf⟩ := Kd.R_celln 0 H1.out.row (t : Int) p2 q2
          rw [Int.toNat_natCast] at hz hf
          have hwr : IntKind.i64.wrap ((m : Int) + 1 + (t : Int)) = (kt : Int) := by rw [show (m : Int) + 1 + (t : Int) = (kt : Int) by omega, i64_w, wrap_in (by omega) (by omega)]
          have HKT := Aside0.mk hkt
          have AR := Aside0.mk (And.intro ht0 (And.intro ht (And.intro hc4 (And.intro hk2 (And.intro hle (And.intro hlt (And.intro hc4' hbF)))))))
          clear e1 hkt ht0 ht hc4 hk2 hle hlt hc4' hbF hs1 hs0 hcN hMem hmf hm1 hm2
          refine round_quiet_tail 9 hmix (by kernel_rfl) (by kernel_rfl) (fun K hK => ?_)
          simp only [List.take_succ_cons, List.take_zero, List.drop_succ_cons, List.drop_zero]
          repeat (any_goals (first | go_big_quiet_step (fail) | quiet_step (fail)))
          refine wpQuiet_nil ?_
          intro _ hw'
          obtain ⟨nq, hw''⟩ := hw'
          subst hw''
          go_wp2
          gi_meet
          case rel =>
            have h := (H1.out.drewN nq).setF t (V (cf s.1 kt))
            have e : List.set (ys ++ [0]) t (V (cf s.1 kt)) = ys ++ [V (cf s.1 kt)] := by
              rw [List.set_append, if_neg (by have := HYL.out; omega), HYL.out, Nat.sub_self]; rfl
            rw [e] at h
            exact ⟨by rw [HKT.out]; exact h⟩
        case rest =>
          clear H1 hTc hLc
          have H1 := hcut
          clear hcut
          have hfl : (prow t r (m + 1) s.1).map V = ys ++ [V (cf s.1 (m + 1 + t))] := by
            unfold prow
            rw [List.map_append, List.map_take, List.map_drop, HL3.out, HY.out, Nat.add_sub_cancel, HLO.out]
            rfl
          rw [← hfl] at H1
          have hpl : (prow t r (m + 1) s.1).length = t + 1 := prow_len _ (by omega) (sq_le HR.out hk2)
          obtain ⟨f, hf⟩ : ∃ f, prow t r (m + 1) s.1 = f := ⟨_, rfl⟩
          rw [hf] at H1 hpl
          have HFP := Aside0.mk hf
          have HPL := Aside0.mk hpl
          clear hfl hf hpl
          gi_wp2
          gi_loopg [58] (t + 2) (fun kq v58 w' => ∃ (i : Nat) (lc : List (Fin q)), v58 = .int .i64 (i : Int) ∧ Aside0 (Rnd w t A4 L3.length c4 (w.heap.size + 1 + 1 + 1) gD w.heap.size (w.heap.size + 1) (w.heap.size + 1 + 1) (w.heap.size + 1 + 1 + 1 + 1) (gD + 1) F W w' lc s.2 (f.map V)) ∧ Aside0 (i ≤ t + 1) ∧ Aside0 (∀ j, cf lc j = if m + 1 ≤ j ∧ j < m + 1 + i then cf s.1 j - cf f (j - (m + 1)) else cf s.1 j) ∧ Aside0 (t + 1 < i + kq))
          case atStart => exact ⟨0, s.1, rfl, H1, ⟨by omega⟩, ⟨fun j => by rw [if_neg (by omega)]⟩, ⟨by omega⟩⟩
          case round =>
            clear H1
            obtain ⟨i, lc, rfl, H1, HI, HC, HK⟩ := hrel
            have hTc := H1.out.mem.hT.cell
            have hLc := H1.out.mem.hL.cell
            have hPc := H1.out.mem.hP.cell
            by_cases c1 : i < t + 1
            · have t1 : decide ((i : Int) < (t : Int) + 1) = true := decide_eq_true (by omega)
              obtain ⟨kt, hkt⟩ : ∃ kt, m + 1 + i = kt := ⟨_, rfl⟩
              have p1 : 0 ≤ (kt : Int) := by omega
              have q1 : (kt : Int) < ((2 * t + 1 : Nat) : Int) := by omega
              have q1' : (kt : Int) < 2 * (t : Int) + 1 := by omega
              have p2 : 0 ≤ (i : Int) := by omega
              have q2 : (i : Int) < ((t + 1 : Nat) : Int) := by omega
              have q2' : (i : Int) < (t : Int) + 1 := by omega
              obtain ⟨hx, hfx⟩ := Kd.R_celln 0 H1.out.mem.left (kt : Int) p1 q1
              rw [show rdOf 0 (lc.map V) (kt : Int) = V (cf lc kt) from rd_map _ _, Int.toNat_natCast] at hx
              rw [Int.toNat_natCast] at hfx
              obtain ⟨hz, _⟩ := Kd.R_celln 0 H1.out.row (i : Int) p2 q2
              rw [show rdOf 0 (f.map V) (i : Int) = V (cf f i) from rd_map _ _, Int.toNat_natCast] at hz
              have hwr : IntKind.i64.wrap ((m : Int) + 1 + (i : Int)) = (kt : Int) := by rw [show (m : Int) + 1 + (i : Int) = (kt : Int) by omega, i64_w, wrap_in (by omega) (by omega)]
              obtain ⟨kk, hsub⟩ := (sub_ev hq (cf lc kt) (cf f i)).rounds
              have HCS := Aside0.mk (fun n => Calls.quiet_of (w := wr) (n := n) ((field_Sub.calls kk _ _ _ _ (wr.drewN n) hsub).mono (fun _ _ h => ⟨h.1, h.2.out⟩)))
              have HKT := Aside0.mk hkt
              have AR := Aside0.mk (And.intro ht0 (And.intro ht (And.intro hc4 (And.intro hk2 (And.intro hle (And.intro hlt (And.intro hc4' (And.intro hbF c1))))))))
              clear hkt hsub ht0 ht hc4 hk2 hle hlt hc4' hbF hs1 hs0 hcN hMem hmf hm1 hm2 c1
              gi_upto_region 12 with (fail)
              refine round_quiet_tail 14 hmix (by kernel_rfl) (by kernel_rfl) (fun K hK => ?_)
              simp only [List.take_succ_cons, List.take_zero, List.drop_succ_cons, List.drop_zero]
              repeat (any_goals (first | go_big_quiet_step ((go_at_call 39; exact HCS.out _)) | quiet_step ((go_at_call 39; exact HCS.out _))))
              refine wpQuiet_nil ?_
              intro _ hw'
              obtain ⟨nq, hw''⟩ := hw'
              subst hw''
              have hw13 : (i : Int) ≤ 65536 := by have := AR.out.2.1; have := AR.out.2.2.2.2.2.2.2.2; omega
              go_wp2
              gi_wp2
              gi_roundg (t + 1 - i)
              case measure => have := HK.out; have := AR.out.2.2.2.2.2.2.2.2; omega
              case rel =>
                have c1 := AR.out.2.2.2.2.2.2.2.2
                have h := (H1.out.drewN nq).setL kt (cf lc kt - cf f i)
                refine ⟨i + 1, lc.set kt (cf lc kt - cf f i), by congr 1, ⟨h⟩, ⟨c1⟩, ⟨fun j => ?_⟩, ⟨by omega⟩⟩
                have hkt := HKT.out
                have hlen := H1.out.mem.len
                have hk2 := AR.out.2.2.2.1
                rw [cf_set _ _ _ _ (by omega)]
                by_cases hj : j = kt
                · rw [if_pos hj, if_pos (by omega), HC.out kt, if_neg (by omega), hj, show kt - (m + 1) = i by omega]
                · rw [if_neg hj, HC.out j]
                  by_cases h2 : m + 1 ≤ j ∧ j < m + 1 + i
                  · rw [if_pos h2, if_pos (by omega)]
                  · rw [if_neg h2, if_neg (by omega)]
            · have t1 : decide ((i : Int) < (t : Int) + 1) = false := decide_eq_false (by omega)
              have hi : i = t + 1 := by have := HI.out; omega
              have hDc := H1.out.mem.hD.cell
              have p1 : 0 ≤ (m : Int) := by omega
              have q1 : (m : Int) < (t : Int) := by omega
              obtain ⟨cc, hcl, _, hcc, hfr⟩ := Kd.R_elem (Kd.S_R H1.out.mem.rws) ([] : List Int) (m : Int) p1 q1
              obtain ⟨u, hu⟩ : ∃ u, cc[0]? = some u := by
                have h1 : cc.length = 1 := hcl
                exact ⟨_, List.getElem?_eq_getElem (by omega)⟩
              have hce := hcc 0 u hu
              have hfe := hfr 0
              rw [show (Kd.slice 22 (Kd.int .u64)).sz = 1 from rfl, Nat.mul_one, Nat.add_zero, Int.toNat_natCast] at hce hfe
              have hw13 : (m : Int) < 65536 := by omega
              have HH := Aside0.mk hi
              clear hcc hfr hu hcl hi
              gi_wp2
              have hlc : lc = pcut s.1 f (m + 1) := by
                have h1 := H1.out.mem.len
                have h2 := H0.out.len
                have h3 := HPL.out
                have hii := HH.out
                apply cf_ext (by rw [pcut_len, h1, h2])
                intro j
                rw [HC.out j, cf_pcut, hii]
                by_cases h4 : j < s.1.length
                · rw [if_pos h4]
                  by_cases h5 : m + 1 ≤ j
                  · rw [if_pos h5]
                    by_cases h6 : j < m + 1 + (t + 1)
                    · rw [if_pos ⟨h5, h6⟩]
                    · rw [if_neg (fun h => h6 h.2), cf_ge (l := f) (by omega)]; grind
                  · rw [if_neg h5, if_neg (fun h => h5 h.1)]; grind
                · rw [if_neg h4, if_neg (by omega), cf_ge (by omega)]
              have hap := H1.out.mem.apart
              have hm := H1.out.mem.setD hbF m (by omega) H1.out.row
              refine ⟨H1.out.oth.trans (KeepsOthers.setCell _ _ _), H1.out.bel.setCell (p := ⟨gD, m, none⟩) (by show w.heap.size ≤ gD; omega) _, ?_⟩
              show Mem _ _ _ _ _ _ _ _ _ _ _ _ _ _ (stP t r (pL t a b, List.replicate t []) (pre ++ [x])).1 (stP t r (pL t a b, List.replicate t []) (pre ++ [x])).2
              rw [HX.out]
              unfold stepP
              rw [HFP.out, Nat.add_sub_cancel, ← hlc]
              exact hm
    case done =>
      rintro D xs W hD hS hM hK
      have HM2 := Aside0.mk hM
      have HS := Aside0.mk hS
      have HKD := Aside0.mk hK
      clear hM hS hK
      have hTc := HM2.out.hT.cell
      have hLc := HM2.out.hL.cell
      have hDc := HM2.out.hD.cell
      gi_wp2
      refine wpIn_wide.2 ?_
      go_quiet (fail)
      have HKD2 := Aside0.mk (show (W.drewN nq).heap[D]? = some (.deferred (some [])) from HKD.out)
      gi_wp2
      refine ⟨by simp, .inl ⟨_, _, rfl, run_takeDeferred HKD2.out, ?_⟩⟩
      have M2 := (HM2.out.drewN nq).step (grownBy_putObj' _ D (.deferred none)) (fun k e => .inl (by cases e; exact ⟨⟨_, HKD2.out, rfl⟩, by omega⟩))
      obtain ⟨e1, e2⟩ := stP_all (r := r) (L := pL t a b) HS.out
      rw [e1, e2] at M2
      refine ⟨_, results_tmp2 rfl _ _ _, _, _, rfl, Kd.S_mono M2.rws (fun k hk e => hk.1 (by cases e; rfl)), ?_, M2.below⟩
      have hR := Kd.R_mono (Kd.R_take M2.left (m := t + 1) (by rw [List.length_map, pleft_len, pL_len]; omega)) (ok' := fun k => some k ≠ (Value.slice (some ⟨gD, 0, none⟩) t t).ownBlock) (fun k hk e => by have hap := M2.apart; have e' : k = gD := Option.some.inj e; have hk' : k = w.heap.size + 1 + 1 + 1 := hk; omega)
      unfold pC
      rw [List.map_take]
      exact hR
end
end Go.Proofs.Ytjkggiemnfigbaa.X
end
section
namespace Go.Proofs.Ytjkggiemnfigbaa.X
open Go.RowKit Go.Proofs.YtjkggiemnfigbaaW.PrintWords Go.Proofs.Ytjkggiemnfigbaa.PF Go.Proofs.Ytjkggiemnfigbaa.PQ Go.Proofs.YtjkggiemnfigbaaNum Go.Proofs.Ytjkggiemnfigbaa.FEv Go.Proofs.Ytjkggiemnfigbaa.FPoly
/-- The inputs of which the contract speaks. -/
def ProveIn (a0 a1 : Int) (l2 l3 l4 : List Int) : Prop := Sup a0.toNat ∧ 0 ≤ a0 ∧ 1 ≤ a1 ∧ a1 < 65536 ∧ (∀ x ∈ l2, 0 ≤ x ∧ x < a0) ∧ (∀ x ∈ l3, 0 ≤ x ∧ x < a0) ∧ (∀ x ∈ l4, 0 ≤ x ∧ x < a0) ∧ l2.length ≤ a1.toNat + 1 ∧ l3.length ≤ a1.toNat + 1 ∧ a1.toNat * a1.toNat ≤ l4.length ∧ l4.length < 1099511627776
instance (a0 a1 : Int) (l2 l3 l4 : List Int) : Decidable (ProveIn a0 a1 l2 l3 l4) := by unfold ProveIn; infer_instance
def proveQ : (q : Nat) → [NeZero q] → Nat → List (Fin q) → List (Fin q) → List (Fin q) → List (List Int) × List Int := fun _ _ t a b r => (VV (pD t r (pL t a b)), (pC t r (pL t a b)).map V)
def proveF (a0 a1 : Int) (l2 l3 l4 : List Int) : Option (List (List Int) × List Int) :=
  if h : ProveIn a0 a1 l2 l3 l4 then
    have : NeZero a0.toNat := ⟨fun e => by have := h.1.le; omega⟩
    some (proveQ a0.toNat a1.toNat (l2.map E) (l3.map E) (l4.map E))
  else none
theorem proveF_eq {q : Nat} [i : NeZero q] (hq : Sup q) {t : Nat} (a b r : List (Fin q)) (ht0 : 1 ≤ t) (ht : t < 65536) (ha : a.length ≤ t + 1) (hb : b.length ≤ t + 1) (hr : t * t ≤ r.length) (hr1 : r.length < 1099511627776) :
    proveF (q : Int) (t : Int) (a.map V) (b.map V) (r.map V) = some (VV (pD t r (pL t a b)), (pC t r (pL t a b)).map V) := by
  have hV : ∀ (l : List (Fin q)) (x : Int), x ∈ l.map V → 0 ≤ x ∧ x < (q : Int) := fun l x hx => by
    obtain ⟨y, _, rfl⟩ := List.mem_map.mp hx
    exact ⟨V_nonneg y, V_lt y⟩
  unfold proveF
  rw [dif_pos ⟨hq, by omega, by omega, by omega, hV a, hV b, hV r, by rw [List.length_map]; exact ha, by rw [List.length_map]; exact hb, by rw [List.length_map]; exact hr, by rw [List.length_map]; exact hr1⟩]
  show some (proveQ q t ((a.map V).map E) ((b.map V).map E) ((r.map V).map E)) = _
  rw [map_EV, map_EV, map_EV]
  rfl
theorem proveF_some {a0 a1 : Int} {l2 l3 l4 : List Int} {o : List (List Int) × List Int} (h : proveF a0 a1 l2 l3 l4 = some o) : ∃ (q : Nat) (_ : NeZero q) (t : Nat) (a b r : List (Fin q)), Sup q ∧ a0 = (q : Int) ∧ a1 = (t : Int) ∧ l2 = a.map V ∧ l3 = b.map V ∧ l4 = r.map V ∧ 1 ≤ t ∧ t < 65536 ∧ a.length ≤ t + 1 ∧ b.length ≤ t + 1 ∧ t * t ≤ r.length ∧ r.length < 1099511627776 ∧ o = (VV (pD t r (pL t a b)), (pC t r (pL t a b)).map V) := by
  unfold proveF at h
  split at h
  · rename_i hx
    obtain ⟨h1, h2, h3, h4, h5, h6, h7, h8, h9, h10, h11⟩ := hx
    have e : ((a0.toNat : Nat) : Int) = a0 := Int.toNat_of_nonneg h2
    have e2 : ((a1.toNat : Nat) : Int) = a1 := Int.toNat_of_nonneg (by omega)
    have hz : NeZero a0.toNat := ⟨fun e => by have := h1.le; omega⟩
    refine ⟨a0.toNat, hz, a1.toNat, _, _, _, h1, e.symm, e2.symm, (map_VE (by rw [e]; exact h5)).symm, (map_VE (by rw [e]; exact h6)).symm, (map_VE (by rw [e]; exact h7)).symm, by omega, by omega, ?_, ?_, ?_, ?_, (Option.some.inj h).symm⟩
    · rw [List.length_map]; exact h8
    · rw [List.length_map]; exact h9
    · rw [List.length_map]; exact h10
    · rw [List.length_map]; exact h11
  · cases h
theorem prove_calls' (a0 a1 : Int) (A2 : Option Addr) (c2 : Nat) (l2 : List Int) (A3 : Option Addr) (c3 : Nat) (l3 : List Int) (A4 : Option Addr) (c4 : Nat) (l4 : List Int) (r1 : List (List Int)) (r2 : List Int) (w : World) (hr2 : Kd.C (Kd.int .u64) w A2 l2.length l2) (hr3 : Kd.C (Kd.int .u64) w A3 l3.length l3) (hr4 : Kd.C (Kd.int .u64) w A4 l4.length l4) (hc4 : l4.length ≤ c4) (h : proveF a0 a1 l2 l3 l4 = some (r1, r2)) :
    Calls Try.prog 17 #[.int .u64 a0, .int .i64 a1, .slice A2 l2.length c2, .slice A3 l3.length c3, .slice A4 l4.length c4] w fun e w' => ∃ v0_ v1_ : Value, e = .returned (.tuple #[v0_, v1_]) ∧ Kd.S (Kd.slice 22 (Kd.int .u64)) 23 w' w.heap.size (fun k_ => some k_ ≠ (v1_ : Value).ownBlock) v0_ r1 ∧ Kd.R (Kd.int .u64) 22 w' w.heap.size (fun k_ => some k_ ≠ (v0_ : Value).ownBlock) v1_ r2 ∧ Below w.heap.size w w' := by
  obtain ⟨q, _, t, a, b, r, hq, rfl, rfl, rfl, rfl, rfl, h1, h2, h3, h4, h5, h6, ho⟩ := proveF_some h
  obtain ⟨rfl, rfl⟩ := Prod.mk.inj ho
  exact prove_calls hq t a b r A2 A3 A4 c2 c3 c4 w h1 h2 h3 h4 h5 h6 (by rw [List.length_map] at hc4; exact hc4) hr2 hr3 hr4
end Go.Proofs.Ytjkggiemnfigbaa.X
end

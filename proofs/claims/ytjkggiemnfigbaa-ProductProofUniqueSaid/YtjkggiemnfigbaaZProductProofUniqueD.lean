/- Part D of: The statement ProductProofUnique: the law answers true whatever its arguments; no condition. -/
import Derived.Test.YtjkggiemnfigbaaZProductProofUniqueC
import Derived.WalkKit
import Derived.OwnWalkIn
import Derived.RangeFuncCalls
import Derived.RangeFuncNested
import Derived.RangeFuncBound
import Derived.RangeFuncLeaves
import Derived.Shelf.Abstract
import Derived.Shelf.RegionOpen
import Derived.TacticsInMore
import Derived.LoopNIn
import Derived.LoopIn
import Derived.Test.YtjkggiemnfigbaaProg
section
namespace Go.Proofs.Ytjkggiemnfigbaa.X
open Go.RowKit Go.Shelf
attribute [local go_sem] Oper.semAt_some
abbrev Dn (t : Nat) := { k : Nat // 1 ≤ k ∧ k ≤ t }
def encK {t : Nat} (x : Dn t) : Array Value := #[.int .i64 (x.1 : Int)]
def downL (t n : Nat) : List Nat := (List.range n).map (fun i => t - i)
theorem downL_snoc (t n : Nat) : downL t (n + 1) = downL t n ++ [t - n] := by unfold downL; rw [List.range_succ, List.map_append]; rfl
set_option maxRecDepth 100000 in
set_option maxHeartbeats 1000000 in
theorem down1_in (F : Fence) (n : Nat) (h6 : F.fn 66) (hro : F.round = none) (hn : 1 ≤ n) (l Bn t n₀ : Nat) (ht : t < 1099511627776) (J Jx : List (Dn t) → World → Prop)
    (hY : ∀ pre x W, J pre W → pre.length < t → YieldAt F (n - 1) Try.prog l (encK x) W fun e W' =>
      (e = .returned (.bool true) ∧ J (pre ++ [x]) W' ∧ Below n₀ W W') ∨ (e = .returned (.bool false) ∧ Jx (pre ++ [x]) W'))
    (W : World) (hBn : W.cell? ⟨Bn, 0, none⟩ = some (.int .i64 (t : Int))) (h0 : J [] W) :
    CallsIn F n Try.prog 66 #[.func (.yield l) #[] #[], .pointer (some ⟨Bn, 0, none⟩)] W fun e W' => (∃ v, e = .returned v) ∧
      ((∃ ys, ys.map Subtype.val = downL t t ∧ J ys W') ∨ (∃ pre, True ∧ Jx pre W')) := by
  refine callsIn_of_wp Try.func66 rfl h6 ?_ hro
  simp only [Try.ntmps66, List.size_toArray, List.length_cons, List.length_nil, Nat.reduceAdd, Nat.reduceSub, Array.replicate_succ, Array.replicate_zero, List.push_toArray, List.append_toArray, List.nil_append, List.cons_append]
  gi_wp2
  gi_loopw [3] (fun kv wr => ∃ (pre : List (Dn t)) (m : Nat), kv = .int .i64 (m : Int) ∧ m ≤ t ∧ pre.map Subtype.val = downL t (t - m) ∧ J pre wr) (fun kv _ => (intOf kv).toNat)
  case atStart => exact ⟨[], t, rfl, Nat.le_refl _, by rw [Nat.sub_self]; rfl, h0⟩
  case round =>
    obtain ⟨pre, m, rfl, hm, hpre, hJ⟩ := hrel
    by_cases h1 : 1 ≤ m
    · have hpl : pre.length < t := by
        have := congrArg List.length hpre
        rw [List.length_map] at this
        unfold downL at this
        rw [List.length_map, List.length_range] at this
        omega
      obtain ⟨fn, tmps, assign, body, hy, hR⟩ := hY pre ⟨m, h1, hm⟩ wr hJ hpl
      dsimp only [encK] at hy
      have h2 : (1 : Int) ≤ (m : Int) := by omega
      gi_wp2
      refine hR.mono ?_
      rintro e W3 (⟨rfl, hJ3, hk3⟩ | ⟨rfl, hJx3⟩)
      · gi_wp2
        go_roundw
        case rel => exact ⟨pre ++ [⟨m, h1, hm⟩], m - 1, by congr 1; omega, by omega, by rw [List.map_append, hpre, show t - (m - 1) = (t - m) + 1 by omega, downL_snoc, show t - (t - m) = m by omega]; rfl, hJ3⟩
        case measure => simp [intOf]; omega
      · gi_wp2
        refine bodyPost_ret (results_none rfl _ _ _) rfl ?_
        exact ⟨⟨_, rfl⟩, .inr ⟨pre ++ [⟨m, h1, hm⟩], trivial, hJx3⟩⟩
    · have hz : m = 0 := by omega
      subst hz
      gi_wp2
      go_end0
      exact ⟨⟨_, rfl⟩, .inl ⟨pre, by rw [hpre, Nat.sub_zero], hJ⟩⟩
set_option maxHeartbeats 1000000 in
theorem down_in (F : Fence) (n : Nat) (h5 : F.fn 49) (hro : F.round = none) (t : Int) (w : World) :
    CallsIn F n Try.prog 49 #[.int .i64 t] w fun e w' => e = .returned (.func (.func 66) #[] #[.pointer (some ⟨w.heap.size, 0, none⟩)]) ∧ w' = w.alloc (.cells #[.int .i64 t] 3) := by
  refine callsIn_of_wp Try.func49 rfl h5 ?_ hro
  simp only [Try.ntmps49, List.size_toArray, List.length_cons, List.length_nil, Nat.reduceAdd, Nat.reduceSub, Array.replicate_succ, Array.replicate_zero, List.push_toArray, List.append_toArray, List.nil_append, List.cons_append]
  gi_wp2
  go_ret
  exact ⟨rfl, rfl⟩
theorem down_stops (F : Fence) (n : Nat) (h6 : F.fn 66) (hro : F.round = none) (hn : 1 ≤ n) (Bn t n₀ : Nat) (ht : t < 1099511627776) (w : World) (hBn : Bn < w.heap.size)
    (hc : w.cell? ⟨Bn, 0, none⟩ = some (.int .i64 (t : Int))) :
    SeqStopsK F n Try.prog 66 #[.pointer (some ⟨Bn, 0, none⟩)] (encK (t := t)) (Below n₀) (fun ys => ys.map Subtype.val = downL t t) (fun _ => True) t w := fun l J Jx W hW _ _ hY h0 =>
  down1_in F n h6 hro hn l Bn t n₀ ht J Jx hY W ((hW.cell (p := ⟨Bn, 0, none⟩) hBn).trans hc) h0
end Go.Proofs.Ytjkggiemnfigbaa.X
end

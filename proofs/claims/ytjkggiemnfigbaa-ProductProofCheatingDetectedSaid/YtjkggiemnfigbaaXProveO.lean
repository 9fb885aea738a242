/- The program's Prove as a function on lists of numbers. -/
import Derived.Test.YtjkggiemnfigbaaXProveW
namespace Go.Proofs.Ytjkggiemnfigbaa.X
open Go.RowKit Go.Proofs.YtjkggiemnfigbaaW.PrintWords Go.Proofs.Ytjkggiemnfigbaa.PF Go.Proofs.Ytjkggiemnfigbaa.PQ Go.Proofs.YtjkggiemnfigbaaNum Go.Proofs.Ytjkggiemnfigbaa.FEv Go.Proofs.Ytjkggiemnfigbaa.FPoly
/-- The inputs of which the contract speaks. -/
def ProveIn (a0 a1 : Int) (l2 l3 l4 : List Int) : Prop := Sup a0.toNat ∧ 0 ≤ a0 ∧ 1 ≤ a1 ∧ a1 < 65536 ∧ (∀ x ∈ l2, 0 ≤ x ∧ x < a0) ∧ (∀ x ∈ l3, 0 ≤ x ∧ x < a0) ∧ (∀ x ∈ l4, 0 ≤ x ∧ x < a0) ∧ l2.length ≤ a1.toNat + 1 ∧ l3.length ≤ a1.toNat + 1 ∧ a1.toNat * a1.toNat ≤ l4.length ∧ l4.length < 1099511627776
instance (a0 a1 : Int) (l2 l3 l4 : List Int) : Decidable (ProveIn a0 a1 l2 l3 l4) := by unfold ProveIn; infer_instance
def proveQ : (q : Nat) → [NeZero q] → Nat → List (Fin q) → List (Fin q) → List (Fin q) → List (List Int) × List Int := fun _ _ t a b r => (VV (pD t r (pL t a b)), (pC t r (pL t a b)).map V)
def proveF (a0 a1 : Int) (l2 l3 l4 : List Int) : Option (List (List Int) × List Int) :=
  if h : ProveIn a0 a1 l2 l3 l4 then
    have : NeZero a0.toNat := ⟨fun e => by have := h.1.le; omega⟩
    some (proveQ a0.toNat a1.toNat (l2.map E) (l3.map E) (l4.map E))
  else none
theorem proveF_eq {q : Nat} [i : NeZero q] (hq : Sup q) {t : Nat} (a b r : List (Fin q)) (ht0 : 1 ≤ t) (ht : t < 65536) (ha : a.length ≤ t + 1) (hb : b.length ≤ t + 1) (hr : t * t ≤ r.length) (hr1 : r.length < 1099511627776) :
    proveF (q : Int) (t : Int) (a.map V) (b.map V) (r.map V) = some (VV (pD t r (pL t a b)), (pC t r (pL t a b)).map V) := by
  have hV : ∀ (l : List (Fin q)) (x : Int), x ∈ l.map V → 0 ≤ x ∧ x < (q : Int) := fun l x hx => by
    obtain ⟨y, _, rfl⟩ := List.mem_map.mp hx
    exact ⟨V_nonneg y, V_lt y⟩
  unfold proveF
  rw [dif_pos ⟨hq, by omega, by omega, by omega, hV a, hV b, hV r, by rw [List.length_map]; exact ha, by rw [List.length_map]; exact hb, by rw [List.length_map]; exact hr, by rw [List.length_map]; exact hr1⟩]
  show some (proveQ q t ((a.map V).map E) ((b.map V).map E) ((r.map V).map E)) = _
  rw [map_EV, map_EV, map_EV]
  rfl
theorem proveF_some {a0 a1 : Int} {l2 l3 l4 : List Int} {o : List (List Int) × List Int} (h : proveF a0 a1 l2 l3 l4 = some o) : ∃ (q : Nat) (_ : NeZero q) (t : Nat) (a b r : List (Fin q)), Sup q ∧ a0 = (q : Int) ∧ a1 = (t : Int) ∧ l2 = a.map V ∧ l3 = b.map V ∧ l4 = r.map V ∧ 1 ≤ t ∧ t < 65536 ∧ a.length ≤ t + 1 ∧ b.length ≤ t + 1 ∧ t * t ≤ r.length ∧ r.length < 1099511627776 ∧ o = (VV (pD t r (pL t a b)), (pC t r (pL t a b)).map V) := by
  unfold proveF at h
  split at h
  · rename_i hx
    obtain ⟨h1, h2, h3, h4, h5, h6, h7, h8, h9, h10, h11⟩ := hx
    have e : ((a0.toNat : Nat) : Int) = a0 := Int.toNat_of_nonneg h2
    have e2 : ((a1.toNat : Nat) : Int) = a1 := Int.toNat_of_nonneg (by omega)
    have hz : NeZero a0.toNat := ⟨fun e => by have := h1.le; omega⟩
    refine ⟨a0.toNat, hz, a1.toNat, _, _, _, h1, e.symm, e2.symm, (map_VE (by rw [e]; exact h5)).symm, (map_VE (by rw [e]; exact h6)).symm, (map_VE (by rw [e]; exact h7)).symm, by omega, by omega, ?_, ?_, ?_, ?_, (Option.some.inj h).symm⟩
    · rw [List.length_map]; exact h8
    · rw [List.length_map]; exact h9
    · rw [List.length_map]; exact h10
    · rw [List.length_map]; exact h11
  · cases h
theorem prove_calls' (a0 a1 : Int) (A2 : Option Addr) (c2 : Nat) (l2 : List Int) (A3 : Option Addr) (c3 : Nat) (l3 : List Int) (A4 : Option Addr) (c4 : Nat) (l4 : List Int) (r1 : List (List Int)) (r2 : List Int) (w : World) (hr2 : Kd.C (Kd.int .u64) w A2 l2.length l2) (hr3 : Kd.C (Kd.int .u64) w A3 l3.length l3) (hr4 : Kd.C (Kd.int .u64) w A4 l4.length l4) (hc4 : l4.length ≤ c4) (h : proveF a0 a1 l2 l3 l4 = some (r1, r2)) :
    Calls Try.prog 17 #[.int .u64 a0, .int .i64 a1, .slice A2 l2.length c2, .slice A3 l3.length c3, .slice A4 l4.length c4] w fun e w' => ∃ v0_ v1_ : Value, e = .returned (.tuple #[v0_, v1_]) ∧ Kd.S (Kd.slice 22 (Kd.int .u64)) 23 w' w.heap.size (fun k_ => some k_ ≠ (v1_ : Value).ownBlock) v0_ r1 ∧ Kd.R (Kd.int .u64) 22 w' w.heap.size (fun k_ => some k_ ≠ (v0_ : Value).ownBlock) v1_ r2 ∧ Below w.heap.size w w' := by
  obtain ⟨q, _, t, a, b, r, hq, rfl, rfl, rfl, rfl, rfl, h1, h2, h3, h4, h5, h6, ho⟩ := proveF_some h
  obtain ⟨rfl, rfl⟩ := Prod.mk.inj ho
  exact prove_calls hq t a b r A2 A3 A4 c2 c3 c4 w h1 h2 h3 h4 h5 h6 (by rw [List.length_map] at hc4; exact hc4) hr2 hr3 hr4
end Go.Proofs.Ytjkggiemnfigbaa.X

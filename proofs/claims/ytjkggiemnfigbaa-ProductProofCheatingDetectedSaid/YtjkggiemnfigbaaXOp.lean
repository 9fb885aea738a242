/- The program's sum and product of polynomials as functions on lists of numbers. -/
import Derived.Test.YtjkggiemnfigbaaXMul
namespace Go.Proofs.Ytjkggiemnfigbaa.X
open Go.RowKit Go.Proofs.YtjkggiemnfigbaaW.PrintWords Go.Proofs.Ytjkggiemnfigbaa.PF Go.Proofs.Ytjkggiemnfigbaa.PQ Go.Proofs.YtjkggiemnfigbaaNum Go.Proofs.Ytjkggiemnfigbaa.FEv Go.Proofs.Ytjkggiemnfigbaa.FPoly
abbrev POp := (q : Nat) → [NeZero q] → List (Fin q) → List (Fin q) → List (Fin q)
def opAdd : POp := fun _ _ a b => padd a b
def opMul : POp := fun _ _ a b => pmul a b
instance (p : Nat) : Decidable (Sup p) := by unfold Sup; infer_instance
/-- What the operation yields, for lists of elements of a supported prime. -/
def polyOp (op : POp) (a0 : Int) (l1 l2 : List Int) : Option (List Int) :=
  if h : Sup a0.toNat ∧ 0 ≤ a0 ∧ (∀ x ∈ l1, 0 ≤ x ∧ x < a0) ∧ (∀ x ∈ l2, 0 ≤ x ∧ x < a0) ∧ l1.length < 274877906944 ∧ l2.length < 274877906944 then
    have : NeZero a0.toNat := ⟨fun e => by have := h.1.le; omega⟩
    some ((op a0.toNat (l1.map E) (l2.map E)).map V)
  else none
theorem map_EV {q : Nat} [NeZero q] (a : List (Fin q)) : (a.map V).map E = a := by
  rw [List.map_map]
  conv => rhs; rw [← List.map_id a]
  exact List.map_congr_left (fun x _ => E_V x)
theorem map_VE {q : Nat} [NeZero q] {l : List Int} (h : ∀ x ∈ l, 0 ≤ x ∧ x < (q : Int)) : (l.map E : List (Fin q)).map V = l := by
  rw [List.map_map]
  conv => rhs; rw [← List.map_id l]
  exact List.map_congr_left (fun x hx => V_E_lt (h x hx).1 (h x hx).2)
theorem polyOp_some {op : POp} {a0 : Int} {l1 l2 r : List Int} (h : polyOp op a0 l1 l2 = some r) : ∃ (q : Nat) (_ : NeZero q) (a b : List (Fin q)), Sup q ∧ a0 = (q : Int) ∧ l1 = a.map V ∧ l2 = b.map V ∧ a.length < 274877906944 ∧ b.length < 274877906944 ∧ r = (op q a b).map V := by
  unfold polyOp at h
  split at h
  · rename_i hx
    obtain ⟨h1, h2, h3, h4, h5, h6⟩ := hx
    have e : ((a0.toNat : Nat) : Int) = a0 := Int.toNat_of_nonneg h2
    have hz : NeZero a0.toNat := ⟨fun e => by have := h1.le; omega⟩
    refine ⟨a0.toNat, hz, _, _, h1, e.symm, ?_, ?_, ?_, ?_, (Option.some.inj h).symm⟩
    · exact (map_VE (by rw [e]; exact h3)).symm
    · exact (map_VE (by rw [e]; exact h4)).symm
    · rw [List.length_map]; exact h5
    · rw [List.length_map]; exact h6
  · cases h
theorem map_V_inj {q : Nat} {a b : List (Fin q)} (h : a.map V = b.map V) : a = b := (List.map_inj_right (fun _ _ e => V_inj.mp e)).mp h
theorem polyOp_eq {q : Nat} [i : NeZero q] (hq : Sup q) (op : POp) (a b : List (Fin q)) (ha : a.length < 274877906944) (hb : b.length < 274877906944) : polyOp op (q : Int) (a.map V) (b.map V) = some ((op q a b).map V) := by
  have hV : ∀ (l : List (Fin q)) (x : Int), x ∈ l.map V → 0 ≤ x ∧ x < (q : Int) := fun l x hx => by
    obtain ⟨y, _, rfl⟩ := List.mem_map.mp hx
    exact ⟨V_nonneg y, V_lt y⟩
  unfold polyOp
  rw [dif_pos ⟨hq, by omega, hV a, hV b, by rw [List.length_map]; exact ha, by rw [List.length_map]; exact hb⟩]
  show some ((op q ((a.map V).map E) ((b.map V).map E)).map V) = _
  rw [map_EV, map_EV]
theorem add_calls' (a0 : Int) (A1 : Option Addr) (c1 : Nat) (l1 : List Int) (A2 : Option Addr) (c2 : Nat) (l2 : List Int) (r : List Int) (w : World) (hr1 : Kd.C (Kd.int .u64) w A1 l1.length l1) (hr2 : Kd.C (Kd.int .u64) w A2 l2.length l2) (h : polyOp opAdd a0 l1 l2 = some r) :
    Calls Try.prog 47 #[.int .u64 a0, .slice A1 l1.length c1, .slice A2 l2.length c2] w fun e w' => ∃ v0_ : Value, e = .returned (v0_) ∧ Kd.R (Kd.int .u64) 22 w' w.heap.size (fun _ => True) v0_ r ∧ Below w.heap.size w w' := by
  obtain ⟨q, _, a, b, hq, rfl, rfl, rfl, ha, hb, rfl⟩ := polyOp_some h
  exact add_calls hq a b A1 A2 c1 c2 w (by omega) (by omega) hr1 hr2
theorem mul_calls' (a0 : Int) (A1 : Option Addr) (c1 : Nat) (l1 : List Int) (A2 : Option Addr) (c2 : Nat) (l2 : List Int) (r : List Int) (w : World) (hr1 : Kd.C (Kd.int .u64) w A1 l1.length l1) (hr2 : Kd.C (Kd.int .u64) w A2 l2.length l2) (h : polyOp opMul a0 l1 l2 = some r) :
    Calls Try.prog 37 #[.int .u64 a0, .slice A1 l1.length c1, .slice A2 l2.length c2] w fun e w' => ∃ v0_ : Value, e = .returned (v0_) ∧ Kd.R (Kd.int .u64) 22 w' w.heap.size (fun _ => True) v0_ r ∧ Below w.heap.size w w' := by
  obtain ⟨q, _, a, b, hq, rfl, rfl, rfl, ha, hb, rfl⟩ := polyOp_some h
  exact mul_calls hq a b A1 A2 c1 c2 w ha hb hr1 hr2
end Go.Proofs.Ytjkggiemnfigbaa.X

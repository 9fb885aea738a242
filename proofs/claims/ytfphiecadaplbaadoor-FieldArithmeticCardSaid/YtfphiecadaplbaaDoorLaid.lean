/- The laid variable of this seat (privity/field.exps): a start that meets the condition; what the condition gives the walks. -/
import Derived.Test.YtfphiecadaplbaaDoorRows
import Derived.Test.YtfphiecadaplbaaDoorPAx0
import Derived.ProofKit
import Derived.LaidMore
import Derived.OpenShut
import Derived.Stop.Joined
namespace Go.Proofs.YtfphiecadaplbaaDoor.Laid
open Go.ChangeShapes Go.WideShapes Go.ChangeAt Go.RowKit Go.Proofs.YtfphiecadaplbaaDoor.PA
theorem own : ownKnob Tryd.prog.godebug = none := by kernel_rfl
theorem gExps : Tryd.prog.globalNamed "privity/field.exps" = some 0 := by kernel_rfl
theorem tExps : (Tryd.prog.globals[0]?).map (·.type) = some 37 := by kernel_rfl
theorem door_met (os : Os) (args : Array Value) : laidMetH Tryd.prog [("privity/field.exps", Rows.laid_privity_field_exps)] ((World.doorLaid Tryd.prog 400 os).forCall (fun _ _ => 0) ⟨#[], args, []⟩).memory :=
  laidMetH_of_parts3 (fuel := 8) (laidMet_of_run' 8 (by kernel_rfl) (by kernel_rfl)) (by kernel_rfl) (by kernel_rfl)
theorem one_of {l : List Value} {i : Nat} {v : Value} (h : (l.drop i).take 1 = [v]) : l[i]? = some v := by
  have h2 : ((l.drop i).take 1)[0]? = some v := by rw [h]; rfl
  rw [List.getElem?_take] at h2
  simpa using h2
theorem of_laid {W : World} (h : laidMetH Tryd.prog [("privity/field.exps", Rows.laid_privity_field_exps)] W) : Gl W := by
  rw [MakeChecks.laidMetH_plain _ _ _ (by kernel_rfl)] at h
  obtain ⟨ps, ⟨g0, t0, cs0, f0, p0, q0, hg0, ht0, hv0, hd0, _, _⟩, _, _⟩ := h
  obtain rfl := Option.some.inj (gExps.symm.trans hg0)
  obtain rfl := Option.some.inj (tExps.symm.trans ht0)
  obtain ⟨xs, m1, rfl, hx1, hlen, hn3, hel⟩ := DataW.trod_array Tryd.underlying37 hd0
  have c3 : Tryd.prog.cellsOf 3 = 1 := by kernel_rfl
  simp only [Prod.mk.injEq, Rows.laid_privity_field_exps, DataW.agg.injEq] at hx1
  obtain ⟨hx1, _⟩ := hx1
  have key : ∀ (i : Nat) (n : Int), i < 7 → (xs.map (·.1))[i]? = some (.lit (.int .i64 n)) → W.cell? ⟨0, i, none⟩ = some (.int .i64 n) := by
    intro i n hi hn
    have h1 := hel i hi
    rw [c3, Nat.mul_one] at h1
    rw [List.getElem?_map] at hn
    cases hy : xs[i]? with
    | none => rw [hy] at hn; cases hn
    | some y =>
      rw [hy] at h1 hn
      obtain ⟨k, e1, e2, _⟩ := DataW.trod_int Tryd.underlying3 h1
      have hk : k = n := by rw [e2] at hn; simpa using hn
      subst hk
      have h2 := one_of e1
      have h3 := World.var?_cell hg0 hv0 i
      rw [h3]
      simpa using h2
  rw [← hx1] at key
  exact ⟨key 0 5 (by decide) rfl, key 1 7 (by decide) rfl, key 2 13 (by decide) rfl, key 3 17 (by decide) rfl, key 4 19 (by decide) rfl, key 5 31 (by decide) rfl, key 6 61 (by decide) rfl⟩
end Go.Proofs.YtfphiecadaplbaaDoor.Laid

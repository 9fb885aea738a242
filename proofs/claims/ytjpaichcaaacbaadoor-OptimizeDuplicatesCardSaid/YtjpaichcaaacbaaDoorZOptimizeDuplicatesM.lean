/- Part M of: The statement OptimizeDuplicates: the law answers true whatever its arguments; no condition. -/
import Derived.Test.YtjpaichcaaacbaaDoorZOptimizeDuplicatesL
import Derived.ProofKit
import Derived.OpenShut
import Derived.Test.YtjpaichcaaacbaaDoorRows
import Derived.LaidMore
import Derived.Stop.Joined
section
set_option linter.unusedVariables false
set_option maxRecDepth 100000
namespace Go.Proofs.YtjpaichcaaacbaaDoor.HL
open Go Go.ChangeShapes Go.WideShapes Go.ChangeAt Go.RowKit
abbrev laidD : List (String × DataW Unit) := [("privity/field.exps", Rows.laid_privity_field_exps), ("privity/circuit.forms", Rows.laid_privity_circuit_forms)]
theorem ownG : ownKnob Tryd.prog.godebug = none := by kernel_rfl
theorem gNamed1 : Tryd.prog.globalNamed "privity/field.exps" = some 1 := by kernel_rfl
theorem gNamed2 : Tryd.prog.globalNamed "privity/circuit.forms" = some 2 := by kernel_rfl
theorem gType1 : (Tryd.prog.globals[1]?).map (·.type) = some tExps := by kernel_rfl
theorem gType2 : (Tryd.prog.globals[2]?).map (·.type) = some tForms := by kernel_rfl
theorem door_met2 (os : Os) (args : Array Value) : laidMetH Tryd.prog laidD ((World.doorLaid Tryd.prog 400 os).forCall (fun _ _ => 0) ⟨#[], args, []⟩).memory :=
  laidMetH_of_parts3 (fuel := 8) (laidMet_of_run' 8 (by kernel_rfl) (by kernel_rfl)) (by kernel_rfl) (by kernel_rfl)
theorem one_of {l : List Value} {i : Nat} {v : Value} (h : (l.drop i).take 1 = [v]) : l[i]? = some v := by
  have h2 : ((l.drop i).take 1)[0]? = some v := by rw [h]; rfl
  rw [List.getElem?_take] at h2
  simpa using h2
section
variable {D : Type} {enc : TypeId × Value → D} {P : Program} {W : World} {base : Nat} {sp : Nat → Bool} {held : Bool} {t e : TypeId} {fuel n : Nat} {cs : List Value} {ds : List (DataW D)} {d : DataW D} {p : List MemPlace}
theorem arr_part (ht : P.underlying t = some (.array n e)) (h : DataW.trod enc P W base sp held fuel t cs = some (.agg ds, p)) {i : Nat} (hi : i < n) (hd : ds[i]? = some d) : cs.length = P.cellsOf t ∧ ∃ m q, DataW.trod enc P W base sp held m e ((cs.drop (i * P.cellsOf e)).take (P.cellsOf e)) = some (d, q) := by
  obtain ⟨xs, m, _, hx, hlen, hl, hf⟩ := DataW.trod_array ht h
  simp only [Prod.mk.injEq, DataW.agg.injEq] at hx
  obtain ⟨rfl, _⟩ := hx
  refine ⟨hlen, m, ?_⟩
  rw [hf i hi]
  rw [List.getElem?_map] at hd
  cases hy : xs[i]? with
  | none => rw [hy] at hd; cases hd
  | some y =>
    rw [hy] at hd
    cases hd
    exact ⟨y.2, rfl⟩
theorem str_part {fs : Array Field} (ht : P.underlying t = some (.struct fs)) (h : DataW.trod enc P W base sp held fuel t cs = some (.agg ds, p)) {i : Nat} {f : Field} (hi : fs[i]? = some f) (hd : ds[i]? = some d) {T off s : Nat} (hT : f.type = T) (ho : f.offset = off) (hs : P.cellsOf T = s) : ∃ m q, DataW.trod enc P W base sp held m T ((cs.drop off).take s) = some (d, q) := by
  obtain ⟨xs, m, _, hx, hlen, hl, hf⟩ := DataW.trod_struct ht h
  simp only [Prod.mk.injEq, DataW.agg.injEq] at hx
  obtain ⟨rfl, _⟩ := hx
  subst hT ho hs
  refine ⟨m, ?_⟩
  rw [hf i f hi]
  rw [List.getElem?_map] at hd
  cases hy : xs[i]? with
  | none => rw [hy] at hd; cases hd
  | some y =>
    rw [hy] at hd
    cases hd
    exact ⟨y.2, rfl⟩
theorem int_part {k : IntKind} {x : Int} {q : List MemPlace} (ht : P.underlying t = some (.int k)) (h : DataW.trod enc P W base sp held fuel t cs = some (.lit (.int k x), q)) : cs = [.int k x] := by
  obtain ⟨y, rfl, hx, _⟩ := DataW.trod_int ht h
  simp only [Prod.mk.injEq, DataW.lit.injEq, Lit.int.injEq] at hx
  rw [hx.1.2]
theorem bool_part {x : Bool} {q : List MemPlace} (ht : P.underlying t = some .bool) (h : DataW.trod enc P W base sp held fuel t cs = some (.lit (.bool x), q)) : cs = [.bool x] := by
  obtain ⟨y, rfl, hx⟩ := DataW.trod_bool ht h
  simp only [Prod.mk.injEq, DataW.lit.injEq, Lit.bool.injEq] at hx
  rw [hx.1]
theorem string_part {x : ByteArray} {q : List MemPlace} (ht : P.underlying t = some .string) (h : DataW.trod enc P W base sp held fuel t cs = some (.lit (.string x.data.toList), q)) : cs = [.string x] := by
  obtain ⟨y, rfl, hx, _⟩ := DataW.trod_string ht h
  simp only [Prod.mk.injEq, DataW.lit.injEq, Lit.string.injEq] at hx
  have : x = y := by
    cases x; cases y
    have := hx.1
    simp only at this
    congr 1
    exact Array.toList_inj.1 this
  rw [this]
end
def formD (f : Form) : DataW Unit := .agg [.lit (.string f.w.data.toList), .lit (.int .i64 f.kind), .lit (.bool f.fr), .lit (.bool f.k), .lit (.bool f.a), .lit (.bool f.b), .lit (.bool f.bit)]
theorem forms_eq : (Rows.laid_privity_circuit_forms : DataW Unit) = .agg (formL.map formD) := rfl
theorem exps_eq : (Rows.laid_privity_field_exps : DataW Unit) = .agg (expL.map fun x => .lit (.int .i64 x)) := rfl
theorem unStr : Tryd.prog.underlying 9 = some .string := by kernel_rfl
theorem unBool : Tryd.prog.underlying 4 = some .bool := by kernel_rfl
theorem unInt : Tryd.prog.underlying 3 = some (.int .i64) := by kernel_rfl
theorem form_cells {W : World} {fuel : Nat} {cs : List Value} {f : Form} {p : List MemPlace} (h : DataW.trod (fun _ => ()) Tryd.prog W 0 (fun _ => true) false fuel tForm cs = some (formD f, p)) : ∀ (j : Nat) (u : Value), (fv f)[j]? = some u → cs[j]? = some u := by
  obtain ⟨m0, q0, h0⟩ := str_part Tryd.underlying85 h (i := 0) rfl rfl (T := 9) (off := 0) (s := 1) rfl rfl (by kernel_rfl)
  obtain ⟨m1, q1, h1⟩ := str_part Tryd.underlying85 h (i := 1) rfl rfl (T := 3) (off := 1) (s := 1) rfl rfl (by kernel_rfl)
  obtain ⟨m2, q2, h2⟩ := str_part Tryd.underlying85 h (i := 2) rfl rfl (T := 4) (off := 2) (s := 1) rfl rfl (by kernel_rfl)
  obtain ⟨m3, q3, h3⟩ := str_part Tryd.underlying85 h (i := 3) rfl rfl (T := 4) (off := 3) (s := 1) rfl rfl (by kernel_rfl)
  obtain ⟨m4, q4, h4⟩ := str_part Tryd.underlying85 h (i := 4) rfl rfl (T := 4) (off := 4) (s := 1) rfl rfl (by kernel_rfl)
  obtain ⟨m5, q5, h5⟩ := str_part Tryd.underlying85 h (i := 5) rfl rfl (T := 4) (off := 5) (s := 1) rfl rfl (by kernel_rfl)
  obtain ⟨m6, q6, h6⟩ := str_part Tryd.underlying85 h (i := 6) rfl rfl (T := 4) (off := 6) (s := 1) rfl rfl (by kernel_rfl)
  intro j u hu
  match j, hu with
  | 0, hu => cases hu; exact one_of (string_part unStr h0)
  | 1, hu => cases hu; exact one_of (int_part unInt h1)
  | 2, hu => cases hu; exact one_of (bool_part unBool h2)
  | 3, hu => cases hu; exact one_of (bool_part unBool h3)
  | 4, hu => cases hu; exact one_of (bool_part unBool h4)
  | 5, hu => cases hu; exact one_of (bool_part unBool h5)
  | 6, hu => cases hu; exact one_of (bool_part unBool h6)
theorem of_plain {W : World} (h : laidMet Tryd.prog laidD W) : Gl (hp W) := by
  obtain ⟨ps, ⟨g1, t1, cs1, f1, p1, q1, hg1, ht1, hv1, hd1, ⟨g2, t2, cs2, f2, p2, q2, hg2, ht2, hv2, hd2, _, _⟩, _⟩, _, _⟩ := h
  obtain rfl := Option.some.inj (gNamed1.symm.trans hg1)
  obtain rfl := Option.some.inj (gType1.symm.trans ht1)
  obtain rfl := Option.some.inj (gNamed2.symm.trans hg2)
  obtain rfl := Option.some.inj (gType2.symm.trans ht2)
  have c3 : Tryd.prog.cellsOf 3 = 1 := by kernel_rfl
  have c7 : Tryd.prog.cellsOf tForm = 7 := by kernel_rfl
  refine ⟨fun j u hu => hp_cell ?_, fun i f hf j u hu => hp_cell ?_⟩
  · rw [World.var?_cell hg1 hv1 j]
    rw [exps_eq] at hd1
    have hj : j < 7 := by have := (List.getElem?_eq_some_iff.1 hu).1; simpa using this
    rw [List.getElem?_map] at hu
    obtain ⟨x, hx, rfl⟩ := Option.map_eq_some_iff.1 hu
    obtain ⟨_, m, q, h2⟩ := arr_part Tryd.underlying91 hd1 (i := j) (d := .lit (.int .i64 x)) hj (by rw [List.getElem?_map, hx]; rfl)
    rw [c3, Nat.mul_one] at h2
    have := one_of (int_part unInt h2)
    rw [← Array.getElem?_toList]
    exact this
  · rw [World.var?_cell hg2 hv2 _]
    rw [forms_eq] at hd2
    have hi : i < 7 := by have := (List.getElem?_eq_some_iff.1 hf).1; simpa using this
    obtain ⟨_, m, q, h2⟩ := arr_part Tryd.underlying92 hd2 (i := i) (d := formD f) hi (by rw [List.getElem?_map, hf]; rfl)
    rw [c7] at h2
    have := form_cells h2 j u hu
    rw [List.getElem?_take] at this
    split at this
    · rw [List.getElem?_drop] at this
      rw [← Array.getElem?_toList]
      exact this
    · cases this
theorem laid_data {P : Program} {l : List (String × DataW Unit)} {w : World} (h : laidMetH P l w) : laidMet P (l.filter fun x => x.2.handleName?.isNone) w := by
  unfold laidMetH at h
  generalize hfl : (l.filter fun x => x.2.handleName?.isSome) = fl at h
  cases fl with
  | nil =>
    have e : (l.filter fun x => x.2.handleName?.isNone) = l := by
      rw [List.filter_eq_self]
      intro x hx
      have := (List.filter_eq_nil_iff.1 hfl) x hx
      cases hn : x.2.handleName? with
      | none => rfl
      | some s => rw [hn] at this; exact absurd rfl this
    rw [e]
    exact h
  | cons a tl => exact h.1
theorem of_laid2 {W : World} (h : laidMetH Tryd.prog laidD W) : Gl (hp W) := of_plain (laid_data h)
end Go.Proofs.YtjpaichcaaacbaaDoor.HL
end

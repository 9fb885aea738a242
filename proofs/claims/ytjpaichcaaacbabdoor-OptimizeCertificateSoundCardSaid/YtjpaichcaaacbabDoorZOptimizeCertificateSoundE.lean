/- Part E of: The statement OptimizeCertificateSound: the law answers true whatever its arguments; no condition. -/
import Derived.Test.YtjpaichcaaacbabDoorZOptimizeCertificateSoundD
import Derived.OrdersHeld
import Derived.Deep.RegionHeld3
import Derived.Laws.BitsLemmas
import Derived.RowKit
import Derived.Below
import Derived.Deep.Draws
import Derived.Deep.AppendLies
import Derived.Maps.AppendAt
import Derived.OwnWalk
import Derived.Laws.BytesArg
import Derived.Laws.MakeOwn
import Derived.Laws.OwnMore
import Derived.Deep.OwnRows
import Derived.Tactics
import Derived.Lib.ConvBytes
import Derived.Laws.Slices
import Derived.WalkKit
import Derived.KernelRfl
import Derived.RowKit3
import Derived.Deep.LoopGhost
import Derived.Deep.QuietTactic
import Derived.BigQuiet
import Derived.WideLaws
import Derived.Deep.DeepCutAuto
import Derived.Deep.CutBlock
import Derived.Laws.Rows
import Derived.Lib.AppendStr
import Derived.ArgAppend
import Derived.Laws.IdiomCopy
import Derived.Test.YtjpaichcaaacbabDoorProg
import Derived.Laws.Externs
section
namespace Go.Proofs.YtjpaichcaaacbabDoor.PF
open Go.RowKit Go.Proofs.YtjpaichcaaacbabDoorW.PrintWords Go.Proofs.YtjpaichcaaacbabDoorW.PrintLast Go.Proofs.YtjpaichcaaacbabDoorW.PrintMore
set_option linter.unusedVariables false
set_option linter.unusedSimpArgs false
theorem info3 : (Tryd.prog.info? 3).map (fun i => (i.zero, i.size, i.bytes)) = some (some (.int .i64 0), 1, 8) := by kernel_rfl
/-- What the laid array holds. -/
def Gl (w : World) : Prop := w.cell? ⟨0, 0, none⟩ = some (.int .i64 5) ∧ w.cell? ⟨0, 1, none⟩ = some (.int .i64 7) ∧ w.cell? ⟨0, 2, none⟩ = some (.int .i64 13) ∧ w.cell? ⟨0, 3, none⟩ = some (.int .i64 17) ∧ w.cell? ⟨0, 4, none⟩ = some (.int .i64 19) ∧ w.cell? ⟨0, 5, none⟩ = some (.int .i64 31) ∧ w.cell? ⟨0, 6, none⟩ = some (.int .i64 61)
theorem Gl.below {w w1 : World} (h : Gl w) (hb : Below w.heap.size w w1) : Gl w1 :=
  ⟨pw_cell_below hb h.1, pw_cell_below hb h.2.1, pw_cell_below hb h.2.2.1, pw_cell_below hb h.2.2.2.1, pw_cell_below hb h.2.2.2.2.1, pw_cell_below hb h.2.2.2.2.2.1, pw_cell_below hb h.2.2.2.2.2.2⟩
theorem Gl.drawn {w w1 : World} (h : Gl w) (hd : Drawn0 w w1) : Gl w1 := h.below hd.below
/-- A call of a function without a body, for which the model has an entry: it yields its value at once. -/
def CallsX (P : Program) (f : FuncId) (args : Array Value) (w : World) (R : Ending → World → Prop) : Prop := ∃ v, (callFunc f args).run P w = .ok (.value v) w ∧ R (.returned v) w
theorem CallsX.mono {P : Program} {f : FuncId} {args : Array Value} {w : World} {R R' : Ending → World → Prop} (h : CallsX P f args w R) (hr : ∀ e w', R e w' → R' e w') : CallsX P f args w R' := by
  obtain ⟨v, hv, h⟩ := h
  exact ⟨v, hv, hr _ _ h⟩
section
variable {P : Program} {ops : Array Oper} {Q : Exit → Act → World → Prop}
theorem goesX_ {rest : List Oper} {oi : Oper} {a : Act} {w : World} (N : Option Tmp) (hd : oi.dst = N) (hg : oi.guard = none) {f : FuncId} {as1 : Array Operand} {ts : Array TypeId} (args : Array Value)
    (hop : oi.op = .call { callee := .value (.func f), args := as1, argTypes := ts }) (hargs : as1.map a.eval = args)
    (h : CallsX P f args w fun e w' => ∃ v, e = .returned v ∧ wpList P ops Q rest (a.put N v) w') : wpList P ops Q (oi :: rest) a w := by
  refine wpList_plain hg fun K hK => ?_
  obtain ⟨v, hv, v', he, h⟩ := h
  have hrun : (execOp a.eval oi).run P w = .ok (.value v) w := by
    unfold execOp
    simp [hop, resolve, Deferred.ofValue, invoke, Act.eval, hargs, hv]
  unfold Oper.wp
  rw [hrun, Oper.upon_value]
  injection he with he
  subst he
  subst hd
  exact hK _ _ h
end
end Go.Proofs.YtjpaichcaaacbabDoor.PF
end
section
namespace Go.Proofs.YtjpaichcaaacbabDoor.PF
open Go.RowKit Go.Proofs.YtjpaichcaaacbabDoorW.PrintWords Go.Proofs.YtjpaichcaaacbabDoorW.PrintLast Go.Proofs.YtjpaichcaaacbabDoorW.PrintMore
set_option linter.unusedVariables false
set_option linter.unusedSimpArgs false
def bits_Len64.f (a0 : Int) : Option Int := if 0 ≤ a0 ∧ a0 ≤ 18446744073709551615 then some (Lib.bitLen a0.toNat : Int) else none
theorem bits_Len64.calls (a0 : Int) (r : Int) (w : World) (h : bits_Len64.f a0 = some r) :
    Calls Tryd.prog 67 #[.int .u64 a0] w fun e w' => e = .returned (.int .i64 r) ∧ Drawn0 w w' := by
  unfold bits_Len64.f at h
  by_cases c : 0 ≤ a0 ∧ a0 ≤ 18446744073709551615
  · rw [if_pos c] at h
    obtain rfl := Option.some.inj h
    refine (Tryd.bits_Len64 a0 w c.1 c.2).mono fun e w' he => ?_
    exact ⟨he.1, by rw [he.2]; exact Drawn0.refl _⟩
  · rw [if_neg c] at h
    cases h
def field_width.f (a0 : Int) : Option (Int) := (bits_Len64.f a0).bind fun t101 => (some (IntKind.u64.wrap (t101)))
set_option maxHeartbeats 8000000 in
set_option maxRecDepth 100000 in
theorem field_width.calls (a0 : Int) (r : Int) (w : World) (h : field_width.f a0 = some r) :
    Calls Tryd.prog 65 #[.int .u64 a0] w fun e w' => e = .returned (.int .u64 r) ∧ Drawn0 w w' := by
  have H : ((bits_Len64.f a0).bind fun t101 => (some (IntKind.u64.wrap (t101)))) = some r := h
  clear h
  replace H := Option.bind_eq_some_iff.mp H
  obtain ⟨t101, A20, H⟩ := H
  replace H : (some (IntKind.u64.wrap (t101))) = some r := H
  have A2 := Aside0.mk A20
  clear A20
  obtain rfl := Option.some.inj H
  go_enter Tryd.func65, Tryd.ntmps65
  go_wp2_with (first | ((with_reducible refine gate_callee (f := 67) rfl ?_); refine goesL_ (some 4) rfl rfl Tryd.func67 (by kernel_rfl) rfl #[.int .u64 a0] rfl (by (try simp only [List.map_toArray, List.map_cons, List.map_nil]); first | done | rfl | (simp only [List.length_drop, List.length_take]; rfl)) ?_; (with_reducible refine (bits_Len64.calls a0 t101 _ A2.out).mono ?_); rintro e w' ⟨rfl, ⟨nd, rfl⟩⟩; refine ⟨_, rfl, ?_⟩))
  go_ret
  exact ⟨by first | rfl | (simp; done) | (simp [*]; done), by repeat (first | exact Drawn0.refl _ | apply Drawn0.step)⟩
def bits_Add64.f (a0 a1 a2 : Int) : Option (Int × Int) := if 0 ≤ a0 ∧ 0 ≤ a1 ∧ 0 ≤ a2 ∧ a2 ≤ 1 then some ((a0 + a1 + a2) % 18446744073709551616, (a0 + a1 + a2) / 18446744073709551616) else none
theorem bits_Add64.calls (a0 a1 a2 : Int) (r1 r2 : Int) (w : World) (h : bits_Add64.f a0 a1 a2 = some (r1, r2)) :
    CallsX Tryd.prog 66 #[.int .u64 a0, .int .u64 a1, .int .u64 a2] w fun e w' => e = .returned (.tuple #[.int .u64 r1, .int .u64 r2]) ∧ Drawn0 w w' := by
  unfold bits_Add64.f at h
  by_cases c : 0 ≤ a0 ∧ 0 ≤ a1 ∧ 0 ≤ a2 ∧ a2 ≤ 1
  · rw [if_pos c] at h
    injection h with h
    injection h with h1 h2
    subst h1 h2
    obtain ⟨c0, c1, c2, c3⟩ := c
    refine ⟨_, ?_, rfl, Drawn0.refl _⟩
    rw [run_callFunc_extern Tryd.func66 (by kernel_rfl) (by kernel_rfl) (by kernel_rfl) (e := add64Entry) (by kernel_rfl), run_add64 a0 a1 a2 c0 c1 c2 c3]
    rfl
  · rw [if_neg c] at h
    cases h
def field_fold.l0 : Nat → Int → Int → Int → Int → Option (Int)
  | 0, _, _, _, _ => none
  | k + 1, x0, x1, x2, x7 => if x1 = 0 then (if x2 > x0 then (if 0 ≤ x7 then (if 0 ≤ (IntKind.u64.wrap (64 - x7)) then ((bits_Add64.f (Go.bits .or .u64 (shr .u64 x2 x7) (shl .u64 x1 (IntKind.u64.wrap (64 - x7)))) (Go.bits .and .u64 x2 x0) 0).bind fun bt103 => (field_fold.l0 k x0 (IntKind.u64.wrap ((shr .u64 x1 x7) + bt103.2)) bt103.1 x7)) else (none)) else (none)) else (if x2 = x0 then (some 0) else (some x2))) else (if 0 ≤ x7 then (if 0 ≤ (IntKind.u64.wrap (64 - x7)) then ((bits_Add64.f (Go.bits .or .u64 (shr .u64 x2 x7) (shl .u64 x1 (IntKind.u64.wrap (64 - x7)))) (Go.bits .and .u64 x2 x0) 0).bind fun bt105 => (field_fold.l0 k x0 (IntKind.u64.wrap ((shr .u64 x1 x7) + bt105.2)) bt105.1 x7)) else (none)) else (none))
def field_fold.f (k : Nat) (a0 : Int) (a1 : Int) (a2 : Int) : Option (Int) := (field_width.f a0).bind fun t102 => (field_fold.l0 k a0 a1 a2 t102)
theorem field_fold.mono_l : ∀ k, (∀ y0 y1 y2 y3, LeO (field_fold.l0 k y0 y1 y2 y3) (field_fold.l0 (k + 1) y0 y1 y2 y3))
  | 0 => fun _ _ _ _ r h => by simp [field_fold.l0] at h
  | k + 1 => by
    have ih0 := field_fold.mono_l k
    · intro y0 y1 y2 y3
      unfold field_fold.l0
      repeat' first
      | (with_reducible exact ih0 _ _ _ _)
      | (with_reducible exact LeO.refl _)
      | (with_reducible exact LeO.none _)
      | (with_reducible refine LeO.ite ?_ ?_)
      | (with_reducible refine LeO.bind ?_ (fun _ => ?_))
      | exact ih0 _ _ _ _
      | exact LeO.none _
      | refine LeO.ite ?_ ?_
      | refine LeO.bind ?_ (fun _ => ?_)
theorem field_fold.mono : ∀ a0 a1 a2 k, LeO (field_fold.f k a0 a1 a2) (field_fold.f (k + 1) a0 a1 a2) := by
  intro a0 a1 a2 k
  have ih0 := field_fold.mono_l k
  unfold field_fold.f
  repeat' first
      | (with_reducible exact ih0 _ _ _ _)
      | (with_reducible exact LeO.refl _)
      | (with_reducible exact LeO.none _)
      | (with_reducible refine LeO.ite ?_ ?_)
      | (with_reducible refine LeO.bind ?_ (fun _ => ?_))
      | exact ih0 _ _ _ _
      | exact LeO.none _
      | refine LeO.ite ?_ ?_
      | refine LeO.bind ?_ (fun _ => ?_)
set_option maxHeartbeats 8000000 in
set_option maxRecDepth 100000 in
theorem field_fold.calls (k : Nat) (a0 : Int) (a1 : Int) (a2 : Int) (r : Int) (w : World) (h : field_fold.f k a0 a1 a2 = some r) :
    Calls Tryd.prog 62 #[.int .u64 a0, .int .u64 a1, .int .u64 a2] w fun e w' => e = .returned (.int .u64 r) ∧ Drawn0 w w' := by
  have H : ((field_width.f a0).bind fun t102 => (field_fold.l0 k a0 a1 a2 t102)) = some r := h
  clear h
  replace H := Option.bind_eq_some_iff.mp H
  obtain ⟨t102, A40, H⟩ := H
  replace H : (field_fold.l0 k a0 a1 a2 t102) = some r := H
  have A4 := Aside0.mk A40
  clear A40
  have H' := Aside0.mk H
  clear H
  go_enter Tryd.func62, Tryd.ntmps62
  go_wp2_with (first | ((with_reducible refine gate_callee (f := 65) rfl ?_); refine goesL_ (some 12) rfl rfl Tryd.func65 (by kernel_rfl) rfl #[.int .u64 a0] rfl (by (try simp only [List.map_toArray, List.map_cons, List.map_nil]); first | done | rfl | (simp only [List.length_drop, List.length_take]; rfl)) ?_; (with_reducible refine (field_width.calls a0 t102 _ A4.out).mono ?_); rintro e w' ⟨rfl, ⟨nd, rfl⟩⟩; refine ⟨_, rfl, ?_⟩))
  go_loopg [1, 2] k (fun kq v1 v2 w' => ∃ (x1_1 : Int) (x2_1 : Int), v1 = .int .u64 x1_1 ∧ v2 = .int .u64 x2_1 ∧ Aside0 (field_fold.l0 kq a0 x1_1 x2_1 t102 = some r) ∧ Aside0 (kq ≤ k) ∧ Drawn0 w w')
  case atStart => exact ⟨(a1), (a2), (by first | rfl | (simp; done) | (simp [*]; done)), (by first | rfl | (simp; done) | (simp [*]; done)), H', ⟨Nat.le_refl _⟩, by repeat (first | exact Drawn0.refl _ | apply Drawn0.step)⟩
  case round =>
    clear H'
    try clear p2
    obtain ⟨x1_1, x2_1, rfl, rfl, HA, HK1, ⟨m1, rfl⟩⟩ := hrel
    cases gk with
    | zero => exact absurd HA.out (by simp [field_fold.l0])
    | succ k1 =>
      have H := HA.out
      clear HA
      simp only [field_fold.l0] at H
      by_cases c5 : x1_1 = 0
      · rw [if_pos c5] at H
        have c5b0 : (x1_1 == 0) = true := beq_iff_eq.mpr c5
        have c5b1 : (x1_1 != 0) = false := bne_eq_false_iff_eq.mpr c5
        clear c5
        by_cases c6 : x2_1 > a0
        · rw [if_pos c6] at H
          have c6b0 : decide (a0 < x2_1) = true := decide_eq_true c6
          clear c6
          by_cases c7 : 0 ≤ t102
          · rw [if_pos c7] at H
            have c7b0 := eq_true c7
            have c7b1 : decide (0 ≤ t102) = true := decide_eq_true c7
            clear c7
            obtain ⟨ji8, hji8⟩ : ∃ j_ : Int, (shr .u64 x2_1 t102) = j_ := ⟨_, rfl⟩
            replace H : (if 0 ≤ (IntKind.u64.wrap (64 - t102)) then ((bits_Add64.f (Go.bits .or .u64 (ji8) (shl .u64 x1_1 (IntKind.u64.wrap (64 - t102)))) (Go.bits .and .u64 x2_1 a0) 0).bind fun bt103 => (field_fold.l0 k1 a0 (IntKind.u64.wrap ((shr .u64 x1_1 t102) + bt103.2)) bt103.1 t102)) else (none)) = some r := by first | (rw [hji8] at H; exact H) | (simp only [hji8] at H ⊢; exact H)
            have hji8_ : (x2_1 / 2 ^ min t102.toNat 64) = ji8 := hji8
            have hji8z : t102 ≤ 64 → (x2_1 / 2 ^ t102.toNat) = ji8 := shr_small hji8
            obtain ⟨ji9, hji9⟩ : ∃ j_ : Int, (IntKind.u64.wrap (64 - t102)) = j_ := ⟨_, rfl⟩
            replace H : (if 0 ≤ (ji9) then ((bits_Add64.f (Go.bits .or .u64 (ji8) (shl .u64 x1_1 (ji9))) (Go.bits .and .u64 x2_1 a0) 0).bind fun bt103 => (field_fold.l0 k1 a0 (IntKind.u64.wrap ((shr .u64 x1_1 t102) + bt103.2)) bt103.1 t102)) else (none)) = some r := by first | (rw [hji9] at H; exact H) | (simp only [hji9] at H ⊢; exact H)
            by_cases c10 : 0 ≤ (ji9)
            · rw [if_pos c10] at H
              have c10b0 := eq_true c10
              have c10b1 : decide (0 ≤ (ji9)) = true := decide_eq_true c10
              clear c10
              obtain ⟨ji11, hji11⟩ : ∃ j_ : Int, (shl .u64 x1_1 (ji9)) = j_ := ⟨_, rfl⟩
              replace H : ((bits_Add64.f (Go.bits .or .u64 (ji8) (ji11)) (Go.bits .and .u64 x2_1 a0) 0).bind fun bt103 => (field_fold.l0 k1 a0 (IntKind.u64.wrap ((shr .u64 x1_1 t102) + bt103.2)) bt103.1 t102)) = some r := by first | (rw [hji11] at H; exact H) | (simp only [hji11] at H ⊢; exact H)
              have hji11_ : (IntKind.u64.wrap (x1_1 * 2 ^ min (ji9).toNat 64)) = ji11 := hji11
              have hji11z : (ji9) ≤ 64 → (IntKind.u64.wrap (x1_1 * 2 ^ (ji9).toNat)) = ji11 := shl_small hji11
              have c12b0 := eq_true (of_decide_eq_true (by first | (with_reducible assumption) | assumption) : 0 ≤ t102)
              obtain ⟨ji13, hji13⟩ : ∃ j_ : Int, (shr .u64 x1_1 t102) = j_ := ⟨_, rfl⟩
              replace H : ((bits_Add64.f (Go.bits .or .u64 (ji8) (ji11)) (Go.bits .and .u64 x2_1 a0) 0).bind fun bt103 => (field_fold.l0 k1 a0 (IntKind.u64.wrap ((ji13) + bt103.2)) bt103.1 t102)) = some r := by first | (rw [hji13] at H; exact H) | (simp only [hji13] at H ⊢; exact H)
              have hji13_ : (x1_1 / 2 ^ min t102.toNat 64) = ji13 := hji13
              have hji13z : t102 ≤ 64 → (x1_1 / 2 ^ t102.toNat) = ji13 := shr_small hji13
              replace H := Option.bind_eq_some_iff.mp H
              obtain ⟨⟨t103, t104⟩, A140, H⟩ := H
              replace H : (field_fold.l0 k1 a0 (IntKind.u64.wrap ((ji13) + t104)) t103 t102) = some r := H
              have A14 := Aside0.mk A140
              clear A140
              have H' := Aside0.mk H
              clear H
              go_wp2_with (first | ((with_reducible refine gate_callee (f := 66) rfl ?_); refine goesX_ (some 37) rfl rfl #[.int .u64 (Go.bits .or .u64 (ji8) (ji11)), .int .u64 (Go.bits .and .u64 x2_1 a0), .int .u64 0] rfl (by (try simp only [List.map_toArray, List.map_cons, List.map_nil]); first | done | rfl) ?_; (with_reducible refine (bits_Add64.calls (Go.bits .or .u64 (ji8) (ji11)) (Go.bits .and .u64 x2_1 a0) 0 t103 t104 _ A14.out).mono ?_); rintro e w' ⟨rfl, ⟨nd, rfl⟩⟩; refine ⟨_, rfl, ?_⟩))
              (first | go_roundg k1 | (simp only [add_plain] at *; go_roundg k1))
              case measure => have := HK1.out; omega
              case rel => exact ⟨(IntKind.u64.wrap ((ji13) + t104)), (t103), (by first | rfl | (simp; done) | (simp only [← hji13] <;> (first | rfl | simp)) | (simp [*]; done)), (by first | rfl | (simp; done) | (simp [*]; done)), H', ⟨by have := HK1.out; omega⟩, by repeat (first | exact Drawn0.refl _ | apply Drawn0.step)⟩
            · rw [if_neg c10] at H
              exact absurd H (by simp)
          · rw [if_neg c7] at H
            exact absurd H (by simp)
        · rw [if_neg c6] at H
          have c6b0 : decide (a0 < x2_1) = false := decide_eq_false c6
          clear c6
          by_cases c15 : x2_1 = a0
          · rw [if_pos c15] at H
            have c15b0 : (x2_1 == a0) = true := beq_iff_eq.mpr c15
            have c15b1 : (x2_1 != a0) = false := bne_eq_false_iff_eq.mpr c15
            clear c15
            obtain rfl := Option.some.inj H
            go_wp2
            go_ret
            exact ⟨by first | rfl | (simp; done) | (simp [*]; done), by repeat (first | exact Drawn0.refl _ | apply Drawn0.step)⟩
          · rw [if_neg c15] at H
            have c15b0 : (x2_1 == a0) = false := beq_eq_false_iff_ne.mpr c15
            have c15b1 : (x2_1 != a0) = true := bne_iff_ne.mpr c15
            obtain rfl := Option.some.inj H
            go_wp2
            go_ret
            exact ⟨by first | rfl | (simp; done) | (simp [*]; done), by repeat (first | exact Drawn0.refl _ | apply Drawn0.step)⟩
      · rw [if_neg c5] at H
        have c5b0 : (x1_1 == 0) = false := beq_eq_false_iff_ne.mpr c5
        have c5b1 : (x1_1 != 0) = true := bne_iff_ne.mpr c5
        by_cases c16 : 0 ≤ t102
        · rw [if_pos c16] at H
          have c16b0 := eq_true c16
          have c16b1 : decide (0 ≤ t102) = true := decide_eq_true c16
          clear c16
          obtain ⟨ji17, hji17⟩ : ∃ j_ : Int, (shr .u64 x2_1 t102) = j_ := ⟨_, rfl⟩
          replace H : (if 0 ≤ (IntKind.u64.wrap (64 - t102)) then ((bits_Add64.f (Go.bits .or .u64 (ji17) (shl .u64 x1_1 (IntKind.u64.wrap (64 - t102)))) (Go.bits .and .u64 x2_1 a0) 0).bind fun bt105 => (field_fold.l0 k1 a0 (IntKind.u64.wrap ((shr .u64 x1_1 t102) + bt105.2)) bt105.1 t102)) else (none)) = some r := by first | (rw [hji17] at H; exact H) | (simp only [hji17] at H ⊢; exact H)
          have hji17_ : (x2_1 / 2 ^ min t102.toNat 64) = ji17 := hji17
          have hji17z : t102 ≤ 64 → (x2_1 / 2 ^ t102.toNat) = ji17 := shr_small hji17
          obtain ⟨ji18, hji18⟩ : ∃ j_ : Int, (IntKind.u64.wrap (64 - t102)) = j_ := ⟨_, rfl⟩
          replace H : (if 0 ≤ (ji18) then ((bits_Add64.f (Go.bits .or .u64 (ji17) (shl .u64 x1_1 (ji18))) (Go.bits .and .u64 x2_1 a0) 0).bind fun bt105 => (field_fold.l0 k1 a0 (IntKind.u64.wrap ((shr .u64 x1_1 t102) + bt105.2)) bt105.1 t102)) else (none)) = some r := by first | (rw [hji18] at H; exact H) | (simp only [hji18] at H ⊢; exact H)
          by_cases c19 : 0 ≤ (ji18)
          · rw [if_pos c19] at H
            have c19b0 := eq_true c19
            have c19b1 : decide (0 ≤ (ji18)) = true := decide_eq_true c19
            clear c19
            obtain ⟨ji20, hji20⟩ : ∃ j_ : Int, (shl .u64 x1_1 (ji18)) = j_ := ⟨_, rfl⟩
            replace H : ((bits_Add64.f (Go.bits .or .u64 (ji17) (ji20)) (Go.bits .and .u64 x2_1 a0) 0).bind fun bt105 => (field_fold.l0 k1 a0 (IntKind.u64.wrap ((shr .u64 x1_1 t102) + bt105.2)) bt105.1 t102)) = some r := by first | (rw [hji20] at H; exact H) | (simp only [hji20] at H ⊢; exact H)
            have hji20_ : (IntKind.u64.wrap (x1_1 * 2 ^ min (ji18).toNat 64)) = ji20 := hji20
            have hji20z : (ji18) ≤ 64 → (IntKind.u64.wrap (x1_1 * 2 ^ (ji18).toNat)) = ji20 := shl_small hji20
            have c21b0 := eq_true (of_decide_eq_true (by first | (with_reducible assumption) | assumption) : 0 ≤ t102)
            obtain ⟨ji22, hji22⟩ : ∃ j_ : Int, (shr .u64 x1_1 t102) = j_ := ⟨_, rfl⟩
            replace H : ((bits_Add64.f (Go.bits .or .u64 (ji17) (ji20)) (Go.bits .and .u64 x2_1 a0) 0).bind fun bt105 => (field_fold.l0 k1 a0 (IntKind.u64.wrap ((ji22) + bt105.2)) bt105.1 t102)) = some r := by first | (rw [hji22] at H; exact H) | (simp only [hji22] at H ⊢; exact H)
            have hji22_ : (x1_1 / 2 ^ min t102.toNat 64) = ji22 := hji22
            have hji22z : t102 ≤ 64 → (x1_1 / 2 ^ t102.toNat) = ji22 := shr_small hji22
            replace H := Option.bind_eq_some_iff.mp H
            obtain ⟨⟨t105, t106⟩, A230, H⟩ := H
            replace H : (field_fold.l0 k1 a0 (IntKind.u64.wrap ((ji22) + t106)) t105 t102) = some r := H
            have A23 := Aside0.mk A230
            clear A230
            have H' := Aside0.mk H
            clear H
            go_wp2_with (first | ((with_reducible refine gate_callee (f := 66) rfl ?_); refine goesX_ (some 37) rfl rfl #[.int .u64 (Go.bits .or .u64 (ji17) (ji20)), .int .u64 (Go.bits .and .u64 x2_1 a0), .int .u64 0] rfl (by (try simp only [List.map_toArray, List.map_cons, List.map_nil]); first | done | rfl) ?_; (with_reducible refine (bits_Add64.calls (Go.bits .or .u64 (ji17) (ji20)) (Go.bits .and .u64 x2_1 a0) 0 t105 t106 _ A23.out).mono ?_); rintro e w' ⟨rfl, ⟨nd, rfl⟩⟩; refine ⟨_, rfl, ?_⟩))
            (first | go_roundg k1 | (simp only [add_plain] at *; go_roundg k1))
            case measure => have := HK1.out; omega
            case rel => exact ⟨(IntKind.u64.wrap ((ji22) + t106)), (t105), (by first | rfl | (simp; done) | (simp only [← hji22] <;> (first | rfl | simp)) | (simp [*]; done)), (by first | rfl | (simp; done) | (simp [*]; done)), H', ⟨by have := HK1.out; omega⟩, by repeat (first | exact Drawn0.refl _ | apply Drawn0.step)⟩
          · rw [if_neg c19] at H
            exact absurd H (by simp)
        · rw [if_neg c16] at H
          exact absurd H (by simp)
def field_Add.f (k : Nat) (a0 : Int) (a1 : Int) (a2 : Int) : Option (Int) := (field_fold.f k a0 0 (IntKind.u64.wrap (a1 + a2))).bind fun t107 => (some t107)
theorem field_Add.mono : ∀ a0 a1 a2 k, LeO (field_Add.f k a0 a1 a2) (field_Add.f (k + 1) a0 a1 a2) := by
  intro a0 a1 a2 k
  unfold field_Add.f
  repeat' first
      | (with_reducible exact field_fold.mono _ _ _ _)
      | (with_reducible exact LeO.refl _)
      | (with_reducible exact LeO.none _)
      | (with_reducible refine LeO.ite ?_ ?_)
      | (with_reducible refine LeO.bind ?_ (fun _ => ?_))
      | exact field_fold.mono _ _ _ _
      | exact LeO.none _
      | refine LeO.ite ?_ ?_
      | refine LeO.bind ?_ (fun _ => ?_)
set_option maxHeartbeats 8000000 in
set_option maxRecDepth 100000 in
theorem field_Add.calls (k : Nat) (a0 : Int) (a1 : Int) (a2 : Int) (r : Int) (w : World) (h : field_Add.f k a0 a1 a2 = some r) :
    Calls Tryd.prog 56 #[.int .u64 a0, .int .u64 a1, .int .u64 a2] w fun e w' => e = .returned (.int .u64 r) ∧ Drawn0 w w' := by
  have H : ((field_fold.f k a0 0 (IntKind.u64.wrap (a1 + a2))).bind fun t107 => (some t107)) = some r := h
  clear h
  replace H := Option.bind_eq_some_iff.mp H
  obtain ⟨t107, A40, H⟩ := H
  replace H : (some t107) = some r := H
  have A4 := Aside0.mk A40
  clear A40
  obtain rfl := Option.some.inj H
  go_enter Tryd.func56, Tryd.ntmps56
  go_wp2_with (first | ((with_reducible refine gate_callee (f := 62) rfl ?_); refine goesL_ (some 11) rfl rfl Tryd.func62 (by kernel_rfl) rfl #[.int .u64 a0, .int .u64 0, .int .u64 (IntKind.u64.wrap (a1 + a2))] rfl (by (try simp only [List.map_toArray, List.map_cons, List.map_nil]); first | done | rfl | (simp only [List.length_drop, List.length_take]; rfl)) ?_; (with_reducible refine (field_fold.calls k a0 0 (IntKind.u64.wrap (a1 + a2)) t107 _ A4.out).mono ?_); rintro e w' ⟨rfl, ⟨nd, rfl⟩⟩; refine ⟨_, rfl, ?_⟩))
  go_ret
  exact ⟨by first | rfl | (simp; done) | (simp [*]; done), by repeat (first | exact Drawn0.refl _ | apply Drawn0.step)⟩
def bits_Mul64.f (a0 : Int) (a1 : Int) : Option (Int × Int) := some (IntKind.u64.wrap ((IntKind.u64.wrap ((IntKind.u64.wrap ((a0 / 4294967296) * (a1 / 4294967296))) + ((IntKind.u64.wrap ((IntKind.u64.wrap ((a0 / 4294967296) * (Go.bits .and .u64 a1 4294967295))) + ((IntKind.u64.wrap ((Go.bits .and .u64 a0 4294967295) * (Go.bits .and .u64 a1 4294967295))) / 4294967296))) / 4294967296))) + ((IntKind.u64.wrap ((Go.bits .and .u64 (IntKind.u64.wrap ((IntKind.u64.wrap ((a0 / 4294967296) * (Go.bits .and .u64 a1 4294967295))) + ((IntKind.u64.wrap ((Go.bits .and .u64 a0 4294967295) * (Go.bits .and .u64 a1 4294967295))) / 4294967296))) 4294967295) + (IntKind.u64.wrap ((Go.bits .and .u64 a0 4294967295) * (a1 / 4294967296))))) / 4294967296)), IntKind.u64.wrap (a0 * a1))
set_option maxHeartbeats 8000000 in
set_option maxRecDepth 100000 in
theorem bits_Mul64.calls (a0 : Int) (a1 : Int) (r1 : Int) (r2 : Int) (w : World) (h : bits_Mul64.f a0 a1 = some (r1, r2)) :
    Calls Tryd.prog 64 #[.int .u64 a0, .int .u64 a1] w fun e w' => e = .returned (.tuple #[.int .u64 r1, .int .u64 r2]) ∧ Drawn0 w w' := by
  have H : (some (IntKind.u64.wrap ((IntKind.u64.wrap ((IntKind.u64.wrap ((a0 / 4294967296) * (a1 / 4294967296))) + ((IntKind.u64.wrap ((IntKind.u64.wrap ((a0 / 4294967296) * (Go.bits .and .u64 a1 4294967295))) + ((IntKind.u64.wrap ((Go.bits .and .u64 a0 4294967295) * (Go.bits .and .u64 a1 4294967295))) / 4294967296))) / 4294967296))) + ((IntKind.u64.wrap ((Go.bits .and .u64 (IntKind.u64.wrap ((IntKind.u64.wrap ((a0 / 4294967296) * (Go.bits .and .u64 a1 4294967295))) + ((IntKind.u64.wrap ((Go.bits .and .u64 a0 4294967295) * (Go.bits .and .u64 a1 4294967295))) / 4294967296))) 4294967295) + (IntKind.u64.wrap ((Go.bits .and .u64 a0 4294967295) * (a1 / 4294967296))))) / 4294967296)), IntKind.u64.wrap (a0 * a1))) = some (r1, r2) := h
  clear h
  simp only [Option.some.injEq, Prod.mk.injEq] at H
  obtain ⟨rfl, rfl⟩ := H
  go_enter Tryd.func64, Tryd.ntmps64
  go_wp2
  go_ret2
  exact ⟨by first | rfl | (simp; done) | (simp [*]; done), by repeat (first | exact Drawn0.refl _ | apply Drawn0.step)⟩
def field_Mul.f (k : Nat) (a0 : Int) (a1 : Int) (a2 : Int) : Option (Int) := (bits_Mul64.f a1 a2).bind fun bt108 => ((field_fold.f k a0 bt108.1 bt108.2).bind fun t110 => (some t110))
theorem field_Mul.mono : ∀ a0 a1 a2 k, LeO (field_Mul.f k a0 a1 a2) (field_Mul.f (k + 1) a0 a1 a2) := by
  intro a0 a1 a2 k
  unfold field_Mul.f
  repeat' first
      | (with_reducible exact field_fold.mono _ _ _ _)
      | (with_reducible exact LeO.refl _)
      | (with_reducible exact LeO.none _)
      | (with_reducible refine LeO.ite ?_ ?_)
      | (with_reducible refine LeO.bind ?_ (fun _ => ?_))
      | exact field_fold.mono _ _ _ _
      | exact LeO.none _
      | refine LeO.ite ?_ ?_
      | refine LeO.bind ?_ (fun _ => ?_)
set_option maxHeartbeats 8000000 in
set_option maxRecDepth 100000 in
theorem field_Mul.calls (k : Nat) (a0 : Int) (a1 : Int) (a2 : Int) (r : Int) (w : World) (h : field_Mul.f k a0 a1 a2 = some r) :
    Calls Tryd.prog 60 #[.int .u64 a0, .int .u64 a1, .int .u64 a2] w fun e w' => e = .returned (.int .u64 r) ∧ Drawn0 w w' := by
  have H : ((bits_Mul64.f a1 a2).bind fun bt108 => ((field_fold.f k a0 bt108.1 bt108.2).bind fun t110 => (some t110))) = some r := h
  clear h
  replace H := Option.bind_eq_some_iff.mp H
  obtain ⟨⟨t108, t109⟩, A40, H⟩ := H
  replace H : ((field_fold.f k a0 t108 t109).bind fun t110 => (some t110)) = some r := H
  have A4 := Aside0.mk A40
  clear A40
  replace H := Option.bind_eq_some_iff.mp H
  obtain ⟨t110, A50, H⟩ := H
  replace H : (some t110) = some r := H
  have A5 := Aside0.mk A50
  clear A50
  obtain rfl := Option.some.inj H
  go_enter Tryd.func60, Tryd.ntmps60
  go_wp2_with (first | ((with_reducible refine gate_callee (f := 64) rfl ?_); refine goesL_ (some 12) rfl rfl Tryd.func64 (by kernel_rfl) rfl #[.int .u64 a1, .int .u64 a2] rfl (by (try simp only [List.map_toArray, List.map_cons, List.map_nil]); first | done | rfl | (simp only [List.length_drop, List.length_take]; rfl)) ?_; (with_reducible refine (bits_Mul64.calls a1 a2 t108 t109 _ A4.out).mono ?_); rintro e w' ⟨rfl, ⟨nd, rfl⟩⟩; refine ⟨_, rfl, ?_⟩) | ((with_reducible refine gate_callee (f := 62) rfl ?_); refine goesL_ (some 18) rfl rfl Tryd.func62 (by kernel_rfl) rfl #[.int .u64 a0, .int .u64 t108, .int .u64 t109] rfl (by (try simp only [List.map_toArray, List.map_cons, List.map_nil]); first | done | rfl | (simp only [List.length_drop, List.length_take]; rfl)) ?_; (with_reducible refine (field_fold.calls k a0 t108 t109 t110 _ A5.out).mono ?_); rintro e w' ⟨rfl, ⟨nd, rfl⟩⟩; refine ⟨_, rfl, ?_⟩))
  go_ret
  exact ⟨by first | rfl | (simp; done) | (simp [*]; done), by repeat (first | exact Drawn0.refl _ | apply Drawn0.step)⟩
def field_Neg.f (a0 : Int) (a1 : Int) : Option (Int) := if a1 = 0 then (some 0) else (some (IntKind.u64.wrap (a0 - a1)))
set_option maxHeartbeats 8000000 in
set_option maxRecDepth 100000 in
theorem field_Neg.calls (a0 : Int) (a1 : Int) (r : Int) (w : World) (h : field_Neg.f a0 a1 = some r) :
    Calls Tryd.prog 63 #[.int .u64 a0, .int .u64 a1] w fun e w' => e = .returned (.int .u64 r) ∧ Drawn0 w w' := by
  have H : (if a1 = 0 then (some 0) else (some (IntKind.u64.wrap (a0 - a1)))) = some r := h
  clear h
  by_cases c3 : a1 = 0
  · rw [if_pos c3] at H
    have c3b0 : (a1 == 0) = true := beq_iff_eq.mpr c3
    have c3b1 : (a1 != 0) = false := bne_eq_false_iff_eq.mpr c3
    clear c3
    obtain rfl := Option.some.inj H
    go_enter Tryd.func63, Tryd.ntmps63
    go_wp2
    go_ret
    exact ⟨by first | rfl | (simp; done) | (simp [*]; done), by repeat (first | exact Drawn0.refl _ | apply Drawn0.step)⟩
  · rw [if_neg c3] at H
    have c3b0 : (a1 == 0) = false := beq_eq_false_iff_ne.mpr c3
    have c3b1 : (a1 != 0) = true := bne_iff_ne.mpr c3
    obtain rfl := Option.some.inj H
    go_enter Tryd.func63, Tryd.ntmps63
    go_wp2
    go_ret
    exact ⟨by first | rfl | (simp; done) | (simp [*]; done), by repeat (first | exact Drawn0.refl _ | apply Drawn0.step)⟩
def field_Sub.f (k : Nat) (a0 : Int) (a1 : Int) (a2 : Int) : Option (Int) := (field_Neg.f a0 a2).bind fun t111 => ((field_Add.f k a0 a1 t111).bind fun t112 => (some t112))
theorem field_Sub.mono : ∀ a0 a1 a2 k, LeO (field_Sub.f k a0 a1 a2) (field_Sub.f (k + 1) a0 a1 a2) := by
  intro a0 a1 a2 k
  unfold field_Sub.f
  repeat' first
      | (with_reducible exact field_Add.mono _ _ _ _)
      | (with_reducible exact LeO.refl _)
      | (with_reducible exact LeO.none _)
      | (with_reducible refine LeO.ite ?_ ?_)
      | (with_reducible refine LeO.bind ?_ (fun _ => ?_))
      | exact field_Add.mono _ _ _ _
      | exact LeO.none _
      | refine LeO.ite ?_ ?_
      | refine LeO.bind ?_ (fun _ => ?_)
set_option maxHeartbeats 8000000 in
set_option maxRecDepth 100000 in
theorem field_Sub.calls (k : Nat) (a0 : Int) (a1 : Int) (a2 : Int) (r : Int) (w : World) (h : field_Sub.f k a0 a1 a2 = some r) :
    Calls Tryd.prog 58 #[.int .u64 a0, .int .u64 a1, .int .u64 a2] w fun e w' => e = .returned (.int .u64 r) ∧ Drawn0 w w' := by
  have H : ((field_Neg.f a0 a2).bind fun t111 => ((field_Add.f k a0 a1 t111).bind fun t112 => (some t112))) = some r := h
  clear h
  replace H := Option.bind_eq_some_iff.mp H
  obtain ⟨t111, A40, H⟩ := H
  replace H : ((field_Add.f k a0 a1 t111).bind fun t112 => (some t112)) = some r := H
  have A4 := Aside0.mk A40
  clear A40
  replace H := Option.bind_eq_some_iff.mp H
  obtain ⟨t112, A50, H⟩ := H
  replace H : (some t112) = some r := H
  have A5 := Aside0.mk A50
  clear A50
  obtain rfl := Option.some.inj H
  go_enter Tryd.func58, Tryd.ntmps58
  go_wp2_with (first | ((with_reducible refine gate_callee (f := 63) rfl ?_); refine goesL_ (some 11) rfl rfl Tryd.func63 (by kernel_rfl) rfl #[.int .u64 a0, .int .u64 a2] rfl (by (try simp only [List.map_toArray, List.map_cons, List.map_nil]); first | done | rfl | (simp only [List.length_drop, List.length_take]; rfl)) ?_; (with_reducible refine (field_Neg.calls a0 a2 t111 _ A4.out).mono ?_); rintro e w' ⟨rfl, ⟨nd, rfl⟩⟩; refine ⟨_, rfl, ?_⟩) | ((with_reducible refine gate_callee (f := 56) rfl ?_); refine goesL_ (some 12) rfl rfl Tryd.func56 (by kernel_rfl) rfl #[.int .u64 a0, .int .u64 a1, .int .u64 t111] rfl (by (try simp only [List.map_toArray, List.map_cons, List.map_nil]); first | done | rfl | (simp only [List.length_drop, List.length_take]; rfl)) ?_; (with_reducible refine (field_Add.calls k a0 a1 t111 t112 _ A5.out).mono ?_); rintro e w' ⟨rfl, ⟨nd, rfl⟩⟩; refine ⟨_, rfl, ?_⟩))
  go_ret
  exact ⟨by first | rfl | (simp; done) | (simp [*]; done), by repeat (first | exact Drawn0.refl _ | apply Drawn0.step)⟩
def privityref01_exps.f  : Option (List Int) := some (([5, 7, 13, 17, 19, 31, 61] : List Int))
def privityref01_Exponent.l0 : Nat → Int → List Int → Int → Option (Int)
  | 0, _, _, _ => none
  | k + 1, x0, x3, x4 => if x4 < (x3.length : Int) then (if 0 ≤ x4 then (if 0 ≤ (IntKind.u64.wrap (rd x3 x4)) then (if x0 = (IntKind.u64.wrap ((shl .u64 1 (IntKind.u64.wrap (rd x3 x4))) - 1)) then (some (rd x3 x4)) else (privityref01_Exponent.l0 k x0 x3 (wrap64 (x4 + 1)))) else (none)) else (none)) else (some 0)
def privityref01_Exponent.f (k : Nat) (a0 : Int) : Option (Int) := (privityref01_exps.f).bind fun t116 => (privityref01_Exponent.l0 k a0 t116 0)
theorem privityref01_Exponent.mono_l : ∀ k, (∀ y0 y1 y2, LeO (privityref01_Exponent.l0 k y0 y1 y2) (privityref01_Exponent.l0 (k + 1) y0 y1 y2))
  | 0 => fun _ _ _ r h => by simp [privityref01_Exponent.l0] at h
  | k + 1 => by
    have ih0 := privityref01_Exponent.mono_l k
    · intro y0 y1 y2
      unfold privityref01_Exponent.l0
      repeat' first
      | (with_reducible exact ih0 _ _ _)
      | (with_reducible exact LeO.refl _)
      | (with_reducible exact LeO.none _)
      | (with_reducible refine LeO.ite ?_ ?_)
      | (with_reducible refine LeO.bind ?_ (fun _ => ?_))
      | exact ih0 _ _ _
      | exact LeO.none _
      | refine LeO.ite ?_ ?_
      | refine LeO.bind ?_ (fun _ => ?_)
theorem privityref01_Exponent.mono : ∀ a0 k, LeO (privityref01_Exponent.f k a0) (privityref01_Exponent.f (k + 1) a0) := by
  intro a0 k
  have ih0 := privityref01_Exponent.mono_l k
  unfold privityref01_Exponent.f
  repeat' first
      | (with_reducible exact ih0 _ _ _)
      | (with_reducible exact LeO.refl _)
      | (with_reducible exact LeO.none _)
      | (with_reducible refine LeO.ite ?_ ?_)
      | (with_reducible refine LeO.bind ?_ (fun _ => ?_))
      | exact ih0 _ _ _
      | exact LeO.none _
      | refine LeO.ite ?_ ?_
      | refine LeO.bind ?_ (fun _ => ?_)
def privityref01_Supported.f (k : Nat) (a0 : Int) : Option (Bool) := (privityref01_Exponent.f k a0).bind fun t121 => (some (decide (t121 > 0)))
theorem privityref01_Supported.mono : ∀ a0 k, LeO (privityref01_Supported.f k a0) (privityref01_Supported.f (k + 1) a0) := by
  intro a0 k
  unfold privityref01_Supported.f
  repeat' first
      | (with_reducible exact privityref01_Exponent.mono _ _)
      | (with_reducible exact LeO.refl _)
      | (with_reducible exact LeO.none _)
      | (with_reducible refine LeO.ite ?_ ?_)
      | (with_reducible refine LeO.bind ?_ (fun _ => ?_))
      | exact privityref01_Exponent.mono _ _
      | exact LeO.none _
      | refine LeO.ite ?_ ?_
      | refine LeO.bind ?_ (fun _ => ?_)
end Go.Proofs.YtjpaichcaaacbabDoor.PF
end
namespace Go.Proofs.YtjpaichcaaacbabDoor.PF
end Go.Proofs.YtjpaichcaaacbabDoor.PF
section
namespace Go.Proofs.YtjpaichcaaacbabDoor.FEv
open Go.RowKit Go.Proofs.YtjpaichcaaacbabDoorW.PrintWords Go.Proofs.YtjpaichcaaacbabDoorW.PrintMore Go.Proofs.YtjpaichcaaacbabDoor.PF Go.Proofs.YtjpaichcaaacbabDoorNum
theorem Ev.eq {α : Type} {r r' : α} (h : r = r') : Ev (fun _ => some r) r' := h ▸ Ev.now r
theorem Ev.to {α : Type} {g : Nat → Option α} {r r' : α} (h : Ev g r) (e : r = r') : Ev g r' := e ▸ h
theorem w64 (n : Int) : IntKind.u64.wrap n = n % 18446744073709551616 := by simp [IntKind.wrap, IntKind.bits, IntKind.signed]
theorem w64_in {n : Int} (h0 : 0 ≤ n) (h1 : n < 18446744073709551616) : IntKind.u64.wrap n = n := by rw [w64]; omega
theorem wraps_u64 (n : Int) (h0 : 0 ≤ n) (h1 : n < 2 ^ 64) : IntKind.u64.wrap n = n := w64_in h0 (by omega)
theorem and_mask (i : Nat) (hi : i ≤ 64) (x : Int) (h0 : 0 ≤ x) (h1 : x < 18446744073709551616) : Go.bits .and .u64 x (2 ^ i - 1) = x % 2 ^ i :=
  bits_mask .u64 64 (by decide) wraps_u64 i hi x h0 (by omega)
theorem or_join (i : Nat) (x y : Int) (hx0 : 0 ≤ x) (hx : x % 2 ^ i = 0) (hx1 : x < 18446744073709551616) (hy0 : 0 ≤ y) (hy : y < 2 ^ i) (hy1 : y < 18446744073709551616) : Go.bits .or .u64 y x = x + y := by
  rw [← bits_join .u64 64 (by decide) wraps_u64 i x y hx0 hx (by omega) hy0 hy (by omega)]
  obtain ⟨a, rfl⟩ := Int.eq_ofNat_of_zero_le hx0
  obtain ⟨b, rfl⟩ := Int.eq_ofNat_of_zero_le hy0
  rw [(bits_nat .u64 64 (by decide) wraps_u64 b a (by omega) (by omega)).2, (bits_nat .u64 64 (by decide) wraps_u64 a b (by omega) (by omega)).2, Nat.or_comm]
/-- One step of fold at the exponent q: what 'hi' and 'lo' become. -/
theorem fold_step (q : Nat) (Q R : Int) (hQ : (2 : Int) ^ q = Q) (hR : (2 : Int) ^ (64 - q) = R) (hq0 : 0 < q) (hq : q < 64) (hi lo : Int) (h3 : 0 ≤ lo) (h4 : lo < 18446744073709551616)
    (hQR : Q * R = 18446744073709551616) (hQ2 : 2 ≤ Q) (hR2 : 2 ≤ R) :
    Go.bits .or .u64 (shr .u64 lo q) (shl .u64 hi (IntKind.u64.wrap (64 - q))) = lo / Q + (hi % Q) * R ∧ Go.bits .and .u64 lo (Q - 1) = lo % Q ∧ shr .u64 hi q = hi / Q ∧ 0 ≤ lo / Q + (hi % Q) * R := by
  have e64 : IntKind.u64.bits = 64 := rfl
  have s1 : ∀ x : Int, shr .u64 x q = x / Q := by
    intro x
    unfold shr
    rw [e64, Int.toNat_natCast, Nat.min_eq_left (by omega), hQ]
  have hR0 : 0 < R := by omega
  have s2 : shl .u64 hi (IntKind.u64.wrap (64 - q)) = (hi % Q) * R := by
    unfold shl
    rw [w64_in (n := 64 - (q : Int)) (by omega) (by omega), e64, show ((64 : Int) - q).toNat = 64 - q by omega, Nat.min_eq_left (by omega), hR, w64]
    rw [← hQR]
    rw [Int.mul_comm Q R, Int.mul_comm hi R, Int.mul_emod_mul_of_pos _ _ hR0, Int.mul_comm]
  have b1 : 0 ≤ hi % Q := Int.emod_nonneg _ (by omega)
  have b2 : hi % Q < Q := Int.emod_lt_of_pos _ (by omega)
  have b3 : 0 ≤ lo / Q := Int.ediv_nonneg h3 (by omega)
  have b4 : lo / Q < R := by
    apply Int.ediv_lt_of_lt_mul (by omega)
    rw [Int.mul_comm, hQR]
    exact h4
  have b5 : 0 ≤ (hi % Q) * R := Int.mul_nonneg b1 (by omega)
  have b6 : (hi % Q) * R + R ≤ Q * R := by
    have : (hi % Q + 1) * R ≤ Q * R := Int.mul_le_mul_of_nonneg_right (by omega) (by omega)
    rwa [Int.add_mul, Int.one_mul] at this
  rw [hQR] at b6
  refine ⟨?_, ?_, s1 hi, by omega⟩
  · rw [s1, s2, or_join (64 - q) _ _ b5 (by rw [hR]; exact Int.mul_emod_left _ _) (by omega) b3 (by rw [hR]; exact b4) (by omega)]
    omega
  · rw [← hQ]
    exact and_mask q (by omega) lo h3 h4
theorem l0_ev (p : Int) (q : Nat) (Q R : Int) (hQ : (2 : Int) ^ q = Q) (hR : (2 : Int) ^ (64 - q) = R) (hq0 : 0 < q) (hq : q < 64) (hp : p = Q - 1) (hQR : Q * R = 18446744073709551616) (hQ2 : 3 ≤ Q) (hR2 : 2 ≤ R) :
    ∀ (n : Nat) (hi lo : Int), 0 ≤ hi → hi < 18446744073709551616 → 0 ≤ lo → lo < 18446744073709551616 → hi * 18446744073709551616 + lo = n →
      Ev (fun k => field_fold.l0 k p hi lo q) ((hi * 18446744073709551616 + lo) % p) := by
  intro n
  induction n using Nat.strongRecOn with
  | _ n ih =>
  intro hi lo h1 h2 h3 h4 hn
  subst hp
  -- the step
  have stp : hi ≠ 0 ∨ lo > Q - 1 → Ev (fun k => (bits_Add64.f (Go.bits .or .u64 (shr .u64 lo q) (shl .u64 hi (IntKind.u64.wrap (64 - q)))) (Go.bits .and .u64 lo (Q - 1)) 0).bind fun bt => field_fold.l0 k (Q - 1) (IntKind.u64.wrap ((shr .u64 hi q) + bt.2)) bt.1 q) ((hi * 18446744073709551616 + lo) % (Q - 1)) := by
    intro hbig
    obtain ⟨s1, s2, s3, s4⟩ := fold_step q Q R hQ hR hq0 hq hi lo h3 h4 hQR (by omega) hR2
    rw [s1, s2, s3]
    have b1 : 0 ≤ lo % Q := Int.emod_nonneg _ (by omega)
    have b1' : lo % Q < Q := Int.emod_lt_of_pos _ (by omega)
    have ea : bits_Add64.f (lo / Q + (hi % Q) * R) (lo % Q) 0 = some ((lo / Q + (hi % Q) * R + lo % Q + 0) % 18446744073709551616, (lo / Q + (hi % Q) * R + lo % Q + 0) / 18446744073709551616) := by
      unfold bits_Add64.f
      rw [if_pos ⟨s4, b1, by omega, by omega⟩]
    rw [ea]
    simp only [Option.bind_some, Int.add_zero]
    -- the numbers
    obtain ⟨S, hS⟩ : ∃ S, lo / Q + (hi % Q) * R + lo % Q = S := ⟨_, rfl⟩
    rw [hS]
    have hi1 : hi = Q * (hi / Q) + hi % Q := (Int.mul_ediv_add_emod hi Q).symm
    have lo1 : lo = Q * (lo / Q) + lo % Q := (Int.mul_ediv_add_emod lo Q).symm
    have c1 : 0 ≤ hi / Q := Int.ediv_nonneg h1 (by omega)
    have c2 : 0 ≤ lo / Q := Int.ediv_nonneg h3 (by omega)
    have c3 : 0 ≤ hi % Q := Int.emod_nonneg _ (by omega)
    -- hi * 2^64 + lo = Q * D + lo % Q, D = (hi/Q) * 2^64 + (hi%Q) * R + lo/Q
    have hD : hi * 18446744073709551616 + lo = Q * ((hi / Q) * 18446744073709551616 + (hi % Q) * R + lo / Q) + lo % Q := by
      rw [← hQR]
      have e1 : hi * (Q * R) = (Q * (hi / Q) + hi % Q) * (Q * R) := by rw [← hi1]
      have e2 : (Q * (hi / Q) + hi % Q) * (Q * R) = Q * ((hi / Q) * (Q * R) + (hi % Q) * R) := by grind
      rw [e1, e2]
      have e3 : Q * (hi / Q * (Q * R) + hi % Q * R + lo / Q) + lo % Q = Q * (hi / Q * (Q * R) + hi % Q * R) + (Q * (lo / Q) + lo % Q) := by grind
      rw [e3, ← lo1]
    obtain ⟨D, hDD⟩ : ∃ D, (hi / Q) * 18446744073709551616 + (hi % Q) * R + lo / Q = D := ⟨_, rfl⟩
    rw [hDD] at hD
    have hnew : (hi / Q) * 18446744073709551616 + S = D + lo % Q := by omega
    have hS0 : 0 ≤ S := by have := Int.mul_nonneg c3 (show (0:Int) ≤ R by omega); omega
    have hD0 : 0 ≤ D := by have := Int.mul_nonneg c3 (show (0:Int) ≤ R by omega); omega
    have hQb : Q * 2 ≤ Q * R := Int.mul_le_mul_of_nonneg_left hR2 (by omega)
    rw [hQR] at hQb
    -- D is at least 1
    have hD1 : 1 ≤ D := by
      rcases Int.lt_or_le D 1 with h | h
      · have : D = 0 := by omega
        rw [this, Int.mul_zero] at hD
        omega
      · exact h
    have hQD : Q * D ≥ 3 * D := Int.mul_le_mul_of_nonneg_right hQ2 hD0
    have hless : D + lo % Q < hi * 18446744073709551616 + lo := by omega
    have hhi' : hi / Q + S / 18446744073709551616 < 18446744073709551616 := by
      have : S / 18446744073709551616 * 18446744073709551616 ≤ S := by omega
      have h9 : (hi / Q + S / 18446744073709551616) * 18446744073709551616 ≤ D + lo % Q := by omega
      omega
    rw [w64_in (by omega) hhi']
    have hsum : (hi / Q + S / 18446744073709551616) * 18446744073709551616 + S % 18446744073709551616 = D + lo % Q := by omega
    have h := ih (D + lo % Q).toNat (by omega) (hi / Q + S / 18446744073709551616) (S % 18446744073709551616) (by omega) hhi' (by omega) (by omega) (by omega)
    refine Ev.to h ?_
    rw [hsum, hD]
    have e4 : Q * D + lo % Q = (D + lo % Q) + (Q - 1) * D := by grind
    rw [e4, Int.add_mul_emod_self_left]
  have hw : (0 : Int) ≤ IntKind.u64.wrap (64 - q) := by rw [w64_in (by omega) (by omega)]; omega
  by_cases c : hi = 0
  · by_cases c2 : lo > Q - 1
    · refine Ev.step (fun k => by rw [field_fold.l0, if_pos c, if_pos c2, if_pos (by omega), if_pos hw]) (stp (.inr c2))
    · refine Ev.step (f := fun k => some ((hi * 18446744073709551616 + lo) % (Q - 1))) (fun k => ?_) (Ev.now _)
      rw [field_fold.l0, if_pos c, if_neg c2]
      subst c
      by_cases c3 : lo = Q - 1
      · rw [if_pos c3, c3]; simp
      · rw [if_neg c3]
        congr 1
        rw [Int.emod_eq_of_lt (by omega) (by omega)]
        omega
  · refine Ev.step (fun k => by rw [field_fold.l0, if_neg c, if_pos (by omega), if_pos hw]) (stp (.inl c))
theorem width_eq {p : Nat} (hp : Sup p) : ∃ q : Nat, 2 ^ q = p + 1 ∧ 2 < q ∧ q < 64 ∧ field_width.f (p : Int) = some (q : Int) := by
  have key : ∀ q : Nat, q < 64 → Lib.bitLen (2 ^ q - 1) = q → 2 ^ q - 1 < 18446744073709551616 → field_width.f ((2 ^ q - 1 : Nat) : Int) = some (q : Int) := by
    intro q hq h h2
    unfold field_width.f bits_Len64.f
    rw [if_pos ⟨by omega, by omega⟩, Int.toNat_natCast, h]
    simp only [Option.bind_some]
    rw [w64_in (by omega) (by omega)]
  rcases hp with rfl | rfl | rfl | rfl | rfl | rfl | rfl
  · exact ⟨5, by decide, by decide, by decide, key 5 (by decide) (by decide +kernel) (by decide)⟩
  · exact ⟨7, by decide, by decide, by decide, key 7 (by decide) (by decide +kernel) (by decide)⟩
  · exact ⟨13, by decide, by decide, by decide, key 13 (by decide) (by decide +kernel) (by decide)⟩
  · exact ⟨17, by decide, by decide, by decide, key 17 (by decide) (by decide +kernel) (by decide)⟩
  · exact ⟨19, by decide, by decide, by decide, key 19 (by decide) (by decide +kernel) (by decide)⟩
  · exact ⟨31, by decide, by decide, by decide, key 31 (by decide) (by decide +kernel) (by decide)⟩
  · exact ⟨61, by decide, by decide, by decide, key 61 (by decide) (by decide +kernel) (by decide)⟩
theorem fold_ev {p : Nat} (hp : Sup p) (hi lo : Int) (h1 : 0 ≤ hi) (h2 : hi < 18446744073709551616) (h3 : 0 ≤ lo) (h4 : lo < 18446744073709551616) :
    Ev (fun k => field_fold.f k p hi lo) ((hi * 18446744073709551616 + lo) % p) := by
  obtain ⟨q, hq, hq0, hq64, hw⟩ := width_eq hp
  refine Ev.congr (f := fun k => field_fold.l0 k p hi lo q) (fun k => by unfold field_fold.f; rw [hw]; rfl) ?_
  have hl := hp.le
  have hQ : (2 : Int) ^ q = (p : Int) + 1 := by
    have : ((2 ^ q : Nat) : Int) = ((p + 1 : Nat) : Int) := by rw [hq]
    simpa using this
  have hmul : (2 : Int) ^ q * 2 ^ (64 - q) = 18446744073709551616 := by
    rw [← Int.pow_add, Nat.add_sub_cancel' (by omega)]
    rfl
  have hR2 : (2 : Int) ≤ 2 ^ (64 - q) := by
    have h : (2 : Nat) ^ 1 ≤ 2 ^ (64 - q) := Nat.pow_le_pow_right (by decide) (by omega)
    have h5 : ((2 ^ 1 : Nat) : Int) ≤ ((2 ^ (64 - q) : Nat) : Int) := Int.ofNat_le.2 h
    simpa using h5
  exact l0_ev p q ((p : Int) + 1) (2 ^ (64 - q)) hQ rfl (by omega) hq64 (by omega) (by rw [← hQ]; exact hmul) (by omega) hR2 (hi * 18446744073709551616 + lo).toNat hi lo h1 h2 h3 h4 (by omega)
section
variable {p : Nat}
def V (a : Fin p) : Int := (a.val : Int)
theorem V_inj {a b : Fin p} : V a = V b ↔ a = b := by
  unfold V
  constructor
  · intro h; exact Fin.ext (by omega)
  · rintro rfl; rfl
theorem V_nonneg (a : Fin p) : 0 ≤ V a := Int.natCast_nonneg _
theorem V_lt (a : Fin p) : V a < p := by unfold V; have := a.isLt; omega
theorem V64 (hp : Sup p) (a : Fin p) : 0 ≤ V a ∧ V a < 2305843009213693951 := ⟨V_nonneg a, by have := V_lt a; have := hp.le; omega⟩
theorem V_mul (a b : Fin p) : (V a * V b) % p = V (a * b) := by
  unfold V
  rw [Fin.val_mul, Int.natCast_emod, Int.natCast_mul]
theorem V_add (a b : Fin p) : (V a + V b) % p = V (a + b) := by
  unfold V
  rw [Fin.val_add, Int.natCast_emod, Int.natCast_add]
end
section
variable {p : Nat}
theorem V_zero [NeZero p] : V (0 : Fin p) = 0 := rfl
theorem V_eq_zero [NeZero p] {a : Fin p} : V a = 0 ↔ a = 0 := by rw [← V_zero (p := p), V_inj]
/-- The element of a number. -/
def E [NeZero p] (x : Int) : Fin p := el x.toNat
theorem V_E [NeZero p] {x : Int} (h0 : 0 ≤ x) : V (E x : Fin p) = x % p := by
  unfold V E
  rw [el_val, Int.natCast_emod, Int.toNat_of_nonneg h0]
theorem V_E_lt [NeZero p] {x : Int} (h0 : 0 ≤ x) (h1 : x < p) : V (E x : Fin p) = x := by rw [V_E h0, Int.emod_eq_of_lt h0 h1]
theorem V_neg [NeZero p] {a : Fin p} (ha : a ≠ 0) : V (-a) = p - V a := by
  have h : (-a).val = (p - a.val) % p := by rw [Fin.neg_def]
  have h2 : a.val ≠ 0 := fun h => ha (Fin.ext h)
  unfold V
  rw [h, Nat.mod_eq_of_lt (by omega)]
  have := a.isLt
  omega
theorem mul64 (x y : Int) (hx : 0 ≤ x) (hx1 : x < 18446744073709551616) (hy : 0 ≤ y) (hy1 : y < 18446744073709551616) :
    ∃ h l, bits_Mul64.f x y = some (h, l) ∧ 0 ≤ h ∧ h < 18446744073709551616 ∧ 0 ≤ l ∧ l < 18446744073709551616 ∧ h * 18446744073709551616 + l = x * y := by
  have m1 : Go.bits .and .u64 x 4294967295 = x % 4294967296 := and_mask 32 (by decide) x hx hx1
  have m2 : Go.bits .and .u64 y 4294967295 = y % 4294967296 := and_mask 32 (by decide) y hy hy1
  unfold bits_Mul64.f
  rw [m1, m2]
  obtain ⟨x0, hx0⟩ : ∃ x0, x % 4294967296 = x0 := ⟨_, rfl⟩
  obtain ⟨x1, hx1'⟩ : ∃ x1, x / 4294967296 = x1 := ⟨_, rfl⟩
  obtain ⟨y0, hy0⟩ : ∃ y0, y % 4294967296 = y0 := ⟨_, rfl⟩
  obtain ⟨y1, hy1'⟩ : ∃ y1, y / 4294967296 = y1 := ⟨_, rfl⟩
  rw [hx0, hx1', hy0, hy1']
  have bx0 : 0 ≤ x0 ∧ x0 ≤ 4294967295 := by omega
  have bx1 : 0 ≤ x1 ∧ x1 ≤ 4294967295 := by omega
  have by0 : 0 ≤ y0 ∧ y0 ≤ 4294967295 := by omega
  have by1 : 0 ≤ y1 ∧ y1 ≤ 4294967295 := by omega
  have ex : x = x1 * 4294967296 + x0 := by omega
  have ey : y = y1 * 4294967296 + y0 := by omega
  have exy : x * y = (x1 * y1) * 18446744073709551616 + (x1 * y0 + x0 * y1) * 4294967296 + x0 * y0 := by
    rw [ex, ey]
    grind
  have bnd : ∀ a b : Int, 0 ≤ a → a ≤ 4294967295 → 0 ≤ b → b ≤ 4294967295 → 0 ≤ a * b ∧ a * b ≤ 4294967295 * 4294967295 :=
    fun a b h1 h2 h3 h4 => ⟨Int.mul_nonneg h1 h3, Int.mul_le_mul h2 h4 h3 (by omega)⟩
  have b00 := bnd x0 y0 bx0.1 bx0.2 by0.1 by0.2
  have b01 := bnd x0 y1 bx0.1 bx0.2 by1.1 by1.2
  have b10 := bnd x1 y0 bx1.1 bx1.2 by0.1 by0.2
  have b11 := bnd x1 y1 bx1.1 bx1.2 by1.1 by1.2
  rw [exy]
  generalize x0 * y0 = A at *
  generalize x0 * y1 = B at *
  generalize x1 * y0 = C at *
  generalize x1 * y1 = D at *
  have r1 : (C + A / 4294967296) % 4294967296 = Go.bits .and .u64 (C + A / 4294967296) 4294967295 := (and_mask 32 (by decide) _ (by omega) (by omega)).symm
  simp only [w64]
  rw [Int.emod_eq_of_lt (a := A) (by omega) (by omega), Int.emod_eq_of_lt (a := C) (by omega) (by omega), Int.emod_eq_of_lt (a := C + A / 4294967296) (by omega) (by omega), ← r1]
  refine ⟨_, _, rfl, by omega, by omega, by omega, by omega, ?_⟩
  have e2 : (D * 18446744073709551616 + (C + B) * 4294967296 + A) % 18446744073709551616 = ((C + B) * 4294967296 + A) % 18446744073709551616 := by omega
  rw [e2]
  omega
theorem mul_ev [NeZero p] (hp : Sup p) (a b : Fin p) : Ev (fun k => field_Mul.f k p (V a) (V b)) (V (a * b)) := by
  obtain ⟨ha0, ha1⟩ := V64 hp a
  obtain ⟨hb0, hb1⟩ := V64 hp b
  obtain ⟨h, l, e, h0, h1, l0, l1, hl⟩ := mul64 (V a) (V b) ha0 (by omega) hb0 (by omega)
  unfold field_Mul.f
  rw [e]
  simp only [Option.bind_some]
  refine Ev.bind (fold_ev hp h l h0 h1 l0 l1) (Ev.eq ?_)
  rw [hl, V_mul]
theorem add_ev [NeZero p] (hp : Sup p) (a b : Fin p) : Ev (fun k => field_Add.f k p (V a) (V b)) (V (a + b)) := by
  obtain ⟨ha0, ha1⟩ := V64 hp a
  obtain ⟨hb0, hb1⟩ := V64 hp b
  unfold field_Add.f
  rw [w64_in (by omega) (by omega)]
  refine Ev.bind (fold_ev hp 0 _ (by omega) (by omega) (by omega) (by omega)) (Ev.eq ?_)
  rw [← V_add]
  simp
theorem neg_eq [NeZero p] (hp : Sup p) (a : Fin p) : field_Neg.f p (V a) = some (V (-a)) := by
  obtain ⟨ha0, ha1⟩ := V64 hp a
  unfold field_Neg.f
  by_cases h : a = 0
  · subst h
    rw [if_pos V_zero]
    have : -(0 : Fin p) = 0 := by grind
    rw [this, V_zero]
  · rw [if_neg (fun e => h (V_eq_zero.1 e)), V_neg h, w64_in]
    · have := V_lt a; omega
    · have := hp.le; omega
theorem sub_ev [NeZero p] (hp : Sup p) (a b : Fin p) : Ev (fun k => field_Sub.f k p (V a) (V b)) (V (a - b)) := by
  unfold field_Sub.f
  rw [neg_eq hp]
  simp only [Option.bind_some]
  refine Ev.bind (add_ev hp a (-b)) (Ev.eq ?_)
  rw [V_inj]
  grind
end
end Go.Proofs.YtjpaichcaaacbabDoor.FEv
end
namespace Go.Proofs.YtjpaichcaaacbabDoor.FEv
end Go.Proofs.YtjpaichcaaacbabDoor.FEv

-- Written by this session's program (wip/mkprint.py, wip/prx.sh) over the seat's translation. Lean checks it.
import Derived.Test.YtjkggiemnfigbaaProg
import Derived.Below
import Derived.Deep.Draws
import Derived.Deep.AppendLies
import Derived.Maps.AppendAt
import Derived.OwnWalk
import Derived.Laws.BytesArg
import Derived.Laws.MakeOwn
import Derived.Laws.OwnMore
import Derived.Deep.OwnRows
import Derived.Tactics
import Derived.Lib.ConvBytes
import Derived.Laws.Slices
import Derived.WalkKit
import Derived.KernelRfl
import Derived.RowKit3
import Derived.Deep.LoopGhost
import Derived.Deep.QuietTactic
import Derived.BigQuiet
import Derived.WideLaws
import Derived.Deep.DeepCutAuto
import Derived.Deep.CutBlock
import Derived.Deep.RegionHeld3
import Derived.Laws.Rows
import Derived.Lib.AppendStr
import Derived.ArgAppend
import Derived.Laws.IdiomCopy
import Derived.OrdersHeld
import Derived.Laws.BitsLemmas
import Derived.RowKit
import Derived.Laws.Externs
import Derived.Test.YtjkggiemnfigbaaShelf
import Derived.Test.YtjkggiemnfigbaaWWords
import Derived.Test.YtjkggiemnfigbaaWLast
import Derived.Test.YtjkggiemnfigbaaWTab
import Derived.Test.YtjkggiemnfigbaaWFour
import Derived.Test.YtjkggiemnfigbaaWQPut
import Derived.Test.YtjkggiemnfigbaaWApart
import Derived.Test.YtjkggiemnfigbaaWArr
import Derived.Test.YtjkggiemnfigbaaWZeros
import Derived.Test.YtjkggiemnfigbaaWFoot
import Derived.Test.YtjkggiemnfigbaaWKept
import Derived.Test.YtjkggiemnfigbaaWShare
import Derived.Test.YtjkggiemnfigbaaWN
import Derived.Test.YtjkggiemnfigbaaWFootNe
import Derived.Test.YtjkggiemnfigbaaWAt
import Derived.Test.YtjkggiemnfigbaaWEqStruct
import Derived.Test.YtjkggiemnfigbaaWRepsOne
import Derived.Test.YtjkggiemnfigbaaWInv
import Derived.Test.YtjkggiemnfigbaaWInvWords
import Derived.Test.YtjkggiemnfigbaaWGuard
import Derived.Test.YtjkggiemnfigbaaWNEv
import Derived.Test.YtjkggiemnfigbaaWMore
namespace Go.Proofs.Ytjkggiemnfigbaa.PF
open Go.RowKit Go.Proofs.YtjkggiemnfigbaaW.PrintWords Go.Proofs.YtjkggiemnfigbaaW.PrintLast Go.Proofs.YtjkggiemnfigbaaW.PrintMore
attribute [local go_sem] max2_int min2_int max_two min_two max_three min_three max_four min_four   -- for this text's walks alone
set_option linter.unusedVariables false
set_option linter.unusedSimpArgs false



def errW : Option Int → Value
  | none => .nilIface
  | some c => .iface 0 (.int .i64 c)
theorem errW_none : errW none = .nilIface := rfl
theorem errW_some (c : Int) : errW (some c) = .iface 0 (.int .i64 c) := rfl

theorem info3 : (Try.prog.info? 3).map (fun i => (i.zero, i.size, i.bytes)) = some (some (.int .i64 0), 1, 8) := by kernel_rfl
-- the values' own types


/-- What the laid array holds. -/
def Gl (w : World) : Prop := w.cell? ⟨0, 0, none⟩ = some (.int .i64 5) ∧ w.cell? ⟨0, 1, none⟩ = some (.int .i64 7) ∧ w.cell? ⟨0, 2, none⟩ = some (.int .i64 13) ∧ w.cell? ⟨0, 3, none⟩ = some (.int .i64 17) ∧ w.cell? ⟨0, 4, none⟩ = some (.int .i64 19) ∧ w.cell? ⟨0, 5, none⟩ = some (.int .i64 31) ∧ w.cell? ⟨0, 6, none⟩ = some (.int .i64 61)
theorem Gl.below {w w1 : World} (h : Gl w) (hb : Below w.heap.size w w1) : Gl w1 :=
  ⟨pw_cell_below hb h.1, pw_cell_below hb h.2.1, pw_cell_below hb h.2.2.1, pw_cell_below hb h.2.2.2.1, pw_cell_below hb h.2.2.2.2.1, pw_cell_below hb h.2.2.2.2.2.1, pw_cell_below hb h.2.2.2.2.2.2⟩
theorem Gl.drawn {w w1 : World} (h : Gl w) (hd : Drawn0 w w1) : Gl w1 := h.below hd.below
/-- A call of a function without a body, for which the model has an entry: it yields its value at once. -/
def CallsX (P : Program) (f : FuncId) (args : Array Value) (w : World) (R : Ending → World → Prop) : Prop := ∃ v, (callFunc f args).run P w = .ok (.value v) w ∧ R (.returned v) w
theorem CallsX.mono {P : Program} {f : FuncId} {args : Array Value} {w : World} {R R' : Ending → World → Prop} (h : CallsX P f args w R) (hr : ∀ e w', R e w' → R' e w') : CallsX P f args w R' := by
  obtain ⟨v, hv, h⟩ := h
  exact ⟨v, hv, hr _ _ h⟩
section
variable {P : Program} {ops : Array Oper} {Q : Exit → Act → World → Prop}
theorem goesX_ {rest : List Oper} {oi : Oper} {a : Act} {w : World} (N : Option Tmp) (hd : oi.dst = N) (hg : oi.guard = none) {f : FuncId} {as1 : Array Operand} {ts : Array TypeId} (args : Array Value)
    (hop : oi.op = .call { callee := .value (.func f), args := as1, argTypes := ts }) (hargs : as1.map a.eval = args)
    (h : CallsX P f args w fun e w' => ∃ v, e = .returned v ∧ wpList P ops Q rest (a.put N v) w') : wpList P ops Q (oi :: rest) a w := by
  refine wpList_plain hg fun K hK => ?_
  obtain ⟨v, hv, v', he, h⟩ := h
  have hrun : (execOp a.eval oi).run P w = .ok (.value v) w := by
    unfold execOp
    simp [hop, resolve, Deferred.ofValue, invoke, Act.eval, hargs, hv]
  unfold Oper.wp
  rw [hrun, Oper.upon_value]
  injection he with he
  subst he
  subst hd
  exact hK _ _ h
end

end Go.Proofs.Ytjkggiemnfigbaa.PF

/- Part J of: The statement OptimizeDuplicates: the law answers true whatever its arguments; no condition. -/
import Derived.Test.YtjpaichcaaacbaaDoorZOptimizeDuplicatesI
import Derived.KernelRfl
import Derived.Test.YtjpaichcaaacbaaDoorProg
section
set_option linter.unusedVariables false
set_option linter.unusedSimpArgs false
set_option maxRecDepth 100000
namespace Go.Proofs.YtjpaichcaaacbaaDoor.HL
open Go
def optimize_sides.ann : Ann := ⟨fun k => [], fun k => false, fun k => []⟩
def optimize_sides.sh (base : Nat) (x0 : Int) (H0 : HH) (K : Value → HH → Prop) : Prop :=
 if ((x0 : Int) == 3) = true then
 if ((x0 : Int) == 3) = true then
 K (.tuple #[(.bool true), (.bool true)]) H0
 else
 if ((x0 : Int) == 5) = true then
 K (.tuple #[(.bool true), (.bool false)]) H0
 else
 K (.tuple #[(.bool false), (.bool false)]) H0
 else
 if ((x0 : Int) == 4) = true then
 if ((x0 : Int) == 4) = true then
 K (.tuple #[(.bool true), (.bool true)]) H0
 else
 if ((x0 : Int) == 5) = true then
 K (.tuple #[(.bool true), (.bool false)]) H0
 else
 K (.tuple #[(.bool false), (.bool false)]) H0
 else
 if ((x0 : Int) == 6) = true then
 K (.tuple #[(.bool true), (.bool true)]) H0
 else
 if ((x0 : Int) == 5) = true then
 K (.tuple #[(.bool true), (.bool false)]) H0
 else
 K (.tuple #[(.bool false), (.bool false)]) H0
theorem optimize_sides.spec {base : Nat} {x0 : Int} {H0 : HH} {K : Value → HH → Prop} (h : optimize_sides.sh base x0 H0 K) : HCall Tryd.prog base 49 #[(.int .i64 x0)] H0 K := spec_of_wpC (n := 11) (ann := optimize_sides.ann) mix Tryd.func49 (by kernel_rfl) (cast (show optimize_sides.sh base x0 H0 K = wpC Tryd.prog base 11 optimize_sides.ann (bodyOf Tryd.f49) (ofL [(.int .i64 x0)]) H0 (retQ Tryd.prog 11 Tryd.f49 K) by kernel_rfl) h)
def optimize_either.ann : Ann := ⟨fun k => [], fun k => false, fun k => []⟩
def optimize_either.sh (base : Nat) (x0 : Int) (H0 : HH) (K : Value → HH → Prop) : Prop :=
 if ((x0 : Int) == 3) = false then
 K (.bool (((x0 : Int) == 6))) H0
 else
 K (.bool true) H0
theorem optimize_either.spec {base : Nat} {x0 : Int} {H0 : HH} {K : Value → HH → Prop} (h : optimize_either.sh base x0 H0 K) : HCall Tryd.prog base 65 #[(.int .i64 x0)] H0 K := spec_of_wpC (n := 9) (ann := optimize_either.ann) mix Tryd.func65 (by kernel_rfl) (cast (show optimize_either.sh base x0 H0 K = wpC Tryd.prog base 9 optimize_either.ann (bodyOf Tryd.f65) (ofL [(.int .i64 x0)]) H0 (retQ Tryd.prog 9 Tryd.f65 K) by kernel_rfl) h)
def optimize_firsts.ann : Ann := ⟨fun k => [], fun k => bif Nat.beq k 12 then true else bif Nat.beq k 14 then true else bif Nat.beq k 16 then true else bif Nat.beq k 20 then true else false, fun k => bif Nat.beq k 4 then [3, 4, 14, 15, 16] else bif Nat.beq k 12 then [3, 4, 5, 6, 7, 9, 14, 15, 16] else bif Nat.beq k 14 then [3, 4, 5, 6, 7, 14, 15, 16] else bif Nat.beq k 16 then [3, 4, 5, 7, 14, 15, 16] else bif Nat.beq k 20 then [3, 4, 10, 14, 15, 16] else []⟩
def optimize_firsts.P0 (base : Nat) (l : List Value) (H0 : HH) (K : Value → HH → Prop) : Prop := HCodeL Tryd.prog base 87 (codeAt [.r, .r, .r, .l, .r, .b] (bodyOf Tryd.f48)) [3, 4, 14, 15, 16] l H0 (qAt Tryd.prog base 87 optimize_firsts.ann [.r, .r, .r, .l, .r, .b] [] (bodyOf Tryd.f48) (retQ Tryd.prog 87 Tryd.f48 K))
def optimize_firsts.R0 (base : Nat) (N0 : Value → Value → HH → Prop) (l : List Value) (H0 : HH) (K : Value → HH → Prop) : Prop := HCodeL Tryd.prog base 87 (codeAt [.r, .r, .r, .l, .r, .b, .lp, .r, .r, .l, .b, .r, .r, .r, .r, .r] (bodyOf Tryd.f48)) [3, 4, 5, 6, 7, 9, 14, 15, 16] l H0 (qAt Tryd.prog base 87 optimize_firsts.ann [.r, .r, .r, .l, .r, .b, .lp, .r, .r, .l, .b, .r, .r, .r, .r, .r] [fun fr H => N0 (fr 4) (fr 16) H] (bodyOf Tryd.f48) (retQ Tryd.prog 87 Tryd.f48 K))
def optimize_firsts.R1 (base : Nat) (N0 : Value → Value → HH → Prop) (l : List Value) (H0 : HH) (K : Value → HH → Prop) : Prop := HCodeL Tryd.prog base 87 (codeAt [.r, .r, .r, .l, .r, .b, .lp, .r, .r, .l, .b, .r, .r, .r, .r, .r, .r] (bodyOf Tryd.f48)) [3, 4, 5, 6, 7, 14, 15, 16] l H0 (qAt Tryd.prog base 87 optimize_firsts.ann [.r, .r, .r, .l, .r, .b, .lp, .r, .r, .l, .b, .r, .r, .r, .r, .r, .r] [fun fr H => N0 (fr 4) (fr 16) H] (bodyOf Tryd.f48) (retQ Tryd.prog 87 Tryd.f48 K))
def optimize_firsts.R2 (base : Nat) (N0 : Value → Value → HH → Prop) (l : List Value) (H0 : HH) (K : Value → HH → Prop) : Prop := HCodeL Tryd.prog base 87 (codeAt [.r, .r, .r, .l, .r, .b, .lp, .r, .r, .l, .b, .r, .r, .r, .r, .r, .r, .r] (bodyOf Tryd.f48)) [3, 4, 5, 7, 14, 15, 16] l H0 (qAt Tryd.prog base 87 optimize_firsts.ann [.r, .r, .r, .l, .r, .b, .lp, .r, .r, .l, .b, .r, .r, .r, .r, .r, .r, .r] [fun fr H => N0 (fr 4) (fr 16) H] (bodyOf Tryd.f48) (retQ Tryd.prog 87 Tryd.f48 K))
def optimize_firsts.R3 (base : Nat) (N0 : Value → Value → HH → Prop) (l : List Value) (H0 : HH) (K : Value → HH → Prop) : Prop := HCodeL Tryd.prog base 87 (codeAt [.r, .r, .r, .l, .r, .b, .lp, .r, .r, .l, .b, .r, .r, .r, .r, .r, .r, .r, .r, .r] (bodyOf Tryd.f48)) [3, 4, 10, 14, 15, 16] l H0 (qAt Tryd.prog base 87 optimize_firsts.ann [.r, .r, .r, .l, .r, .b, .lp, .r, .r, .l, .b, .r, .r, .r, .r, .r, .r, .r, .r, .r] [fun fr H => N0 (fr 4) (fr 16) H] (bodyOf Tryd.f48) (retQ Tryd.prog 87 Tryd.f48 K))
def optimize_firsts.S0 (base : Nat) (N0 : Value → Value → HH → Prop) (x3 : Option Nat) (Ax4 : Option Addr) (lx4 cx4 : Nat) (x5 : Int) (x6 x7 : Addr) (x9 : Bool) (Ax14 : Option Addr) (lx14 cx14 : Nat) (x15 x16 : Int) (H0 : HH) (K : Value → HH → Prop) : Prop :=
 if x9 = true then
 ∃ a51 : Addr, AQ Tryd.prog (Instr.fieldAt 37 (.pointer ((some x6))) 3) (.pointer ((some a51))) ∧
 ∃ n52 : Int, QRun Tryd.prog (Instr.loadAt 3 (.pointer ((some a51)))) H0 (.int .i64 n52) ∧
 ∃ a53 : Addr, AQ Tryd.prog (Instr.indexAt 24 (.slice Ax4 lx4 cx4) (.int .i64 n52)) (.pointer ((some a53))) ∧
 ∃ n54 : Int, QRun Tryd.prog (Instr.loadAt 3 (.pointer ((some a53)))) H0 (.int .i64 n54) ∧
 ∃ a55 : Addr, AQ Tryd.prog (Instr.fieldAt 82 (.pointer ((some x7))) 2) (.pointer ((some a55))) ∧
 HRun Tryd.prog base (Instr.storeAt 3 (.pointer ((some a55))) (.int .i64 n54)) H0 fun _ H56 =>
 optimize_firsts.R1 base N0 [(.map x3), (.slice Ax4 lx4 cx4), (.int .i64 x5), (.pointer ((some x6))), (.pointer ((some x7))), (.slice Ax14 lx14 cx14), (.int .i64 x15), (.int .i64 x16)] H56 K
 else
 optimize_firsts.R1 base N0 [(.map x3), (.slice Ax4 lx4 cx4), (.int .i64 x5), (.pointer ((some x6))), (.pointer ((some x7))), (.slice Ax14 lx14 cx14), (.int .i64 x15), (.int .i64 x16)] H0 K
def optimize_firsts.T0 (base : Nat) (N0 : Value → Value → HH → Prop) (x3 : Option Nat) (Ax4 : Option Addr) (lx4 cx4 : Nat) (x5 : Int) (x6 x7 : Addr) (x9 : Bool) (Ax14 : Option Addr) (lx14 cx14 : Nat) (x15 x16 : Int) (H0 : HH) (K : Value → HH → Prop) : Prop := optimize_firsts.S0 base N0 x3 Ax4 lx4 cx4 x5 x6 x7 x9 Ax14 lx14 cx14 x15 x16 H0 K
theorem optimize_firsts.rest0 {base : Nat} {N0 : Value → Value → HH → Prop} {x3 : Option Nat} {Ax4 : Option Addr} {lx4 cx4 : Nat} {x5 : Int} {x6 x7 : Addr} {x9 : Bool} {Ax14 : Option Addr} {lx14 cx14 : Nat} {x15 x16 : Int} {H0 : HH} {K : Value → HH → Prop} (h : optimize_firsts.S0 base N0 x3 Ax4 lx4 cx4 x5 x6 x7 x9 Ax14 lx14 cx14 x15 x16 H0 K) : optimize_firsts.R0 base N0 [(.map x3), (.slice Ax4 lx4 cx4), (.int .i64 x5), (.pointer ((some x6))), (.pointer ((some x7))), (.bool x9), (.slice Ax14 lx14 cx14), (.int .i64 x15), (.int .i64 x16)] H0 K := by
  refine wpCL_sound (ann := optimize_firsts.ann) mix (fun fr ⟨e3, e4, e5, e6, e7, e9, e14, e15, e16, _⟩ => ?_)
  rw [← ov_eq (g := fr) [(3, (.map x3)), (4, (.slice Ax4 lx4 cx4)), (5, (.int .i64 x5)), (6, (.pointer ((some x6)))), (7, (.pointer ((some x7)))), (9, (.bool x9)), (14, (.slice Ax14 lx14 cx14)), (15, (.int .i64 x15)), (16, (.int .i64 x16))] (by simp only [List.mem_cons, List.not_mem_nil, or_false, forall_eq_or_imp, forall_eq, false_implies, implies_true]; exact ⟨e3, e4, e5, e6, e7, e9, e14, e15, e16⟩)]
  exact cast (show optimize_firsts.S0 base N0 x3 Ax4 lx4 cx4 x5 x6 x7 x9 Ax14 lx14 cx14 x15 x16 H0 K = wpC Tryd.prog base 87 optimize_firsts.ann (codeAt [.r, .r, .r, .l, .r, .b, .lp, .r, .r, .l, .b, .r, .r, .r, .r, .r] (bodyOf Tryd.f48)) (ov fr [(3, (.map x3)), (4, (.slice Ax4 lx4 cx4)), (5, (.int .i64 x5)), (6, (.pointer ((some x6)))), (7, (.pointer ((some x7)))), (9, (.bool x9)), (14, (.slice Ax14 lx14 cx14)), (15, (.int .i64 x15)), (16, (.int .i64 x16))]) H0 (qAt Tryd.prog base 87 optimize_firsts.ann [.r, .r, .r, .l, .r, .b, .lp, .r, .r, .l, .b, .r, .r, .r, .r, .r] [fun fr H => N0 (fr 4) (fr 16) H] (bodyOf Tryd.f48) (retQ Tryd.prog 87 Tryd.f48 K)) by kernel_rfl) h
theorem optimize_firsts.cut0 {base : Nat} {N0 : Value → Value → HH → Prop} {x3 : Option Nat} {Ax4 : Option Addr} {lx4 cx4 : Nat} {x5 : Int} {x6 x7 : Addr} {x9 : Bool} {Ax14 : Option Addr} {lx14 cx14 : Nat} {x15 x16 : Int} {H0 : HH} {K : Value → HH → Prop} (h : optimize_firsts.T0 base N0 x3 Ax4 lx4 cx4 x5 x6 x7 x9 Ax14 lx14 cx14 x15 x16 H0 K) : optimize_firsts.R0 base N0 [(.map x3), (.slice Ax4 lx4 cx4), (.int .i64 x5), (.pointer ((some x6))), (.pointer ((some x7))), (.bool x9), (.slice Ax14 lx14 cx14), (.int .i64 x15), (.int .i64 x16)] H0 K := optimize_firsts.rest0 h
def optimize_firsts.S1 (base : Nat) (N0 : Value → Value → HH → Prop) (x3 : Option Nat) (Ax4 : Option Addr) (lx4 cx4 : Nat) (x5 : Int) (x6 x7 : Addr) (Ax14 : Option Addr) (lx14 cx14 : Nat) (x15 x16 : Int) (H0 : HH) (K : Value → HH → Prop) : Prop :=
 ∃ a57 : Addr, AQ Tryd.prog (Instr.fieldAt 37 (.pointer ((some x6))) 0) (.pointer ((some a57))) ∧
 ∃ n58 : Int, QRun Tryd.prog (Instr.loadAt 3 (.pointer ((some a57)))) H0 (.int .i64 n58) ∧
 HCall Tryd.prog base 65 #[(.int .i64 n58)] H0 fun v59 H60 =>
 ∃ b61 : Bool, v59 = (.bool b61) ∧ if b61 = true then
 ∃ a62 : Addr, AQ Tryd.prog (Instr.fieldAt 82 (.pointer ((some x7))) 1) (.pointer ((some a62))) ∧
 ∃ n63 : Int, QRun Tryd.prog (Instr.loadAt 3 (.pointer ((some a62)))) H60 (.int .i64 n63) ∧
 ∃ a64 : Addr, AQ Tryd.prog (Instr.fieldAt 82 (.pointer ((some x7))) 2) (.pointer ((some a64))) ∧
 ∃ n65 : Int, QRun Tryd.prog (Instr.loadAt 3 (.pointer ((some a64)))) H60 (.int .i64 n65) ∧
 if (decide ((n63 : Int) > n65)) = true then
 ∃ a66 : Addr, AQ Tryd.prog (Instr.fieldAt 82 (.pointer ((some x7))) 2) (.pointer ((some a66))) ∧
 ∃ n67 : Int, QRun Tryd.prog (Instr.loadAt 3 (.pointer ((some a66)))) H60 (.int .i64 n67) ∧
 ∃ a68 : Addr, AQ Tryd.prog (Instr.fieldAt 82 (.pointer ((some x7))) 1) (.pointer ((some a68))) ∧
 ∃ n69 : Int, QRun Tryd.prog (Instr.loadAt 3 (.pointer ((some a68)))) H60 (.int .i64 n69) ∧
 ∃ a70 : Addr, AQ Tryd.prog (Instr.fieldAt 82 (.pointer ((some x7))) 1) (.pointer ((some a70))) ∧
 HRun Tryd.prog base (Instr.storeAt 3 (.pointer ((some a70))) (.int .i64 n67)) H60 fun _ H71 =>
 ∃ a72 : Addr, AQ Tryd.prog (Instr.fieldAt 82 (.pointer ((some x7))) 2) (.pointer ((some a72))) ∧
 HRun Tryd.prog base (Instr.storeAt 3 (.pointer ((some a72))) (.int .i64 n69)) H71 fun _ H73 =>
 optimize_firsts.R2 base N0 [(.map x3), (.slice Ax4 lx4 cx4), (.int .i64 x5), (.pointer ((some x7))), (.slice Ax14 lx14 cx14), (.int .i64 x15), (.int .i64 x16)] H73 K
 else
 optimize_firsts.R2 base N0 [(.map x3), (.slice Ax4 lx4 cx4), (.int .i64 x5), (.pointer ((some x7))), (.slice Ax14 lx14 cx14), (.int .i64 x15), (.int .i64 x16)] H60 K
 else
 optimize_firsts.R2 base N0 [(.map x3), (.slice Ax4 lx4 cx4), (.int .i64 x5), (.pointer ((some x7))), (.slice Ax14 lx14 cx14), (.int .i64 x15), (.int .i64 x16)] H60 K
def optimize_firsts.T1 (base : Nat) (N0 : Value → Value → HH → Prop) (x3 : Option Nat) (Ax4 : Option Addr) (lx4 cx4 : Nat) (x5 : Int) (x6 x7 : Addr) (Ax14 : Option Addr) (lx14 cx14 : Nat) (x15 x16 : Int) (H0 : HH) (K : Value → HH → Prop) : Prop := optimize_firsts.S1 base N0 x3 Ax4 lx4 cx4 x5 x6 x7 Ax14 lx14 cx14 x15 x16 H0 K
theorem optimize_firsts.rest1 {base : Nat} {N0 : Value → Value → HH → Prop} {x3 : Option Nat} {Ax4 : Option Addr} {lx4 cx4 : Nat} {x5 : Int} {x6 x7 : Addr} {Ax14 : Option Addr} {lx14 cx14 : Nat} {x15 x16 : Int} {H0 : HH} {K : Value → HH → Prop} (h : optimize_firsts.S1 base N0 x3 Ax4 lx4 cx4 x5 x6 x7 Ax14 lx14 cx14 x15 x16 H0 K) : optimize_firsts.R1 base N0 [(.map x3), (.slice Ax4 lx4 cx4), (.int .i64 x5), (.pointer ((some x6))), (.pointer ((some x7))), (.slice Ax14 lx14 cx14), (.int .i64 x15), (.int .i64 x16)] H0 K := by
  refine wpCL_sound (ann := optimize_firsts.ann) mix (fun fr ⟨e3, e4, e5, e6, e7, e14, e15, e16, _⟩ => ?_)
  rw [← ov_eq (g := fr) [(3, (.map x3)), (4, (.slice Ax4 lx4 cx4)), (5, (.int .i64 x5)), (6, (.pointer ((some x6)))), (7, (.pointer ((some x7)))), (14, (.slice Ax14 lx14 cx14)), (15, (.int .i64 x15)), (16, (.int .i64 x16))] (by simp only [List.mem_cons, List.not_mem_nil, or_false, forall_eq_or_imp, forall_eq, false_implies, implies_true]; exact ⟨e3, e4, e5, e6, e7, e14, e15, e16⟩)]
  exact cast (show optimize_firsts.S1 base N0 x3 Ax4 lx4 cx4 x5 x6 x7 Ax14 lx14 cx14 x15 x16 H0 K = wpC Tryd.prog base 87 optimize_firsts.ann (codeAt [.r, .r, .r, .l, .r, .b, .lp, .r, .r, .l, .b, .r, .r, .r, .r, .r, .r] (bodyOf Tryd.f48)) (ov fr [(3, (.map x3)), (4, (.slice Ax4 lx4 cx4)), (5, (.int .i64 x5)), (6, (.pointer ((some x6)))), (7, (.pointer ((some x7)))), (14, (.slice Ax14 lx14 cx14)), (15, (.int .i64 x15)), (16, (.int .i64 x16))]) H0 (qAt Tryd.prog base 87 optimize_firsts.ann [.r, .r, .r, .l, .r, .b, .lp, .r, .r, .l, .b, .r, .r, .r, .r, .r, .r] [fun fr H => N0 (fr 4) (fr 16) H] (bodyOf Tryd.f48) (retQ Tryd.prog 87 Tryd.f48 K)) by kernel_rfl) h
theorem optimize_firsts.cut1 {base : Nat} {N0 : Value → Value → HH → Prop} {x3 : Option Nat} {Ax4 : Option Addr} {lx4 cx4 : Nat} {x5 : Int} {x6 x7 : Addr} {Ax14 : Option Addr} {lx14 cx14 : Nat} {x15 x16 : Int} {H0 : HH} {K : Value → HH → Prop} (h : optimize_firsts.T1 base N0 x3 Ax4 lx4 cx4 x5 x6 x7 Ax14 lx14 cx14 x15 x16 H0 K) : optimize_firsts.R1 base N0 [(.map x3), (.slice Ax4 lx4 cx4), (.int .i64 x5), (.pointer ((some x6))), (.pointer ((some x7))), (.slice Ax14 lx14 cx14), (.int .i64 x15), (.int .i64 x16)] H0 K := optimize_firsts.rest1 h
def optimize_firsts.S2 (base : Nat) (N0 : Value → Value → HH → Prop) (x3 : Option Nat) (Ax4 : Option Addr) (lx4 cx4 : Nat) (x5 : Int) (x7 : Addr) (Ax14 : Option Addr) (lx14 cx14 : Nat) (x15 x16 : Int) (H0 : HH) (K : Value → HH → Prop) : Prop :=
 ∃ n74 : Int, ∃ n75 : Int, ∃ n76 : Int, ∃ n77 : Int, QRun Tryd.prog (Instr.loadAt 82 (.pointer ((some x7)))) H0 (.agg #[(.int .i64 n74), (.int .i64 n75), (.int .i64 n76), (.int .u64 n77)]) ∧
 ∃ n78 : Int, ∃ b79 : Bool, QRun Tryd.prog (Instr.lookup 80 (.map x3) (.agg #[(.int .i64 n74), (.int .i64 n75), (.int .i64 n76), (.int .u64 n77)]) true) H0 (.tuple #[(.int .i64 n78), (.bool b79)]) ∧
 if (!b79) = true then
 ∃ n80 : Int, ∃ n81 : Int, ∃ n82 : Int, ∃ n83 : Int, QRun Tryd.prog (Instr.loadAt 82 (.pointer ((some x7)))) H0 (.agg #[(.int .i64 n80), (.int .i64 n81), (.int .i64 n82), (.int .u64 n83)]) ∧
 HRun Tryd.prog base (Instr.mapUpdate 80 (.map x3) (.agg #[(.int .i64 n80), (.int .i64 n81), (.int .i64 n82), (.int .u64 n83)]) (.int .i64 x5)) H0 fun _ H84 =>
 optimize_firsts.R3 base N0 [(.map x3), (.slice Ax4 lx4 cx4), (.int .i64 x5), (.slice Ax14 lx14 cx14), (.int .i64 x15), (.int .i64 x16)] H84 K
 else
 optimize_firsts.R3 base N0 [(.map x3), (.slice Ax4 lx4 cx4), (.int .i64 n78), (.slice Ax14 lx14 cx14), (.int .i64 x15), (.int .i64 x16)] H0 K
def optimize_firsts.T2 (base : Nat) (N0 : Value → Value → HH → Prop) (x3 : Option Nat) (Ax4 : Option Addr) (lx4 cx4 : Nat) (x5 : Int) (x7 : Addr) (Ax14 : Option Addr) (lx14 cx14 : Nat) (x15 x16 : Int) (H0 : HH) (K : Value → HH → Prop) : Prop := optimize_firsts.S2 base N0 x3 Ax4 lx4 cx4 x5 x7 Ax14 lx14 cx14 x15 x16 H0 K
theorem optimize_firsts.rest2 {base : Nat} {N0 : Value → Value → HH → Prop} {x3 : Option Nat} {Ax4 : Option Addr} {lx4 cx4 : Nat} {x5 : Int} {x7 : Addr} {Ax14 : Option Addr} {lx14 cx14 : Nat} {x15 x16 : Int} {H0 : HH} {K : Value → HH → Prop} (h : optimize_firsts.S2 base N0 x3 Ax4 lx4 cx4 x5 x7 Ax14 lx14 cx14 x15 x16 H0 K) : optimize_firsts.R2 base N0 [(.map x3), (.slice Ax4 lx4 cx4), (.int .i64 x5), (.pointer ((some x7))), (.slice Ax14 lx14 cx14), (.int .i64 x15), (.int .i64 x16)] H0 K := by
  refine wpCL_sound (ann := optimize_firsts.ann) mix (fun fr ⟨e3, e4, e5, e7, e14, e15, e16, _⟩ => ?_)
  rw [← ov_eq (g := fr) [(3, (.map x3)), (4, (.slice Ax4 lx4 cx4)), (5, (.int .i64 x5)), (7, (.pointer ((some x7)))), (14, (.slice Ax14 lx14 cx14)), (15, (.int .i64 x15)), (16, (.int .i64 x16))] (by simp only [List.mem_cons, List.not_mem_nil, or_false, forall_eq_or_imp, forall_eq, false_implies, implies_true]; exact ⟨e3, e4, e5, e7, e14, e15, e16⟩)]
  exact cast (show optimize_firsts.S2 base N0 x3 Ax4 lx4 cx4 x5 x7 Ax14 lx14 cx14 x15 x16 H0 K = wpC Tryd.prog base 87 optimize_firsts.ann (codeAt [.r, .r, .r, .l, .r, .b, .lp, .r, .r, .l, .b, .r, .r, .r, .r, .r, .r, .r] (bodyOf Tryd.f48)) (ov fr [(3, (.map x3)), (4, (.slice Ax4 lx4 cx4)), (5, (.int .i64 x5)), (7, (.pointer ((some x7)))), (14, (.slice Ax14 lx14 cx14)), (15, (.int .i64 x15)), (16, (.int .i64 x16))]) H0 (qAt Tryd.prog base 87 optimize_firsts.ann [.r, .r, .r, .l, .r, .b, .lp, .r, .r, .l, .b, .r, .r, .r, .r, .r, .r, .r] [fun fr H => N0 (fr 4) (fr 16) H] (bodyOf Tryd.f48) (retQ Tryd.prog 87 Tryd.f48 K)) by kernel_rfl) h
theorem optimize_firsts.cut2 {base : Nat} {N0 : Value → Value → HH → Prop} {x3 : Option Nat} {Ax4 : Option Addr} {lx4 cx4 : Nat} {x5 : Int} {x7 : Addr} {Ax14 : Option Addr} {lx14 cx14 : Nat} {x15 x16 : Int} {H0 : HH} {K : Value → HH → Prop} (h : optimize_firsts.T2 base N0 x3 Ax4 lx4 cx4 x5 x7 Ax14 lx14 cx14 x15 x16 H0 K) : optimize_firsts.R2 base N0 [(.map x3), (.slice Ax4 lx4 cx4), (.int .i64 x5), (.pointer ((some x7))), (.slice Ax14 lx14 cx14), (.int .i64 x15), (.int .i64 x16)] H0 K := optimize_firsts.rest2 h
def optimize_firsts.S3 (base : Nat) (N0 : Value → Value → HH → Prop) (x3 : Option Nat) (Ax4 : Option Addr) (lx4 cx4 : Nat) (x10 : Int) (Ax14 : Option Addr) (lx14 cx14 : Nat) (x15 x16 : Int) (H0 : HH) (K : Value → HH → Prop) : Prop :=
 HRun Tryd.prog base (Instr.buildSlice 24 1 #[(0, (.int .i64 x10))]) H0 fun v85 H86 =>
 ∃ (A87 : Option Addr) (l87 c87 : Nat), v85 = (.slice A87 l87 c87) ∧ HRun Tryd.prog base (Builtin.append_ #[24, 24] 24 #[(.slice Ax4 lx4 cx4), (.slice A87 l87 c87)]) H86 fun v88 H89 =>
 ∃ (A90 : Option Addr) (l90 c90 : Nat), v88 = (.slice A90 l90 c90) ∧ N0 (.slice A90 l90 c90) (.int .i64 ((IntKind.i64.wrap (x16 + 1)))) H89
def optimize_firsts.T3 (base : Nat) (N0 : Value → Value → HH → Prop) (x3 : Option Nat) (Ax4 : Option Addr) (lx4 cx4 : Nat) (x10 : Int) (Ax14 : Option Addr) (lx14 cx14 : Nat) (x15 x16 : Int) (H0 : HH) (K : Value → HH → Prop) : Prop := optimize_firsts.S3 base N0 x3 Ax4 lx4 cx4 x10 Ax14 lx14 cx14 x15 x16 H0 K
theorem optimize_firsts.rest3 {base : Nat} {N0 : Value → Value → HH → Prop} {x3 : Option Nat} {Ax4 : Option Addr} {lx4 cx4 : Nat} {x10 : Int} {Ax14 : Option Addr} {lx14 cx14 : Nat} {x15 x16 : Int} {H0 : HH} {K : Value → HH → Prop} (h : optimize_firsts.S3 base N0 x3 Ax4 lx4 cx4 x10 Ax14 lx14 cx14 x15 x16 H0 K) : optimize_firsts.R3 base N0 [(.map x3), (.slice Ax4 lx4 cx4), (.int .i64 x10), (.slice Ax14 lx14 cx14), (.int .i64 x15), (.int .i64 x16)] H0 K := by
  refine wpCL_sound (ann := optimize_firsts.ann) mix (fun fr ⟨e3, e4, e10, e14, e15, e16, _⟩ => ?_)
  rw [← ov_eq (g := fr) [(3, (.map x3)), (4, (.slice Ax4 lx4 cx4)), (10, (.int .i64 x10)), (14, (.slice Ax14 lx14 cx14)), (15, (.int .i64 x15)), (16, (.int .i64 x16))] (by simp only [List.mem_cons, List.not_mem_nil, or_false, forall_eq_or_imp, forall_eq, false_implies, implies_true]; exact ⟨e3, e4, e10, e14, e15, e16⟩)]
  exact cast (show optimize_firsts.S3 base N0 x3 Ax4 lx4 cx4 x10 Ax14 lx14 cx14 x15 x16 H0 K = wpC Tryd.prog base 87 optimize_firsts.ann (codeAt [.r, .r, .r, .l, .r, .b, .lp, .r, .r, .l, .b, .r, .r, .r, .r, .r, .r, .r, .r, .r] (bodyOf Tryd.f48)) (ov fr [(3, (.map x3)), (4, (.slice Ax4 lx4 cx4)), (10, (.int .i64 x10)), (14, (.slice Ax14 lx14 cx14)), (15, (.int .i64 x15)), (16, (.int .i64 x16))]) H0 (qAt Tryd.prog base 87 optimize_firsts.ann [.r, .r, .r, .l, .r, .b, .lp, .r, .r, .l, .b, .r, .r, .r, .r, .r, .r, .r, .r, .r] [fun fr H => N0 (fr 4) (fr 16) H] (bodyOf Tryd.f48) (retQ Tryd.prog 87 Tryd.f48 K)) by kernel_rfl) h
theorem optimize_firsts.cut3 {base : Nat} {N0 : Value → Value → HH → Prop} {x3 : Option Nat} {Ax4 : Option Addr} {lx4 cx4 : Nat} {x10 : Int} {Ax14 : Option Addr} {lx14 cx14 : Nat} {x15 x16 : Int} {H0 : HH} {K : Value → HH → Prop} (h : optimize_firsts.T3 base N0 x3 Ax4 lx4 cx4 x10 Ax14 lx14 cx14 x15 x16 H0 K) : optimize_firsts.R3 base N0 [(.map x3), (.slice Ax4 lx4 cx4), (.int .i64 x10), (.slice Ax14 lx14 cx14), (.int .i64 x15), (.int .i64 x16)] H0 K := optimize_firsts.rest3 h
def optimize_firsts.sh (base : Nat) (x0_0 : Int) (Ax0_1 : Option Addr) (lx0_1 cx0_1 : Nat) (Ax0_2 : Option Addr) (lx0_2 cx0_2 : Nat) (H0 : HH) (K : Value → HH → Prop) : Prop :=
 HRun Tryd.prog base (Instr.box 26 (.agg #[(.int .u64 x0_0), (.slice Ax0_1 lx0_1 cx0_1), (.slice Ax0_2 lx0_2 cx0_2)])) H0 fun v1 H2 =>
 ∃ a3 : Addr, v1 = (.pointer ((some a3))) ∧ HRun Tryd.prog base (Instr.makeMap 80 none) H2 fun v4 H5 =>
 ∃ r6 : Option Nat, v4 = (.map r6) ∧ ∃ a7 : Addr, AQ Tryd.prog (Instr.fieldAt 26 (.pointer ((some a3))) 1) (.pointer ((some a7))) ∧
 ∃ (A8 : Option Addr) (l8 c8 : Nat), QRun Tryd.prog (Instr.loadAt 23 (.pointer ((some a7)))) H5 (.slice A8 l8 c8) ∧
 optimize_firsts.P0 base [(.map r6), (.slice none 0 0), (.slice A8 l8 c8), (.int .i64 (((l8 : Nat) : Int))), (.int .i64 0)] H5 K
theorem optimize_firsts.spec {base : Nat} {x0_0 : Int} {Ax0_1 : Option Addr} {lx0_1 cx0_1 : Nat} {Ax0_2 : Option Addr} {lx0_2 cx0_2 : Nat} {H0 : HH} {K : Value → HH → Prop} (h : optimize_firsts.sh base x0_0 Ax0_1 lx0_1 cx0_1 Ax0_2 lx0_2 cx0_2 H0 K) : HCall Tryd.prog base 48 #[(.agg #[(.int .u64 x0_0), (.slice Ax0_1 lx0_1 cx0_1), (.slice Ax0_2 lx0_2 cx0_2)])] H0 K := spec_of_wpC (n := 87) (ann := optimize_firsts.ann) mix Tryd.func48 (by kernel_rfl) (cast (show optimize_firsts.sh base x0_0 Ax0_1 lx0_1 cx0_1 Ax0_2 lx0_2 cx0_2 H0 K = wpC Tryd.prog base 87 optimize_firsts.ann (bodyOf Tryd.f48) (ofL [(.agg #[(.int .u64 x0_0), (.slice Ax0_1 lx0_1 cx0_1), (.slice Ax0_2 lx0_2 cx0_2)])]) H0 (retQ Tryd.prog 87 Tryd.f48 K) by kernel_rfl) h)
def optimize_firsts.B0 (base : Nat) (x3 : Option Nat) (Ax14 : Option Addr) (lx14 cx14 : Nat) (x15 : Int) (Ay4 : Option Addr) (ly4 cy4 : Nat) (y16 : Int) (g : Fr) (N0 : Value → Value → HH → Prop) (H0 : HH) (K : Value → HH → Prop) : Prop :=
 if (decide ((y16 : Int) < x15)) = true then
 ∃ a9 : Addr, AQ Tryd.prog (Instr.indexAt 23 (.slice Ax14 lx14 cx14) (.int .i64 y16)) (.pointer ((some a9))) ∧
 ∃ n10 : Int, ∃ n11 : Int, ∃ n12 : Int, ∃ n13 : Int, ∃ n14 : Int, QRun Tryd.prog (Instr.loadAt 37 (.pointer ((some a9)))) H0 (.agg #[(.int .i64 n10), (.int .i64 n11), (.int .i64 n12), (.int .i64 n13), (.int .u64 n14)]) ∧
 HRun Tryd.prog base (Instr.alloc 37 true (.tuple #[])) H0 fun v15 H16 =>
 ∃ a17 : Addr, v15 = (.pointer ((some a17))) ∧ HRun Tryd.prog base (Instr.storeAt 37 (.pointer ((some a17))) (.agg #[(.int .i64 n10), (.int .i64 n11), (.int .i64 n12), (.int .i64 n13), (.int .u64 n14)])) H16 fun _ H18 =>
 ∃ a19 : Addr, AQ Tryd.prog (Instr.fieldAt 37 (.pointer ((some a17))) 0) (.pointer ((some a19))) ∧
 ∃ n20 : Int, QRun Tryd.prog (Instr.loadAt 3 (.pointer ((some a19)))) H18 (.int .i64 n20) ∧
 if ((n20 : Int) == 1) = true then
 HRun Tryd.prog base (Instr.buildSlice 24 1 #[(0, (.int .i64 y16))]) H18 fun v21 H22 =>
 ∃ (A23 : Option Addr) (l23 c23 : Nat), v21 = (.slice A23 l23 c23) ∧ HRun Tryd.prog base (Builtin.append_ #[24, 24] 24 #[(.slice Ay4 ly4 cy4), (.slice A23 l23 c23)]) H22 fun v24 H25 =>
 ∃ (A26 : Option Addr) (l26 c26 : Nat), v24 = (.slice A26 l26 c26) ∧ N0 (.slice A26 l26 c26) (.int .i64 ((IntKind.i64.wrap (y16 + 1)))) H25
 else
 ∃ a27 : Addr, AQ Tryd.prog (Instr.fieldAt 37 (.pointer ((some a17))) 0) (.pointer ((some a27))) ∧
 ∃ n28 : Int, QRun Tryd.prog (Instr.loadAt 3 (.pointer ((some a27)))) H18 (.int .i64 n28) ∧
 ∃ a29 : Addr, AQ Tryd.prog (Instr.fieldAt 37 (.pointer ((some a17))) 4) (.pointer ((some a29))) ∧
 ∃ n30 : Int, QRun Tryd.prog (Instr.loadAt 22 (.pointer ((some a29)))) H18 (.int .u64 n30) ∧
 ∃ n31 : Int, ∃ n32 : Int, ∃ n33 : Int, ∃ n34 : Int, AQ Tryd.prog (Instr.build 82 #[(0, (.int .i64 n28)), (3, (.int .u64 n30))]) (.agg #[(.int .i64 n31), (.int .i64 n32), (.int .i64 n33), (.int .u64 n34)]) ∧
 HRun Tryd.prog base (Instr.alloc 82 true (.tuple #[])) H18 fun v35 H36 =>
 ∃ a37 : Addr, v35 = (.pointer ((some a37))) ∧ HRun Tryd.prog base (Instr.storeAt 82 (.pointer ((some a37))) (.agg #[(.int .i64 n31), (.int .i64 n32), (.int .i64 n33), (.int .u64 n34)])) H36 fun _ H38 =>
 ∃ a39 : Addr, AQ Tryd.prog (Instr.fieldAt 37 (.pointer ((some a17))) 0) (.pointer ((some a39))) ∧
 ∃ n40 : Int, QRun Tryd.prog (Instr.loadAt 3 (.pointer ((some a39)))) H38 (.int .i64 n40) ∧
 HCall Tryd.prog base 49 #[(.int .i64 n40)] H38 fun v41 H42 =>
 ∃ b43 : Bool, ∃ b44 : Bool, v41 = (.tuple #[(.bool b43), (.bool b44)]) ∧ if b43 = true then
 ∃ a45 : Addr, AQ Tryd.prog (Instr.fieldAt 37 (.pointer ((some a17))) 2) (.pointer ((some a45))) ∧
 ∃ n46 : Int, QRun Tryd.prog (Instr.loadAt 3 (.pointer ((some a45)))) H42 (.int .i64 n46) ∧
 ∃ a47 : Addr, AQ Tryd.prog (Instr.indexAt 24 (.slice Ay4 ly4 cy4) (.int .i64 n46)) (.pointer ((some a47))) ∧
 ∃ n48 : Int, QRun Tryd.prog (Instr.loadAt 3 (.pointer ((some a47)))) H42 (.int .i64 n48) ∧
 ∃ a49 : Addr, AQ Tryd.prog (Instr.fieldAt 82 (.pointer ((some a37))) 1) (.pointer ((some a49))) ∧
 HRun Tryd.prog base (Instr.storeAt 3 (.pointer ((some a49))) (.int .i64 n48)) H42 fun _ H50 =>
 optimize_firsts.R0 base N0 [(.map x3), (.slice Ay4 ly4 cy4), (.int .i64 y16), (.pointer ((some a17))), (.pointer ((some a37))), (.bool b44), (.slice Ax14 lx14 cx14), (.int .i64 x15), (.int .i64 y16)] H50 K
 else
 optimize_firsts.R0 base N0 [(.map x3), (.slice Ay4 ly4 cy4), (.int .i64 y16), (.pointer ((some a17))), (.pointer ((some a37))), (.bool b44), (.slice Ax14 lx14 cx14), (.int .i64 x15), (.int .i64 y16)] H42 K
 else
 K (.slice Ay4 ly4 cy4) H0
theorem optimize_firsts.loop0 {base : Nat} {x3 : Option Nat} {Ax14 : Option Addr} {lx14 cx14 : Nat} {x15 : Int} {Ay4_i : Option Addr} {ly4_i cy4_i : Nat} {y16_i : Int} {H0 : HH} {K : Value → HH → Prop} (J : Nat → Option Addr → Nat → Nat → Int → HH → Prop) (n : Nat) (h0 : J n Ay4_i ly4_i cy4_i y16_i H0)
    (hs : ∀ (n : Nat) (Ay4 : Option Addr) (ly4 cy4 : Nat) (y16 : Int) (g : Fr) (H0 : HH), J n Ay4 ly4 cy4 y16 H0 → optimize_firsts.B0 base x3 Ax14 lx14 cx14 x15 Ay4 ly4 cy4 y16 g (fun w4 w16 H => ∃ n', n' < n ∧ ∃ (Ay4' : Option Addr) (ly4' cy4' : Nat) (y16' : Int), w4 = (.slice Ay4' ly4' cy4') ∧ w16 = (.int .i64 y16') ∧ J n' Ay4' ly4' cy4' y16' H) H0 K) : optimize_firsts.P0 base [(.map x3), (.slice Ay4_i ly4_i cy4_i), (.slice Ax14 lx14 cx14), (.int .i64 x15), (.int .i64 y16_i)] H0 K := by
  refine loop_rule (ann := optimize_firsts.ann) (body := codeAt [.r, .r, .r, .l, .r, .b, .lp] (bodyOf Tryd.f48)) mix (by kernel_rfl) 77371252455336267181133808 (by kernel_rfl) [3, 14, 15] [(.map x3), (.slice Ax14 lx14 cx14), (.int .i64 x15)] (by kernel_rfl) (fun fr ⟨e3, e4, e14, e15, e16, _⟩ => ⟨e3, e14, e15, trivial⟩) (fun n g H => ∃ (Ay4 : Option Addr) (ly4 cy4 : Nat) (y16 : Int), g 4 = (.slice Ay4 ly4 cy4) ∧ g 16 = (.int .i64 y16) ∧ J n Ay4 ly4 cy4 y16 H) n (fun fr ⟨e3, e4, e14, e15, e16, _⟩ => ⟨Ay4_i, ly4_i, cy4_i, y16_i, e4, e16, h0⟩) ?_
  rintro n g H0 ⟨e3, e14, e15, _⟩ ⟨Ay4, ly4, cy4, y16, e4, e16, hJ⟩
  rw [← ov_eq (g := g) [(3, (.map x3)), (4, (.slice Ay4 ly4 cy4)), (14, (.slice Ax14 lx14 cx14)), (15, (.int .i64 x15)), (16, (.int .i64 y16))] (by simp only [List.mem_cons, List.not_mem_nil, or_false, forall_eq_or_imp, forall_eq, false_implies, implies_true]; exact ⟨e3, e4, e14, e15, e16⟩)]
  have key : ∀ NN : Value → Value → HH → Prop, optimize_firsts.B0 base x3 Ax14 lx14 cx14 x15 Ay4 ly4 cy4 y16 g NN H0 K = wpC Tryd.prog base 87 optimize_firsts.ann (codeAt [.r, .r, .r, .l, .r, .b, .lp] (bodyOf Tryd.f48)) (ov g [(3, (.map x3)), (4, (.slice Ay4 ly4 cy4)), (14, (.slice Ax14 lx14 cx14)), (15, (.int .i64 x15)), (16, (.int .i64 y16))]) H0 (thenQ (fun fr H => NN (fr 4) (fr 16) H) (qAt Tryd.prog base 87 optimize_firsts.ann [.r, .r, .r, .l, .r, .b] [] (bodyOf Tryd.f48) (retQ Tryd.prog 87 Tryd.f48 K))) := fun NN => by kernel_rfl
  refine cast ?_ (hs n Ay4 ly4 cy4 y16 g H0 hJ)
  refine (key (fun w4 w16 H => ∃ n', n' < n ∧ ∃ (Ay4' : Option Addr) (ly4' cy4' : Nat) (y16' : Int), w4 = (.slice Ay4' ly4' cy4') ∧ w16 = (.int .i64 y16') ∧ J n' Ay4' ly4' cy4' y16' H)).trans ?_
  kernel_rfl
def optimize_Optimize.ann : Ann := ⟨fun k => bif Nat.beq k 28 then [12] else bif Nat.beq k 31 then [10] else bif Nat.beq k 33 then [10] else bif Nat.beq k 40 then [7, 8, 10] else bif Nat.beq k 42 then [2, 3] else [], fun k => bif Nat.beq k 14 then true else bif Nat.beq k 18 then true else bif Nat.beq k 32 then true else bif Nat.beq k 34 then true else false, fun k => bif Nat.beq k 4 then [1, 2, 3, 4, 5, 27, 28, 29] else bif Nat.beq k 9 then [1, 2, 3, 4, 5, 8] else bif Nat.beq k 14 then [1, 2, 3, 4, 5, 8, 9] else bif Nat.beq k 18 then [1, 2, 3, 4, 5, 8, 9, 11] else bif Nat.beq k 23 then [1, 2, 3, 4, 5, 12, 13, 95, 96, 97] else bif Nat.beq k 32 then [1, 2, 3, 4, 5, 12, 13, 14, 15, 17, 95, 96, 97] else bif Nat.beq k 34 then [1, 2, 3, 4, 5, 12, 13, 14, 15, 95, 96, 97] else bif Nat.beq k 38 then [2, 3, 12, 13, 175, 176, 177] else []⟩
def optimize_Optimize.P0 (base : Nat) (l : List Value) (H0 : HH) (K : Value → HH → Prop) : Prop := HCodeL Tryd.prog base 194 (codeAt [.r, .r, .r, .l, .r, .b] (bodyOf Tryd.f29)) [1, 2, 3, 4, 5, 27, 28, 29] l H0 (qAt Tryd.prog base 194 optimize_Optimize.ann [.r, .r, .r, .l, .r, .b] [] (bodyOf Tryd.f29) (retQ Tryd.prog 194 Tryd.f29 K))
def optimize_Optimize.P1 (base : Nat) (l : List Value) (H0 : HH) (K : Value → HH → Prop) : Prop := HCodeL Tryd.prog base 194 (codeAt [.r, .r, .r, .r, .l, .r, .b] (bodyOf Tryd.f29)) [1, 2, 3, 4, 5, 8] l H0 (qAt Tryd.prog base 194 optimize_Optimize.ann [.r, .r, .r, .r, .l, .r, .b] [] (bodyOf Tryd.f29) (retQ Tryd.prog 194 Tryd.f29 K))
def optimize_Optimize.P2 (base : Nat) (l : List Value) (H0 : HH) (K : Value → HH → Prop) : Prop := HCodeL Tryd.prog base 194 (codeAt [.r, .r, .r, .r, .r, .r, .r, .l, .r, .b] (bodyOf Tryd.f29)) [1, 2, 3, 4, 5, 12, 13, 95, 96, 97] l H0 (qAt Tryd.prog base 194 optimize_Optimize.ann [.r, .r, .r, .r, .r, .r, .r, .l, .r, .b] [] (bodyOf Tryd.f29) (retQ Tryd.prog 194 Tryd.f29 K))
def optimize_Optimize.P3 (base : Nat) (l : List Value) (H0 : HH) (K : Value → HH → Prop) : Prop := HCodeL Tryd.prog base 194 (codeAt [.r, .r, .r, .r, .r, .r, .r, .r, .l, .r, .b] (bodyOf Tryd.f29)) [2, 3, 12, 13, 175, 176, 177] l H0 (qAt Tryd.prog base 194 optimize_Optimize.ann [.r, .r, .r, .r, .r, .r, .r, .r, .l, .r, .b] [] (bodyOf Tryd.f29) (retQ Tryd.prog 194 Tryd.f29 K))
def optimize_Optimize.R0 (base : Nat) (N1 : Value → HH → Prop) (l : List Value) (H0 : HH) (K : Value → HH → Prop) : Prop := HCodeL Tryd.prog base 194 (codeAt [.r, .r, .r, .r, .l, .r, .b, .lp, .r, .l, .b, .r, .r] (bodyOf Tryd.f29)) [1, 2, 3, 4, 5, 8, 9] l H0 (qAt Tryd.prog base 194 optimize_Optimize.ann [.r, .r, .r, .r, .l, .r, .b, .lp, .r, .l, .b, .r, .r] [fun fr H => N1 (fr 8) H] (bodyOf Tryd.f29) (retQ Tryd.prog 194 Tryd.f29 K))
def optimize_Optimize.R1 (base : Nat) (N1 : Value → HH → Prop) (l : List Value) (H0 : HH) (K : Value → HH → Prop) : Prop := HCodeL Tryd.prog base 194 (codeAt [.r, .r, .r, .r, .l, .r, .b, .lp, .r, .l, .b, .r, .r, .r, .r, .r] (bodyOf Tryd.f29)) [1, 2, 3, 4, 5, 8, 9, 11] l H0 (qAt Tryd.prog base 194 optimize_Optimize.ann [.r, .r, .r, .r, .l, .r, .b, .lp, .r, .l, .b, .r, .r, .r, .r, .r] [fun fr H => N1 (fr 8) H] (bodyOf Tryd.f29) (retQ Tryd.prog 194 Tryd.f29 K))
def optimize_Optimize.R2 (base : Nat) (N2 : Value → HH → Prop) (l : List Value) (H0 : HH) (K : Value → HH → Prop) : Prop := HCodeL Tryd.prog base 194 (codeAt [.r, .r, .r, .r, .r, .r, .r, .l, .r, .b, .lp, .r, .r, .l, .b, .r, .r, .r, .r, .r, .r] (bodyOf Tryd.f29)) [1, 2, 3, 4, 5, 12, 13, 14, 15, 17, 95, 96, 97] l H0 (qAt Tryd.prog base 194 optimize_Optimize.ann [.r, .r, .r, .r, .r, .r, .r, .l, .r, .b, .lp, .r, .r, .l, .b, .r, .r, .r, .r, .r, .r] [fun fr H => N2 (fr 97) H] (bodyOf Tryd.f29) (retQ Tryd.prog 194 Tryd.f29 K))
def optimize_Optimize.R3 (base : Nat) (N2 : Value → HH → Prop) (l : List Value) (H0 : HH) (K : Value → HH → Prop) : Prop := HCodeL Tryd.prog base 194 (codeAt [.r, .r, .r, .r, .r, .r, .r, .l, .r, .b, .lp, .r, .r, .l, .b, .r, .r, .r, .r, .r, .r, .r] (bodyOf Tryd.f29)) [1, 2, 3, 4, 5, 12, 13, 14, 15, 95, 96, 97] l H0 (qAt Tryd.prog base 194 optimize_Optimize.ann [.r, .r, .r, .r, .r, .r, .r, .l, .r, .b, .lp, .r, .r, .l, .b, .r, .r, .r, .r, .r, .r, .r] [fun fr H => N2 (fr 97) H] (bodyOf Tryd.f29) (retQ Tryd.prog 194 Tryd.f29 K))
def optimize_Optimize.S0 (base : Nat) (N1 : Value → HH → Prop) (x1 x2 x3 : Addr) (Ax4 : Option Addr) (lx4 cx4 : Nat) (Ax5 : Option Addr) (lx5 cx5 : Nat) (x8 : Int) (x9 : Addr) (H0 : HH) (K : Value → HH → Prop) : Prop :=
 ∃ a138 : Addr, AQ Tryd.prog (Instr.indexAt 62 (.slice Ax5 lx5 cx5) (.int .i64 x8)) (.pointer ((some a138))) ∧
 ∃ b139 : Bool, QRun Tryd.prog (Instr.loadAt 4 (.pointer ((some a138)))) H0 (.bool b139) ∧
 if (!b139) = true then
 N1 (.int .i64 ((IntKind.i64.wrap (x8 - 1)))) H0
 else
 ∃ a140 : Addr, AQ Tryd.prog (Instr.fieldAt 37 (.pointer ((some x9))) 0) (.pointer ((some a140))) ∧
 ∃ n141 : Int, QRun Tryd.prog (Instr.loadAt 3 (.pointer ((some a140)))) H0 (.int .i64 n141) ∧
 HCall Tryd.prog base 49 #[(.int .i64 n141)] H0 fun v142 H143 =>
 ∃ b144 : Bool, ∃ b145 : Bool, v142 = (.tuple #[(.bool b144), (.bool b145)]) ∧ if b144 = true then
 ∃ a146 : Addr, AQ Tryd.prog (Instr.fieldAt 37 (.pointer ((some x9))) 2) (.pointer ((some a146))) ∧
 ∃ n147 : Int, QRun Tryd.prog (Instr.loadAt 3 (.pointer ((some a146)))) H143 (.int .i64 n147) ∧
 ∃ a148 : Addr, AQ Tryd.prog (Instr.indexAt 24 (.slice Ax4 lx4 cx4) (.int .i64 n147)) (.pointer ((some a148))) ∧
 ∃ n149 : Int, QRun Tryd.prog (Instr.loadAt 3 (.pointer ((some a148)))) H143 (.int .i64 n149) ∧
 ∃ a150 : Addr, AQ Tryd.prog (Instr.indexAt 62 (.slice Ax5 lx5 cx5) (.int .i64 n149)) (.pointer ((some a150))) ∧
 HRun Tryd.prog base (Instr.storeAt 4 (.pointer ((some a150))) (.bool true)) H143 fun _ H151 =>
 optimize_Optimize.R1 base N1 [(.pointer ((some x1))), (.pointer ((some x2))), (.pointer ((some x3))), (.slice Ax4 lx4 cx4), (.slice Ax5 lx5 cx5), (.int .i64 x8), (.pointer ((some x9))), (.bool b145)] H151 K
 else
 optimize_Optimize.R1 base N1 [(.pointer ((some x1))), (.pointer ((some x2))), (.pointer ((some x3))), (.slice Ax4 lx4 cx4), (.slice Ax5 lx5 cx5), (.int .i64 x8), (.pointer ((some x9))), (.bool b145)] H143 K
def optimize_Optimize.T0 (base : Nat) (N1 : Value → HH → Prop) (x1 x2 x3 : Addr) (Ax4 : Option Addr) (lx4 cx4 : Nat) (Ax5 : Option Addr) (lx5 cx5 : Nat) (x8 : Int) (x9 : Addr) (H0 : HH) (K : Value → HH → Prop) : Prop := optimize_Optimize.S0 base N1 x1 x2 x3 Ax4 lx4 cx4 Ax5 lx5 cx5 x8 x9 H0 K
theorem optimize_Optimize.rest0 {base : Nat} {N1 : Value → HH → Prop} {x1 x2 x3 : Addr} {Ax4 : Option Addr} {lx4 cx4 : Nat} {Ax5 : Option Addr} {lx5 cx5 : Nat} {x8 : Int} {x9 : Addr} {H0 : HH} {K : Value → HH → Prop} (h : optimize_Optimize.S0 base N1 x1 x2 x3 Ax4 lx4 cx4 Ax5 lx5 cx5 x8 x9 H0 K) : optimize_Optimize.R0 base N1 [(.pointer ((some x1))), (.pointer ((some x2))), (.pointer ((some x3))), (.slice Ax4 lx4 cx4), (.slice Ax5 lx5 cx5), (.int .i64 x8), (.pointer ((some x9)))] H0 K := by
  refine wpCL_sound (ann := optimize_Optimize.ann) mix (fun fr ⟨e1, e2, e3, e4, e5, e8, e9, _⟩ => ?_)
  rw [← ov_eq (g := fr) [(1, (.pointer ((some x1)))), (2, (.pointer ((some x2)))), (3, (.pointer ((some x3)))), (4, (.slice Ax4 lx4 cx4)), (5, (.slice Ax5 lx5 cx5)), (8, (.int .i64 x8)), (9, (.pointer ((some x9))))] (by simp only [List.mem_cons, List.not_mem_nil, or_false, forall_eq_or_imp, forall_eq, false_implies, implies_true]; exact ⟨e1, e2, e3, e4, e5, e8, e9⟩)]
  exact cast (show optimize_Optimize.S0 base N1 x1 x2 x3 Ax4 lx4 cx4 Ax5 lx5 cx5 x8 x9 H0 K = wpC Tryd.prog base 194 optimize_Optimize.ann (codeAt [.r, .r, .r, .r, .l, .r, .b, .lp, .r, .l, .b, .r, .r] (bodyOf Tryd.f29)) (ov fr [(1, (.pointer ((some x1)))), (2, (.pointer ((some x2)))), (3, (.pointer ((some x3)))), (4, (.slice Ax4 lx4 cx4)), (5, (.slice Ax5 lx5 cx5)), (8, (.int .i64 x8)), (9, (.pointer ((some x9))))]) H0 (qAt Tryd.prog base 194 optimize_Optimize.ann [.r, .r, .r, .r, .l, .r, .b, .lp, .r, .l, .b, .r, .r] [fun fr H => N1 (fr 8) H] (bodyOf Tryd.f29) (retQ Tryd.prog 194 Tryd.f29 K)) by kernel_rfl) h
theorem optimize_Optimize.cut0 {base : Nat} {N1 : Value → HH → Prop} {x1 x2 x3 : Addr} {Ax4 : Option Addr} {lx4 cx4 : Nat} {Ax5 : Option Addr} {lx5 cx5 : Nat} {x8 : Int} {x9 : Addr} {H0 : HH} {K : Value → HH → Prop} (h : optimize_Optimize.T0 base N1 x1 x2 x3 Ax4 lx4 cx4 Ax5 lx5 cx5 x8 x9 H0 K) : optimize_Optimize.R0 base N1 [(.pointer ((some x1))), (.pointer ((some x2))), (.pointer ((some x3))), (.slice Ax4 lx4 cx4), (.slice Ax5 lx5 cx5), (.int .i64 x8), (.pointer ((some x9)))] H0 K := optimize_Optimize.rest0 h
def optimize_Optimize.S1 (base : Nat) (N1 : Value → HH → Prop) (x1 x2 x3 : Addr) (Ax4 : Option Addr) (lx4 cx4 : Nat) (Ax5 : Option Addr) (lx5 cx5 : Nat) (x8 : Int) (x9 : Addr) (x11 : Bool) (H0 : HH) (K : Value → HH → Prop) : Prop :=
 if x11 = true then
 ∃ a152 : Addr, AQ Tryd.prog (Instr.fieldAt 37 (.pointer ((some x9))) 3) (.pointer ((some a152))) ∧
 ∃ n153 : Int, QRun Tryd.prog (Instr.loadAt 3 (.pointer ((some a152)))) H0 (.int .i64 n153) ∧
 ∃ a154 : Addr, AQ Tryd.prog (Instr.indexAt 24 (.slice Ax4 lx4 cx4) (.int .i64 n153)) (.pointer ((some a154))) ∧
 ∃ n155 : Int, QRun Tryd.prog (Instr.loadAt 3 (.pointer ((some a154)))) H0 (.int .i64 n155) ∧
 ∃ a156 : Addr, AQ Tryd.prog (Instr.indexAt 62 (.slice Ax5 lx5 cx5) (.int .i64 n155)) (.pointer ((some a156))) ∧
 HRun Tryd.prog base (Instr.storeAt 4 (.pointer ((some a156))) (.bool true)) H0 fun _ H157 =>
 N1 (.int .i64 ((IntKind.i64.wrap (x8 - 1)))) H157
 else
 N1 (.int .i64 ((IntKind.i64.wrap (x8 - 1)))) H0
def optimize_Optimize.T1 (base : Nat) (N1 : Value → HH → Prop) (x1 x2 x3 : Addr) (Ax4 : Option Addr) (lx4 cx4 : Nat) (Ax5 : Option Addr) (lx5 cx5 : Nat) (x8 : Int) (x9 : Addr) (x11 : Bool) (H0 : HH) (K : Value → HH → Prop) : Prop := optimize_Optimize.S1 base N1 x1 x2 x3 Ax4 lx4 cx4 Ax5 lx5 cx5 x8 x9 x11 H0 K
theorem optimize_Optimize.rest1 {base : Nat} {N1 : Value → HH → Prop} {x1 x2 x3 : Addr} {Ax4 : Option Addr} {lx4 cx4 : Nat} {Ax5 : Option Addr} {lx5 cx5 : Nat} {x8 : Int} {x9 : Addr} {x11 : Bool} {H0 : HH} {K : Value → HH → Prop} (h : optimize_Optimize.S1 base N1 x1 x2 x3 Ax4 lx4 cx4 Ax5 lx5 cx5 x8 x9 x11 H0 K) : optimize_Optimize.R1 base N1 [(.pointer ((some x1))), (.pointer ((some x2))), (.pointer ((some x3))), (.slice Ax4 lx4 cx4), (.slice Ax5 lx5 cx5), (.int .i64 x8), (.pointer ((some x9))), (.bool x11)] H0 K := by
  refine wpCL_sound (ann := optimize_Optimize.ann) mix (fun fr ⟨e1, e2, e3, e4, e5, e8, e9, e11, _⟩ => ?_)
  rw [← ov_eq (g := fr) [(1, (.pointer ((some x1)))), (2, (.pointer ((some x2)))), (3, (.pointer ((some x3)))), (4, (.slice Ax4 lx4 cx4)), (5, (.slice Ax5 lx5 cx5)), (8, (.int .i64 x8)), (9, (.pointer ((some x9)))), (11, (.bool x11))] (by simp only [List.mem_cons, List.not_mem_nil, or_false, forall_eq_or_imp, forall_eq, false_implies, implies_true]; exact ⟨e1, e2, e3, e4, e5, e8, e9, e11⟩)]
  exact cast (show optimize_Optimize.S1 base N1 x1 x2 x3 Ax4 lx4 cx4 Ax5 lx5 cx5 x8 x9 x11 H0 K = wpC Tryd.prog base 194 optimize_Optimize.ann (codeAt [.r, .r, .r, .r, .l, .r, .b, .lp, .r, .l, .b, .r, .r, .r, .r, .r] (bodyOf Tryd.f29)) (ov fr [(1, (.pointer ((some x1)))), (2, (.pointer ((some x2)))), (3, (.pointer ((some x3)))), (4, (.slice Ax4 lx4 cx4)), (5, (.slice Ax5 lx5 cx5)), (8, (.int .i64 x8)), (9, (.pointer ((some x9)))), (11, (.bool x11))]) H0 (qAt Tryd.prog base 194 optimize_Optimize.ann [.r, .r, .r, .r, .l, .r, .b, .lp, .r, .l, .b, .r, .r, .r, .r, .r] [fun fr H => N1 (fr 8) H] (bodyOf Tryd.f29) (retQ Tryd.prog 194 Tryd.f29 K)) by kernel_rfl) h
theorem optimize_Optimize.cut1 {base : Nat} {N1 : Value → HH → Prop} {x1 x2 x3 : Addr} {Ax4 : Option Addr} {lx4 cx4 : Nat} {Ax5 : Option Addr} {lx5 cx5 : Nat} {x8 : Int} {x9 : Addr} {x11 : Bool} {H0 : HH} {K : Value → HH → Prop} (h : optimize_Optimize.T1 base N1 x1 x2 x3 Ax4 lx4 cx4 Ax5 lx5 cx5 x8 x9 x11 H0 K) : optimize_Optimize.R1 base N1 [(.pointer ((some x1))), (.pointer ((some x2))), (.pointer ((some x3))), (.slice Ax4 lx4 cx4), (.slice Ax5 lx5 cx5), (.int .i64 x8), (.pointer ((some x9))), (.bool x11)] H0 K := optimize_Optimize.rest1 h
def optimize_Optimize.S2 (base : Nat) (N2 : Value → HH → Prop) (x1 x2 x3 : Addr) (Ax4 : Option Addr) (lx4 cx4 : Nat) (Ax5 : Option Addr) (lx5 cx5 : Nat) (x12 x13 : Addr) (x14 : Int) (x15 : Addr) (x17 : Bool) (Ax95 : Option Addr) (lx95 cx95 : Nat) (x96 x97 : Int) (H0 : HH) (K : Value → HH → Prop) : Prop :=
 if x17 = true then
 ∃ a158 : Addr, AQ Tryd.prog (Instr.fieldAt 46 (.pointer ((some x13))) 0) (.pointer ((some a158))) ∧
 ∃ (A159 : Option Addr) (l159 c159 : Nat), QRun Tryd.prog (Instr.loadAt 24 (.pointer ((some a158)))) H0 (.slice A159 l159 c159) ∧
 ∃ a160 : Addr, AQ Tryd.prog (Instr.fieldAt 37 (.pointer ((some x15))) 3) (.pointer ((some a160))) ∧
 ∃ n161 : Int, QRun Tryd.prog (Instr.loadAt 3 (.pointer ((some a160)))) H0 (.int .i64 n161) ∧
 ∃ a162 : Addr, AQ Tryd.prog (Instr.indexAt 24 (.slice Ax4 lx4 cx4) (.int .i64 n161)) (.pointer ((some a162))) ∧
 ∃ n163 : Int, QRun Tryd.prog (Instr.loadAt 3 (.pointer ((some a162)))) H0 (.int .i64 n163) ∧
 ∃ a164 : Addr, AQ Tryd.prog (Instr.indexAt 24 (.slice A159 l159 c159) (.int .i64 n163)) (.pointer ((some a164))) ∧
 ∃ n165 : Int, QRun Tryd.prog (Instr.loadAt 3 (.pointer ((some a164)))) H0 (.int .i64 n165) ∧
 ∃ a166 : Addr, AQ Tryd.prog (Instr.fieldAt 37 (.pointer ((some x15))) 3) (.pointer ((some a166))) ∧
 HRun Tryd.prog base (Instr.storeAt 3 (.pointer ((some a166))) (.int .i64 n165)) H0 fun _ H167 =>
 optimize_Optimize.R3 base N2 [(.pointer ((some x1))), (.pointer ((some x2))), (.pointer ((some x3))), (.slice Ax4 lx4 cx4), (.slice Ax5 lx5 cx5), (.pointer ((some x12))), (.pointer ((some x13))), (.int .i64 x14), (.pointer ((some x15))), (.slice Ax95 lx95 cx95), (.int .i64 x96), (.int .i64 x97)] H167 K
 else
 optimize_Optimize.R3 base N2 [(.pointer ((some x1))), (.pointer ((some x2))), (.pointer ((some x3))), (.slice Ax4 lx4 cx4), (.slice Ax5 lx5 cx5), (.pointer ((some x12))), (.pointer ((some x13))), (.int .i64 x14), (.pointer ((some x15))), (.slice Ax95 lx95 cx95), (.int .i64 x96), (.int .i64 x97)] H0 K
def optimize_Optimize.T2 (base : Nat) (N2 : Value → HH → Prop) (x1 x2 x3 : Addr) (Ax4 : Option Addr) (lx4 cx4 : Nat) (Ax5 : Option Addr) (lx5 cx5 : Nat) (x12 x13 : Addr) (x14 : Int) (x15 : Addr) (x17 : Bool) (Ax95 : Option Addr) (lx95 cx95 : Nat) (x96 x97 : Int) (H0 : HH) (K : Value → HH → Prop) : Prop := optimize_Optimize.S2 base N2 x1 x2 x3 Ax4 lx4 cx4 Ax5 lx5 cx5 x12 x13 x14 x15 x17 Ax95 lx95 cx95 x96 x97 H0 K
theorem optimize_Optimize.rest2 {base : Nat} {N2 : Value → HH → Prop} {x1 x2 x3 : Addr} {Ax4 : Option Addr} {lx4 cx4 : Nat} {Ax5 : Option Addr} {lx5 cx5 : Nat} {x12 x13 : Addr} {x14 : Int} {x15 : Addr} {x17 : Bool} {Ax95 : Option Addr} {lx95 cx95 : Nat} {x96 x97 : Int} {H0 : HH} {K : Value → HH → Prop} (h : optimize_Optimize.S2 base N2 x1 x2 x3 Ax4 lx4 cx4 Ax5 lx5 cx5 x12 x13 x14 x15 x17 Ax95 lx95 cx95 x96 x97 H0 K) : optimize_Optimize.R2 base N2 [(.pointer ((some x1))), (.pointer ((some x2))), (.pointer ((some x3))), (.slice Ax4 lx4 cx4), (.slice Ax5 lx5 cx5), (.pointer ((some x12))), (.pointer ((some x13))), (.int .i64 x14), (.pointer ((some x15))), (.bool x17), (.slice Ax95 lx95 cx95), (.int .i64 x96), (.int .i64 x97)] H0 K := by
  refine wpCL_sound (ann := optimize_Optimize.ann) mix (fun fr ⟨e1, e2, e3, e4, e5, e12, e13, e14, e15, e17, e95, e96, e97, _⟩ => ?_)
  rw [← ov_eq (g := fr) [(1, (.pointer ((some x1)))), (2, (.pointer ((some x2)))), (3, (.pointer ((some x3)))), (4, (.slice Ax4 lx4 cx4)), (5, (.slice Ax5 lx5 cx5)), (12, (.pointer ((some x12)))), (13, (.pointer ((some x13)))), (14, (.int .i64 x14)), (15, (.pointer ((some x15)))), (17, (.bool x17)), (95, (.slice Ax95 lx95 cx95)), (96, (.int .i64 x96)), (97, (.int .i64 x97))] (by simp only [List.mem_cons, List.not_mem_nil, or_false, forall_eq_or_imp, forall_eq, false_implies, implies_true]; exact ⟨e1, e2, e3, e4, e5, e12, e13, e14, e15, e17, e95, e96, e97⟩)]
  exact cast (show optimize_Optimize.S2 base N2 x1 x2 x3 Ax4 lx4 cx4 Ax5 lx5 cx5 x12 x13 x14 x15 x17 Ax95 lx95 cx95 x96 x97 H0 K = wpC Tryd.prog base 194 optimize_Optimize.ann (codeAt [.r, .r, .r, .r, .r, .r, .r, .l, .r, .b, .lp, .r, .r, .l, .b, .r, .r, .r, .r, .r, .r] (bodyOf Tryd.f29)) (ov fr [(1, (.pointer ((some x1)))), (2, (.pointer ((some x2)))), (3, (.pointer ((some x3)))), (4, (.slice Ax4 lx4 cx4)), (5, (.slice Ax5 lx5 cx5)), (12, (.pointer ((some x12)))), (13, (.pointer ((some x13)))), (14, (.int .i64 x14)), (15, (.pointer ((some x15)))), (17, (.bool x17)), (95, (.slice Ax95 lx95 cx95)), (96, (.int .i64 x96)), (97, (.int .i64 x97))]) H0 (qAt Tryd.prog base 194 optimize_Optimize.ann [.r, .r, .r, .r, .r, .r, .r, .l, .r, .b, .lp, .r, .r, .l, .b, .r, .r, .r, .r, .r, .r] [fun fr H => N2 (fr 97) H] (bodyOf Tryd.f29) (retQ Tryd.prog 194 Tryd.f29 K)) by kernel_rfl) h
theorem optimize_Optimize.cut2 {base : Nat} {N2 : Value → HH → Prop} {x1 x2 x3 : Addr} {Ax4 : Option Addr} {lx4 cx4 : Nat} {Ax5 : Option Addr} {lx5 cx5 : Nat} {x12 x13 : Addr} {x14 : Int} {x15 : Addr} {x17 : Bool} {Ax95 : Option Addr} {lx95 cx95 : Nat} {x96 x97 : Int} {H0 : HH} {K : Value → HH → Prop} (h : optimize_Optimize.T2 base N2 x1 x2 x3 Ax4 lx4 cx4 Ax5 lx5 cx5 x12 x13 x14 x15 x17 Ax95 lx95 cx95 x96 x97 H0 K) : optimize_Optimize.R2 base N2 [(.pointer ((some x1))), (.pointer ((some x2))), (.pointer ((some x3))), (.slice Ax4 lx4 cx4), (.slice Ax5 lx5 cx5), (.pointer ((some x12))), (.pointer ((some x13))), (.int .i64 x14), (.pointer ((some x15))), (.bool x17), (.slice Ax95 lx95 cx95), (.int .i64 x96), (.int .i64 x97)] H0 K := optimize_Optimize.rest2 h
def optimize_Optimize.S3 (base : Nat) (N2 : Value → HH → Prop) (x1 x2 x3 : Addr) (Ax4 : Option Addr) (lx4 cx4 : Nat) (Ax5 : Option Addr) (lx5 cx5 : Nat) (x12 x13 : Addr) (x14 : Int) (x15 : Addr) (Ax95 : Option Addr) (lx95 cx95 : Nat) (x96 x97 : Int) (H0 : HH) (K : Value → HH → Prop) : Prop :=
 ∃ a168 : Addr, AQ Tryd.prog (Instr.fieldAt 46 (.pointer ((some x13))) 0) (.pointer ((some a168))) ∧
 ∃ (A169 : Option Addr) (l169 c169 : Nat), QRun Tryd.prog (Instr.loadAt 24 (.pointer ((some a168)))) H0 (.slice A169 l169 c169) ∧
 ∃ a170 : Addr, AQ Tryd.prog (Instr.fieldAt 26 (.pointer ((some x12))) 1) (.pointer ((some a170))) ∧
 ∃ (A171 : Option Addr) (l171 c171 : Nat), QRun Tryd.prog (Instr.loadAt 23 (.pointer ((some a170)))) H0 (.slice A171 l171 c171) ∧
 ∃ a172 : Addr, AQ Tryd.prog (Instr.indexAt 24 (.slice A169 l169 c169) (.int .i64 x14)) (.pointer ((some a172))) ∧
 HRun Tryd.prog base (Instr.storeAt 3 (.pointer ((some a172))) (.int .i64 (((l171 : Nat) : Int)))) H0 fun _ H173 =>
 ∃ a174 : Addr, AQ Tryd.prog (Instr.fieldAt 26 (.pointer ((some x12))) 1) (.pointer ((some a174))) ∧
 ∃ (A175 : Option Addr) (l175 c175 : Nat), QRun Tryd.prog (Instr.loadAt 23 (.pointer ((some a174)))) H173 (.slice A175 l175 c175) ∧
 ∃ n176 : Int, ∃ n177 : Int, ∃ n178 : Int, ∃ n179 : Int, ∃ n180 : Int, QRun Tryd.prog (Instr.loadAt 37 (.pointer ((some x15)))) H173 (.agg #[(.int .i64 n176), (.int .i64 n177), (.int .i64 n178), (.int .i64 n179), (.int .u64 n180)]) ∧
 HRun Tryd.prog base (Instr.buildSlice 23 1 #[(0, (.agg #[(.int .i64 n176), (.int .i64 n177), (.int .i64 n178), (.int .i64 n179), (.int .u64 n180)]))]) H173 fun v181 H182 =>
 ∃ (A183 : Option Addr) (l183 c183 : Nat), v181 = (.slice A183 l183 c183) ∧ HRun Tryd.prog base (Builtin.append_ #[23, 23] 23 #[(.slice A175 l175 c175), (.slice A183 l183 c183)]) H182 fun v184 H185 =>
 ∃ (A186 : Option Addr) (l186 c186 : Nat), v184 = (.slice A186 l186 c186) ∧ ∃ a187 : Addr, AQ Tryd.prog (Instr.fieldAt 26 (.pointer ((some x12))) 1) (.pointer ((some a187))) ∧
 HRun Tryd.prog base (Instr.storeAt 23 (.pointer ((some a187))) (.slice A186 l186 c186)) H185 fun _ H188 =>
 N2 (.int .i64 ((IntKind.i64.wrap (x97 + 1)))) H188
def optimize_Optimize.T3 (base : Nat) (N2 : Value → HH → Prop) (x1 x2 x3 : Addr) (Ax4 : Option Addr) (lx4 cx4 : Nat) (Ax5 : Option Addr) (lx5 cx5 : Nat) (x12 x13 : Addr) (x14 : Int) (x15 : Addr) (Ax95 : Option Addr) (lx95 cx95 : Nat) (x96 x97 : Int) (H0 : HH) (K : Value → HH → Prop) : Prop := optimize_Optimize.S3 base N2 x1 x2 x3 Ax4 lx4 cx4 Ax5 lx5 cx5 x12 x13 x14 x15 Ax95 lx95 cx95 x96 x97 H0 K
theorem optimize_Optimize.rest3 {base : Nat} {N2 : Value → HH → Prop} {x1 x2 x3 : Addr} {Ax4 : Option Addr} {lx4 cx4 : Nat} {Ax5 : Option Addr} {lx5 cx5 : Nat} {x12 x13 : Addr} {x14 : Int} {x15 : Addr} {Ax95 : Option Addr} {lx95 cx95 : Nat} {x96 x97 : Int} {H0 : HH} {K : Value → HH → Prop} (h : optimize_Optimize.S3 base N2 x1 x2 x3 Ax4 lx4 cx4 Ax5 lx5 cx5 x12 x13 x14 x15 Ax95 lx95 cx95 x96 x97 H0 K) : optimize_Optimize.R3 base N2 [(.pointer ((some x1))), (.pointer ((some x2))), (.pointer ((some x3))), (.slice Ax4 lx4 cx4), (.slice Ax5 lx5 cx5), (.pointer ((some x12))), (.pointer ((some x13))), (.int .i64 x14), (.pointer ((some x15))), (.slice Ax95 lx95 cx95), (.int .i64 x96), (.int .i64 x97)] H0 K := by
  refine wpCL_sound (ann := optimize_Optimize.ann) mix (fun fr ⟨e1, e2, e3, e4, e5, e12, e13, e14, e15, e95, e96, e97, _⟩ => ?_)
  rw [← ov_eq (g := fr) [(1, (.pointer ((some x1)))), (2, (.pointer ((some x2)))), (3, (.pointer ((some x3)))), (4, (.slice Ax4 lx4 cx4)), (5, (.slice Ax5 lx5 cx5)), (12, (.pointer ((some x12)))), (13, (.pointer ((some x13)))), (14, (.int .i64 x14)), (15, (.pointer ((some x15)))), (95, (.slice Ax95 lx95 cx95)), (96, (.int .i64 x96)), (97, (.int .i64 x97))] (by simp only [List.mem_cons, List.not_mem_nil, or_false, forall_eq_or_imp, forall_eq, false_implies, implies_true]; exact ⟨e1, e2, e3, e4, e5, e12, e13, e14, e15, e95, e96, e97⟩)]
  exact cast (show optimize_Optimize.S3 base N2 x1 x2 x3 Ax4 lx4 cx4 Ax5 lx5 cx5 x12 x13 x14 x15 Ax95 lx95 cx95 x96 x97 H0 K = wpC Tryd.prog base 194 optimize_Optimize.ann (codeAt [.r, .r, .r, .r, .r, .r, .r, .l, .r, .b, .lp, .r, .r, .l, .b, .r, .r, .r, .r, .r, .r, .r] (bodyOf Tryd.f29)) (ov fr [(1, (.pointer ((some x1)))), (2, (.pointer ((some x2)))), (3, (.pointer ((some x3)))), (4, (.slice Ax4 lx4 cx4)), (5, (.slice Ax5 lx5 cx5)), (12, (.pointer ((some x12)))), (13, (.pointer ((some x13)))), (14, (.int .i64 x14)), (15, (.pointer ((some x15)))), (95, (.slice Ax95 lx95 cx95)), (96, (.int .i64 x96)), (97, (.int .i64 x97))]) H0 (qAt Tryd.prog base 194 optimize_Optimize.ann [.r, .r, .r, .r, .r, .r, .r, .l, .r, .b, .lp, .r, .r, .l, .b, .r, .r, .r, .r, .r, .r, .r] [fun fr H => N2 (fr 97) H] (bodyOf Tryd.f29) (retQ Tryd.prog 194 Tryd.f29 K)) by kernel_rfl) h
theorem optimize_Optimize.cut3 {base : Nat} {N2 : Value → HH → Prop} {x1 x2 x3 : Addr} {Ax4 : Option Addr} {lx4 cx4 : Nat} {Ax5 : Option Addr} {lx5 cx5 : Nat} {x12 x13 : Addr} {x14 : Int} {x15 : Addr} {Ax95 : Option Addr} {lx95 cx95 : Nat} {x96 x97 : Int} {H0 : HH} {K : Value → HH → Prop} (h : optimize_Optimize.T3 base N2 x1 x2 x3 Ax4 lx4 cx4 Ax5 lx5 cx5 x12 x13 x14 x15 Ax95 lx95 cx95 x96 x97 H0 K) : optimize_Optimize.R3 base N2 [(.pointer ((some x1))), (.pointer ((some x2))), (.pointer ((some x3))), (.slice Ax4 lx4 cx4), (.slice Ax5 lx5 cx5), (.pointer ((some x12))), (.pointer ((some x13))), (.int .i64 x14), (.pointer ((some x15))), (.slice Ax95 lx95 cx95), (.int .i64 x96), (.int .i64 x97)] H0 K := optimize_Optimize.rest3 h
def optimize_Optimize.sh (base : Nat) (x0_0 : Int) (Ax0_1 : Option Addr) (lx0_1 cx0_1 : Nat) (Ax0_2 : Option Addr) (lx0_2 cx0_2 : Nat) (H0 : HH) (K : Value → HH → Prop) : Prop :=
 HRun Tryd.prog base (Instr.box 26 (.agg #[(.int .u64 x0_0), (.slice Ax0_1 lx0_1 cx0_1), (.slice Ax0_2 lx0_2 cx0_2)])) H0 fun v1 H2 =>
 ∃ a3 : Addr, v1 = (.pointer ((some a3))) ∧ HRun Tryd.prog base (Instr.alloc 26 true (.tuple #[])) H2 fun v4 H5 =>
 ∃ a6 : Addr, v4 = (.pointer ((some a6))) ∧ HRun Tryd.prog base (Instr.alloc 46 true (.tuple #[])) H5 fun v7 H8 =>
 ∃ a9 : Addr, v7 = (.pointer ((some a9))) ∧ ∃ n10 : Int, ∃ (A11 : Option Addr) (l11 c11 : Nat), ∃ (A12 : Option Addr) (l12 c12 : Nat), QRun Tryd.prog (Instr.loadAt 26 (.pointer ((some a3)))) H8 (.agg #[(.int .u64 n10), (.slice A11 l11 c11), (.slice A12 l12 c12)]) ∧
 HCall Tryd.prog base 48 #[(.agg #[(.int .u64 n10), (.slice A11 l11 c11), (.slice A12 l12 c12)])] H8 fun v13 H14 =>
 ∃ (A15 : Option Addr) (l15 c15 : Nat), v13 = (.slice A15 l15 c15) ∧ ∃ a16 : Addr, AQ Tryd.prog (Instr.fieldAt 26 (.pointer ((some a3))) 1) (.pointer ((some a16))) ∧
 ∃ (A17 : Option Addr) (l17 c17 : Nat), QRun Tryd.prog (Instr.loadAt 23 (.pointer ((some a16)))) H14 (.slice A17 l17 c17) ∧
 HRun Tryd.prog base (Instr.makeSlice 62 (.int .i64 (((l17 : Nat) : Int))) (.int .i64 (((l17 : Nat) : Int)))) H14 fun v18 H19 =>
 ∃ (A20 : Option Addr) (l20 c20 : Nat), v18 = (.slice A20 l20 c20) ∧ ∃ a21 : Addr, AQ Tryd.prog (Instr.fieldAt 26 (.pointer ((some a3))) 2) (.pointer ((some a21))) ∧
 ∃ (A22 : Option Addr) (l22 c22 : Nat), QRun Tryd.prog (Instr.loadAt 24 (.pointer ((some a21)))) H19 (.slice A22 l22 c22) ∧
 optimize_Optimize.P0 base [(.pointer ((some a3))), (.pointer ((some a6))), (.pointer ((some a9))), (.slice A15 l15 c15), (.slice A20 l20 c20), (.slice A22 l22 c22), (.int .i64 (((l22 : Nat) : Int))), (.int .i64 0)] H19 K
theorem optimize_Optimize.spec {base : Nat} {x0_0 : Int} {Ax0_1 : Option Addr} {lx0_1 cx0_1 : Nat} {Ax0_2 : Option Addr} {lx0_2 cx0_2 : Nat} {H0 : HH} {K : Value → HH → Prop} (h : optimize_Optimize.sh base x0_0 Ax0_1 lx0_1 cx0_1 Ax0_2 lx0_2 cx0_2 H0 K) : HCall Tryd.prog base 29 #[(.agg #[(.int .u64 x0_0), (.slice Ax0_1 lx0_1 cx0_1), (.slice Ax0_2 lx0_2 cx0_2)])] H0 K := spec_of_wpC (n := 194) (ann := optimize_Optimize.ann) mix Tryd.func29 (by kernel_rfl) (cast (show optimize_Optimize.sh base x0_0 Ax0_1 lx0_1 cx0_1 Ax0_2 lx0_2 cx0_2 H0 K = wpC Tryd.prog base 194 optimize_Optimize.ann (bodyOf Tryd.f29) (ofL [(.agg #[(.int .u64 x0_0), (.slice Ax0_1 lx0_1 cx0_1), (.slice Ax0_2 lx0_2 cx0_2)])]) H0 (retQ Tryd.prog 194 Tryd.f29 K) by kernel_rfl) h)
def optimize_Optimize.B0 (base : Nat) (x1 x2 x3 : Addr) (Ax4 : Option Addr) (lx4 cx4 : Nat) (Ax5 : Option Addr) (lx5 cx5 : Nat) (Ax27 : Option Addr) (lx27 cx27 : Nat) (x28 : Int) (y29 : Int) (g : Fr) (N0 : Value → HH → Prop) (H0 : HH) (K : Value → HH → Prop) : Prop :=
 if (decide ((y29 : Int) < x28)) = true then
 ∃ a23 : Addr, AQ Tryd.prog (Instr.indexAt 24 (.slice Ax27 lx27 cx27) (.int .i64 y29)) (.pointer ((some a23))) ∧
 ∃ n24 : Int, QRun Tryd.prog (Instr.loadAt 3 (.pointer ((some a23)))) H0 (.int .i64 n24) ∧
 ∃ a25 : Addr, AQ Tryd.prog (Instr.indexAt 24 (.slice Ax4 lx4 cx4) (.int .i64 n24)) (.pointer ((some a25))) ∧
 ∃ n26 : Int, QRun Tryd.prog (Instr.loadAt 3 (.pointer ((some a25)))) H0 (.int .i64 n26) ∧
 ∃ a27 : Addr, AQ Tryd.prog (Instr.indexAt 62 (.slice Ax5 lx5 cx5) (.int .i64 n26)) (.pointer ((some a27))) ∧
 HRun Tryd.prog base (Instr.storeAt 4 (.pointer ((some a27))) (.bool true)) H0 fun _ H28 =>
 N0 (.int .i64 ((IntKind.i64.wrap (y29 + 1)))) H28
 else
 ∃ a29 : Addr, AQ Tryd.prog (Instr.fieldAt 26 (.pointer ((some x1))) 1) (.pointer ((some a29))) ∧
 ∃ (A30 : Option Addr) (l30 c30 : Nat), QRun Tryd.prog (Instr.loadAt 23 (.pointer ((some a29)))) H0 (.slice A30 l30 c30) ∧
 optimize_Optimize.P1 base [(.pointer ((some x1))), (.pointer ((some x2))), (.pointer ((some x3))), (.slice Ax4 lx4 cx4), (.slice Ax5 lx5 cx5), (.int .i64 ((IntKind.i64.wrap ((((l30 : Nat) : Int)) - 1))))] H0 K
theorem optimize_Optimize.loop0 {base : Nat} {x1 x2 x3 : Addr} {Ax4 : Option Addr} {lx4 cx4 : Nat} {Ax5 : Option Addr} {lx5 cx5 : Nat} {Ax27 : Option Addr} {lx27 cx27 : Nat} {x28 y29_i : Int} {H0 : HH} {K : Value → HH → Prop} (J : Nat → Int → HH → Prop) (n : Nat) (h0 : J n y29_i H0)
    (hs : ∀ (n : Nat) (y29 : Int) (g : Fr) (H0 : HH), J n y29 H0 → optimize_Optimize.B0 base x1 x2 x3 Ax4 lx4 cx4 Ax5 lx5 cx5 Ax27 lx27 cx27 x28 y29 g (fun w29 H => ∃ n', n' < n ∧ ∃ (y29' : Int), w29 = (.int .i64 y29') ∧ J n' y29' H) H0 K) : optimize_Optimize.P0 base [(.pointer ((some x1))), (.pointer ((some x2))), (.pointer ((some x3))), (.slice Ax4 lx4 cx4), (.slice Ax5 lx5 cx5), (.slice Ax27 lx27 cx27), (.int .i64 x28), (.int .i64 y29_i)] H0 K := by
  refine loop_rule (ann := optimize_Optimize.ann) (body := codeAt [.r, .r, .r, .l, .r, .b, .lp] (bodyOf Tryd.f29)) mix (by kernel_rfl) 1098974756992 (by kernel_rfl) [1, 2, 3, 4, 5, 27, 28] [(.pointer ((some x1))), (.pointer ((some x2))), (.pointer ((some x3))), (.slice Ax4 lx4 cx4), (.slice Ax5 lx5 cx5), (.slice Ax27 lx27 cx27), (.int .i64 x28)] (by kernel_rfl) (fun fr ⟨e1, e2, e3, e4, e5, e27, e28, e29, _⟩ => ⟨e1, e2, e3, e4, e5, e27, e28, trivial⟩) (fun n g H => ∃ (y29 : Int), g 29 = (.int .i64 y29) ∧ J n y29 H) n (fun fr ⟨e1, e2, e3, e4, e5, e27, e28, e29, _⟩ => ⟨y29_i, e29, h0⟩) ?_
  rintro n g H0 ⟨e1, e2, e3, e4, e5, e27, e28, _⟩ ⟨y29, e29, hJ⟩
  rw [← ov_eq (g := g) [(1, (.pointer ((some x1)))), (2, (.pointer ((some x2)))), (3, (.pointer ((some x3)))), (4, (.slice Ax4 lx4 cx4)), (5, (.slice Ax5 lx5 cx5)), (27, (.slice Ax27 lx27 cx27)), (28, (.int .i64 x28)), (29, (.int .i64 y29))] (by simp only [List.mem_cons, List.not_mem_nil, or_false, forall_eq_or_imp, forall_eq, false_implies, implies_true]; exact ⟨e1, e2, e3, e4, e5, e27, e28, e29⟩)]
  have key : ∀ NN : Value → HH → Prop, optimize_Optimize.B0 base x1 x2 x3 Ax4 lx4 cx4 Ax5 lx5 cx5 Ax27 lx27 cx27 x28 y29 g NN H0 K = wpC Tryd.prog base 194 optimize_Optimize.ann (codeAt [.r, .r, .r, .l, .r, .b, .lp] (bodyOf Tryd.f29)) (ov g [(1, (.pointer ((some x1)))), (2, (.pointer ((some x2)))), (3, (.pointer ((some x3)))), (4, (.slice Ax4 lx4 cx4)), (5, (.slice Ax5 lx5 cx5)), (27, (.slice Ax27 lx27 cx27)), (28, (.int .i64 x28)), (29, (.int .i64 y29))]) H0 (thenQ (fun fr H => NN (fr 29) H) (qAt Tryd.prog base 194 optimize_Optimize.ann [.r, .r, .r, .l, .r, .b] [] (bodyOf Tryd.f29) (retQ Tryd.prog 194 Tryd.f29 K))) := fun NN => by kernel_rfl
  refine cast ?_ (hs n y29 g H0 hJ)
  refine (key (fun w29 H => ∃ n', n' < n ∧ ∃ (y29' : Int), w29 = (.int .i64 y29') ∧ J n' y29' H)).trans ?_
  kernel_rfl
def optimize_Optimize.B1 (base : Nat) (x1 x2 x3 : Addr) (Ax4 : Option Addr) (lx4 cx4 : Nat) (Ax5 : Option Addr) (lx5 cx5 : Nat) (y8 : Int) (g : Fr) (N1 : Value → HH → Prop) (H0 : HH) (K : Value → HH → Prop) : Prop :=
 if (decide ((y8 : Int) ≥ 0)) = true then
 ∃ a31 : Addr, AQ Tryd.prog (Instr.fieldAt 26 (.pointer ((some x1))) 1) (.pointer ((some a31))) ∧
 ∃ (A32 : Option Addr) (l32 c32 : Nat), QRun Tryd.prog (Instr.loadAt 23 (.pointer ((some a31)))) H0 (.slice A32 l32 c32) ∧
 ∃ a33 : Addr, AQ Tryd.prog (Instr.indexAt 23 (.slice A32 l32 c32) (.int .i64 y8)) (.pointer ((some a33))) ∧
 ∃ n34 : Int, ∃ n35 : Int, ∃ n36 : Int, ∃ n37 : Int, ∃ n38 : Int, QRun Tryd.prog (Instr.loadAt 37 (.pointer ((some a33)))) H0 (.agg #[(.int .i64 n34), (.int .i64 n35), (.int .i64 n36), (.int .i64 n37), (.int .u64 n38)]) ∧
 HRun Tryd.prog base (Instr.alloc 37 true (.tuple #[])) H0 fun v39 H40 =>
 ∃ a41 : Addr, v39 = (.pointer ((some a41))) ∧ HRun Tryd.prog base (Instr.storeAt 37 (.pointer ((some a41))) (.agg #[(.int .i64 n34), (.int .i64 n35), (.int .i64 n36), (.int .i64 n37), (.int .u64 n38)])) H40 fun _ H42 =>
 ∃ a43 : Addr, AQ Tryd.prog (Instr.fieldAt 37 (.pointer ((some a41))) 0) (.pointer ((some a43))) ∧
 ∃ n44 : Int, QRun Tryd.prog (Instr.loadAt 3 (.pointer ((some a43)))) H42 (.int .i64 n44) ∧
 if ((n44 : Int) == 1) = true then
 ∃ a45 : Addr, AQ Tryd.prog (Instr.indexAt 62 (.slice Ax5 lx5 cx5) (.int .i64 y8)) (.pointer ((some a45))) ∧
 HRun Tryd.prog base (Instr.storeAt 4 (.pointer ((some a45))) (.bool true)) H42 fun _ H46 =>
 optimize_Optimize.R0 base N1 [(.pointer ((some x1))), (.pointer ((some x2))), (.pointer ((some x3))), (.slice Ax4 lx4 cx4), (.slice Ax5 lx5 cx5), (.int .i64 y8), (.pointer ((some a41)))] H46 K
 else
 optimize_Optimize.R0 base N1 [(.pointer ((some x1))), (.pointer ((some x2))), (.pointer ((some x3))), (.slice Ax4 lx4 cx4), (.slice Ax5 lx5 cx5), (.int .i64 y8), (.pointer ((some a41)))] H42 K
 else
 ∃ a47 : Addr, AQ Tryd.prog (Instr.fieldAt 26 (.pointer ((some x1))) 0) (.pointer ((some a47))) ∧
 ∃ n48 : Int, QRun Tryd.prog (Instr.loadAt 22 (.pointer ((some a47)))) H0 (.int .u64 n48) ∧
 ∃ n49 : Int, ∃ (A50 : Option Addr) (l50 c50 : Nat), ∃ (A51 : Option Addr) (l51 c51 : Nat), AQ Tryd.prog (Instr.build 26 #[(0, (.int .u64 n48))]) (.agg #[(.int .u64 n49), (.slice A50 l50 c50), (.slice A51 l51 c51)]) ∧
 HRun Tryd.prog base (Instr.alloc 26 true (.tuple #[])) H0 fun v52 H53 =>
 ∃ a54 : Addr, v52 = (.pointer ((some a54))) ∧ HRun Tryd.prog base (Instr.storeAt 26 (.pointer ((some a54))) (.agg #[(.int .u64 n49), (.slice A50 l50 c50), (.slice A51 l51 c51)])) H53 fun _ H55 =>
 ∃ a56 : Addr, AQ Tryd.prog (Instr.fieldAt 26 (.pointer ((some x1))) 1) (.pointer ((some a56))) ∧
 ∃ (A57 : Option Addr) (l57 c57 : Nat), QRun Tryd.prog (Instr.loadAt 23 (.pointer ((some a56)))) H55 (.slice A57 l57 c57) ∧
 HRun Tryd.prog base (Instr.makeSlice 24 (.int .i64 (((l57 : Nat) : Int))) (.int .i64 (((l57 : Nat) : Int)))) H55 fun v58 H59 =>
 ∃ (A60 : Option Addr) (l60 c60 : Nat), v58 = (.slice A60 l60 c60) ∧ ∃ (A61 : Option Addr) (l61 c61 : Nat), AQ Tryd.prog (Instr.build 46 #[(0, (.slice A60 l60 c60))]) (.agg #[(.slice A61 l61 c61)]) ∧
 HRun Tryd.prog base (Instr.alloc 46 true (.tuple #[])) H59 fun v62 H63 =>
 ∃ a64 : Addr, v62 = (.pointer ((some a64))) ∧ HRun Tryd.prog base (Instr.storeAt 46 (.pointer ((some a64))) (.agg #[(.slice A61 l61 c61)])) H63 fun _ H65 =>
 ∃ a66 : Addr, AQ Tryd.prog (Instr.fieldAt 26 (.pointer ((some x1))) 1) (.pointer ((some a66))) ∧
 ∃ (A67 : Option Addr) (l67 c67 : Nat), QRun Tryd.prog (Instr.loadAt 23 (.pointer ((some a66)))) H65 (.slice A67 l67 c67) ∧
 optimize_Optimize.P2 base [(.pointer ((some x1))), (.pointer ((some x2))), (.pointer ((some x3))), (.slice Ax4 lx4 cx4), (.slice Ax5 lx5 cx5), (.pointer ((some a54))), (.pointer ((some a64))), (.slice A67 l67 c67), (.int .i64 (((l67 : Nat) : Int))), (.int .i64 0)] H65 K
theorem optimize_Optimize.loop1 {base : Nat} {x1 x2 x3 : Addr} {Ax4 : Option Addr} {lx4 cx4 : Nat} {Ax5 : Option Addr} {lx5 cx5 : Nat} {y8_i : Int} {H0 : HH} {K : Value → HH → Prop} (J : Nat → Int → HH → Prop) (n : Nat) (h0 : J n y8_i H0)
    (hs : ∀ (n : Nat) (y8 : Int) (g : Fr) (H0 : HH), J n y8 H0 → optimize_Optimize.B1 base x1 x2 x3 Ax4 lx4 cx4 Ax5 lx5 cx5 y8 g (fun w8 H => ∃ n', n' < n ∧ ∃ (y8' : Int), w8 = (.int .i64 y8') ∧ J n' y8' H) H0 K) : optimize_Optimize.P1 base [(.pointer ((some x1))), (.pointer ((some x2))), (.pointer ((some x3))), (.slice Ax4 lx4 cx4), (.slice Ax5 lx5 cx5), (.int .i64 y8_i)] H0 K := by
  refine loop_rule (ann := optimize_Optimize.ann) (body := codeAt [.r, .r, .r, .r, .l, .r, .b, .lp] (bodyOf Tryd.f29)) mix (by kernel_rfl) 77371252455318674995154688 (by kernel_rfl) [1, 2, 3, 4, 5] [(.pointer ((some x1))), (.pointer ((some x2))), (.pointer ((some x3))), (.slice Ax4 lx4 cx4), (.slice Ax5 lx5 cx5)] (by kernel_rfl) (fun fr ⟨e1, e2, e3, e4, e5, e8, _⟩ => ⟨e1, e2, e3, e4, e5, trivial⟩) (fun n g H => ∃ (y8 : Int), g 8 = (.int .i64 y8) ∧ J n y8 H) n (fun fr ⟨e1, e2, e3, e4, e5, e8, _⟩ => ⟨y8_i, e8, h0⟩) ?_
  rintro n g H0 ⟨e1, e2, e3, e4, e5, _⟩ ⟨y8, e8, hJ⟩
  rw [← ov_eq (g := g) [(1, (.pointer ((some x1)))), (2, (.pointer ((some x2)))), (3, (.pointer ((some x3)))), (4, (.slice Ax4 lx4 cx4)), (5, (.slice Ax5 lx5 cx5)), (8, (.int .i64 y8))] (by simp only [List.mem_cons, List.not_mem_nil, or_false, forall_eq_or_imp, forall_eq, false_implies, implies_true]; exact ⟨e1, e2, e3, e4, e5, e8⟩)]
  have key : ∀ NN : Value → HH → Prop, optimize_Optimize.B1 base x1 x2 x3 Ax4 lx4 cx4 Ax5 lx5 cx5 y8 g NN H0 K = wpC Tryd.prog base 194 optimize_Optimize.ann (codeAt [.r, .r, .r, .r, .l, .r, .b, .lp] (bodyOf Tryd.f29)) (ov g [(1, (.pointer ((some x1)))), (2, (.pointer ((some x2)))), (3, (.pointer ((some x3)))), (4, (.slice Ax4 lx4 cx4)), (5, (.slice Ax5 lx5 cx5)), (8, (.int .i64 y8))]) H0 (thenQ (fun fr H => NN (fr 8) H) (qAt Tryd.prog base 194 optimize_Optimize.ann [.r, .r, .r, .r, .l, .r, .b] [] (bodyOf Tryd.f29) (retQ Tryd.prog 194 Tryd.f29 K))) := fun NN => by kernel_rfl
  refine cast ?_ (hs n y8 g H0 hJ)
  refine (key (fun w8 H => ∃ n', n' < n ∧ ∃ (y8' : Int), w8 = (.int .i64 y8') ∧ J n' y8' H)).trans ?_
  kernel_rfl
def optimize_Optimize.B2 (base : Nat) (x1 x2 x3 : Addr) (Ax4 : Option Addr) (lx4 cx4 : Nat) (Ax5 : Option Addr) (lx5 cx5 : Nat) (x12 x13 : Addr) (Ax95 : Option Addr) (lx95 cx95 : Nat) (x96 : Int) (y97 : Int) (g : Fr) (N2 : Value → HH → Prop) (H0 : HH) (K : Value → HH → Prop) : Prop :=
 if (decide ((y97 : Int) < x96)) = true then
 ∃ a68 : Addr, AQ Tryd.prog (Instr.indexAt 23 (.slice Ax95 lx95 cx95) (.int .i64 y97)) (.pointer ((some a68))) ∧
 ∃ n69 : Int, ∃ n70 : Int, ∃ n71 : Int, ∃ n72 : Int, ∃ n73 : Int, QRun Tryd.prog (Instr.loadAt 37 (.pointer ((some a68)))) H0 (.agg #[(.int .i64 n69), (.int .i64 n70), (.int .i64 n71), (.int .i64 n72), (.int .u64 n73)]) ∧
 HRun Tryd.prog base (Instr.alloc 37 true (.tuple #[])) H0 fun v74 H75 =>
 ∃ a76 : Addr, v74 = (.pointer ((some a76))) ∧ HRun Tryd.prog base (Instr.storeAt 37 (.pointer ((some a76))) (.agg #[(.int .i64 n69), (.int .i64 n70), (.int .i64 n71), (.int .i64 n72), (.int .u64 n73)])) H75 fun _ H77 =>
 ∃ a78 : Addr, AQ Tryd.prog (Instr.fieldAt 46 (.pointer ((some x13))) 0) (.pointer ((some a78))) ∧
 ∃ (A79 : Option Addr) (l79 c79 : Nat), QRun Tryd.prog (Instr.loadAt 24 (.pointer ((some a78)))) H77 (.slice A79 l79 c79) ∧
 ∃ a80 : Addr, AQ Tryd.prog (Instr.indexAt 24 (.slice A79 l79 c79) (.int .i64 y97)) (.pointer ((some a80))) ∧
 HRun Tryd.prog base (Instr.storeAt 3 (.pointer ((some a80))) (.int .i64 ((-1)))) H77 fun _ H81 =>
 ∃ a82 : Addr, AQ Tryd.prog (Instr.indexAt 24 (.slice Ax4 lx4 cx4) (.int .i64 y97)) (.pointer ((some a82))) ∧
 ∃ n83 : Int, QRun Tryd.prog (Instr.loadAt 3 (.pointer ((some a82)))) H81 (.int .i64 n83) ∧
 ∃ a84 : Addr, AQ Tryd.prog (Instr.indexAt 62 (.slice Ax5 lx5 cx5) (.int .i64 n83)) (.pointer ((some a84))) ∧
 ∃ b85 : Bool, QRun Tryd.prog (Instr.loadAt 4 (.pointer ((some a84)))) H81 (.bool b85) ∧
 if (!b85) = true then
 N2 (.int .i64 ((IntKind.i64.wrap (y97 + 1)))) H81
 else
 ∃ a86 : Addr, AQ Tryd.prog (Instr.indexAt 24 (.slice Ax4 lx4 cx4) (.int .i64 y97)) (.pointer ((some a86))) ∧
 ∃ n87 : Int, QRun Tryd.prog (Instr.loadAt 3 (.pointer ((some a86)))) H81 (.int .i64 n87) ∧
 if ((n87 : Int) != y97) = true then
 ∃ a88 : Addr, AQ Tryd.prog (Instr.fieldAt 46 (.pointer ((some x13))) 0) (.pointer ((some a88))) ∧
 ∃ (A89 : Option Addr) (l89 c89 : Nat), QRun Tryd.prog (Instr.loadAt 24 (.pointer ((some a88)))) H81 (.slice A89 l89 c89) ∧
 ∃ a90 : Addr, AQ Tryd.prog (Instr.fieldAt 46 (.pointer ((some x13))) 0) (.pointer ((some a90))) ∧
 ∃ (A91 : Option Addr) (l91 c91 : Nat), QRun Tryd.prog (Instr.loadAt 24 (.pointer ((some a90)))) H81 (.slice A91 l91 c91) ∧
 ∃ a92 : Addr, AQ Tryd.prog (Instr.indexAt 24 (.slice Ax4 lx4 cx4) (.int .i64 y97)) (.pointer ((some a92))) ∧
 ∃ n93 : Int, QRun Tryd.prog (Instr.loadAt 3 (.pointer ((some a92)))) H81 (.int .i64 n93) ∧
 ∃ a94 : Addr, AQ Tryd.prog (Instr.indexAt 24 (.slice A91 l91 c91) (.int .i64 n93)) (.pointer ((some a94))) ∧
 ∃ n95 : Int, QRun Tryd.prog (Instr.loadAt 3 (.pointer ((some a94)))) H81 (.int .i64 n95) ∧
 ∃ a96 : Addr, AQ Tryd.prog (Instr.indexAt 24 (.slice A89 l89 c89) (.int .i64 y97)) (.pointer ((some a96))) ∧
 HRun Tryd.prog base (Instr.storeAt 3 (.pointer ((some a96))) (.int .i64 n95)) H81 fun _ H97 =>
 N2 (.int .i64 ((IntKind.i64.wrap (y97 + 1)))) H97
 else
 ∃ a98 : Addr, AQ Tryd.prog (Instr.fieldAt 37 (.pointer ((some a76))) 0) (.pointer ((some a98))) ∧
 ∃ n99 : Int, QRun Tryd.prog (Instr.loadAt 3 (.pointer ((some a98)))) H81 (.int .i64 n99) ∧
 HCall Tryd.prog base 49 #[(.int .i64 n99)] H81 fun v100 H101 =>
 ∃ b102 : Bool, ∃ b103 : Bool, v100 = (.tuple #[(.bool b102), (.bool b103)]) ∧ if b102 = true then
 ∃ a104 : Addr, AQ Tryd.prog (Instr.fieldAt 46 (.pointer ((some x13))) 0) (.pointer ((some a104))) ∧
 ∃ (A105 : Option Addr) (l105 c105 : Nat), QRun Tryd.prog (Instr.loadAt 24 (.pointer ((some a104)))) H101 (.slice A105 l105 c105) ∧
 ∃ a106 : Addr, AQ Tryd.prog (Instr.fieldAt 37 (.pointer ((some a76))) 2) (.pointer ((some a106))) ∧
 ∃ n107 : Int, QRun Tryd.prog (Instr.loadAt 3 (.pointer ((some a106)))) H101 (.int .i64 n107) ∧
 ∃ a108 : Addr, AQ Tryd.prog (Instr.indexAt 24 (.slice Ax4 lx4 cx4) (.int .i64 n107)) (.pointer ((some a108))) ∧
 ∃ n109 : Int, QRun Tryd.prog (Instr.loadAt 3 (.pointer ((some a108)))) H101 (.int .i64 n109) ∧
 ∃ a110 : Addr, AQ Tryd.prog (Instr.indexAt 24 (.slice A105 l105 c105) (.int .i64 n109)) (.pointer ((some a110))) ∧
 ∃ n111 : Int, QRun Tryd.prog (Instr.loadAt 3 (.pointer ((some a110)))) H101 (.int .i64 n111) ∧
 ∃ a112 : Addr, AQ Tryd.prog (Instr.fieldAt 37 (.pointer ((some a76))) 2) (.pointer ((some a112))) ∧
 HRun Tryd.prog base (Instr.storeAt 3 (.pointer ((some a112))) (.int .i64 n111)) H101 fun _ H113 =>
 optimize_Optimize.R2 base N2 [(.pointer ((some x1))), (.pointer ((some x2))), (.pointer ((some x3))), (.slice Ax4 lx4 cx4), (.slice Ax5 lx5 cx5), (.pointer ((some x12))), (.pointer ((some x13))), (.int .i64 y97), (.pointer ((some a76))), (.bool b103), (.slice Ax95 lx95 cx95), (.int .i64 x96), (.int .i64 y97)] H113 K
 else
 optimize_Optimize.R2 base N2 [(.pointer ((some x1))), (.pointer ((some x2))), (.pointer ((some x3))), (.slice Ax4 lx4 cx4), (.slice Ax5 lx5 cx5), (.pointer ((some x12))), (.pointer ((some x13))), (.int .i64 y97), (.pointer ((some a76))), (.bool b103), (.slice Ax95 lx95 cx95), (.int .i64 x96), (.int .i64 y97)] H101 K
 else
 ∃ a114 : Addr, AQ Tryd.prog (Instr.fieldAt 26 (.pointer ((some x1))) 2) (.pointer ((some a114))) ∧
 ∃ (A115 : Option Addr) (l115 c115 : Nat), QRun Tryd.prog (Instr.loadAt 24 (.pointer ((some a114)))) H0 (.slice A115 l115 c115) ∧
 optimize_Optimize.P3 base [(.pointer ((some x2))), (.pointer ((some x3))), (.pointer ((some x12))), (.pointer ((some x13))), (.slice A115 l115 c115), (.int .i64 (((l115 : Nat) : Int))), (.int .i64 0)] H0 K
theorem optimize_Optimize.loop2 {base : Nat} {x1 x2 x3 : Addr} {Ax4 : Option Addr} {lx4 cx4 : Nat} {Ax5 : Option Addr} {lx5 cx5 : Nat} {x12 x13 : Addr} {Ax95 : Option Addr} {lx95 cx95 : Nat} {x96 y97_i : Int} {H0 : HH} {K : Value → HH → Prop} (J : Nat → Int → HH → Prop) (n : Nat) (h0 : J n y97_i H0)
    (hs : ∀ (n : Nat) (y97 : Int) (g : Fr) (H0 : HH), J n y97 H0 → optimize_Optimize.B2 base x1 x2 x3 Ax4 lx4 cx4 Ax5 lx5 cx5 x12 x13 Ax95 lx95 cx95 x96 y97 g (fun w97 H => ∃ n', n' < n ∧ ∃ (y97' : Int), w97 = (.int .i64 y97') ∧ J n' y97' H) H0 K) : optimize_Optimize.P2 base [(.pointer ((some x1))), (.pointer ((some x2))), (.pointer ((some x3))), (.slice Ax4 lx4 cx4), (.slice Ax5 lx5 cx5), (.pointer ((some x12))), (.pointer ((some x13))), (.slice Ax95 lx95 cx95), (.int .i64 x96), (.int .i64 y97_i)] H0 K := by
  refine loop_rule (ann := optimize_Optimize.ann) (body := codeAt [.r, .r, .r, .r, .r, .r, .r, .l, .r, .b, .lp] (bodyOf Tryd.f29)) mix (by kernel_rfl) 23945242826029513411849013842898552465367611696463872 (by kernel_rfl) [1, 2, 3, 4, 5, 12, 13, 95, 96] [(.pointer ((some x1))), (.pointer ((some x2))), (.pointer ((some x3))), (.slice Ax4 lx4 cx4), (.slice Ax5 lx5 cx5), (.pointer ((some x12))), (.pointer ((some x13))), (.slice Ax95 lx95 cx95), (.int .i64 x96)] (by kernel_rfl) (fun fr ⟨e1, e2, e3, e4, e5, e12, e13, e95, e96, e97, _⟩ => ⟨e1, e2, e3, e4, e5, e12, e13, e95, e96, trivial⟩) (fun n g H => ∃ (y97 : Int), g 97 = (.int .i64 y97) ∧ J n y97 H) n (fun fr ⟨e1, e2, e3, e4, e5, e12, e13, e95, e96, e97, _⟩ => ⟨y97_i, e97, h0⟩) ?_
  rintro n g H0 ⟨e1, e2, e3, e4, e5, e12, e13, e95, e96, _⟩ ⟨y97, e97, hJ⟩
  rw [← ov_eq (g := g) [(1, (.pointer ((some x1)))), (2, (.pointer ((some x2)))), (3, (.pointer ((some x3)))), (4, (.slice Ax4 lx4 cx4)), (5, (.slice Ax5 lx5 cx5)), (12, (.pointer ((some x12)))), (13, (.pointer ((some x13)))), (95, (.slice Ax95 lx95 cx95)), (96, (.int .i64 x96)), (97, (.int .i64 y97))] (by simp only [List.mem_cons, List.not_mem_nil, or_false, forall_eq_or_imp, forall_eq, false_implies, implies_true]; exact ⟨e1, e2, e3, e4, e5, e12, e13, e95, e96, e97⟩)]
  have key : ∀ NN : Value → HH → Prop, optimize_Optimize.B2 base x1 x2 x3 Ax4 lx4 cx4 Ax5 lx5 cx5 x12 x13 Ax95 lx95 cx95 x96 y97 g NN H0 K = wpC Tryd.prog base 194 optimize_Optimize.ann (codeAt [.r, .r, .r, .r, .r, .r, .r, .l, .r, .b, .lp] (bodyOf Tryd.f29)) (ov g [(1, (.pointer ((some x1)))), (2, (.pointer ((some x2)))), (3, (.pointer ((some x3)))), (4, (.slice Ax4 lx4 cx4)), (5, (.slice Ax5 lx5 cx5)), (12, (.pointer ((some x12)))), (13, (.pointer ((some x13)))), (95, (.slice Ax95 lx95 cx95)), (96, (.int .i64 x96)), (97, (.int .i64 y97))]) H0 (thenQ (fun fr H => NN (fr 97) H) (qAt Tryd.prog base 194 optimize_Optimize.ann [.r, .r, .r, .r, .r, .r, .r, .l, .r, .b] [] (bodyOf Tryd.f29) (retQ Tryd.prog 194 Tryd.f29 K))) := fun NN => by kernel_rfl
  refine cast ?_ (hs n y97 g H0 hJ)
  refine (key (fun w97 H => ∃ n', n' < n ∧ ∃ (y97' : Int), w97 = (.int .i64 y97') ∧ J n' y97' H)).trans ?_
  kernel_rfl
def optimize_Optimize.B3 (base : Nat) (x2 x3 x12 x13 : Addr) (Ax175 : Option Addr) (lx175 cx175 : Nat) (x176 : Int) (y177 : Int) (g : Fr) (N3 : Value → HH → Prop) (H0 : HH) (K : Value → HH → Prop) : Prop :=
 if (decide ((y177 : Int) < x176)) = true then
 ∃ a116 : Addr, AQ Tryd.prog (Instr.indexAt 24 (.slice Ax175 lx175 cx175) (.int .i64 y177)) (.pointer ((some a116))) ∧
 ∃ n117 : Int, QRun Tryd.prog (Instr.loadAt 3 (.pointer ((some a116)))) H0 (.int .i64 n117) ∧
 ∃ a118 : Addr, AQ Tryd.prog (Instr.fieldAt 26 (.pointer ((some x12))) 2) (.pointer ((some a118))) ∧
 ∃ (A119 : Option Addr) (l119 c119 : Nat), QRun Tryd.prog (Instr.loadAt 24 (.pointer ((some a118)))) H0 (.slice A119 l119 c119) ∧
 ∃ a120 : Addr, AQ Tryd.prog (Instr.fieldAt 46 (.pointer ((some x13))) 0) (.pointer ((some a120))) ∧
 ∃ (A121 : Option Addr) (l121 c121 : Nat), QRun Tryd.prog (Instr.loadAt 24 (.pointer ((some a120)))) H0 (.slice A121 l121 c121) ∧
 ∃ a122 : Addr, AQ Tryd.prog (Instr.indexAt 24 (.slice A121 l121 c121) (.int .i64 n117)) (.pointer ((some a122))) ∧
 ∃ n123 : Int, QRun Tryd.prog (Instr.loadAt 3 (.pointer ((some a122)))) H0 (.int .i64 n123) ∧
 HRun Tryd.prog base (Instr.buildSlice 24 1 #[(0, (.int .i64 n123))]) H0 fun v124 H125 =>
 ∃ (A126 : Option Addr) (l126 c126 : Nat), v124 = (.slice A126 l126 c126) ∧ QRun Tryd.prog (Instr.loadAt 24 (.pointer ((some a118)))) H125 (.slice A119 l119 c119) ∧
 HRun Tryd.prog base (Builtin.append_ #[24, 24] 24 #[(.slice A119 l119 c119), (.slice A126 l126 c126)]) H125 fun v127 H128 =>
 ∃ (A129 : Option Addr) (l129 c129 : Nat), v127 = (.slice A129 l129 c129) ∧ ∃ a130 : Addr, AQ Tryd.prog (Instr.fieldAt 26 (.pointer ((some x12))) 2) (.pointer ((some a130))) ∧
 HRun Tryd.prog base (Instr.storeAt 24 (.pointer ((some a130))) (.slice A129 l129 c129)) H128 fun _ H131 =>
 N3 (.int .i64 ((IntKind.i64.wrap (y177 + 1)))) H131
 else
 ∃ n132 : Int, ∃ (A133 : Option Addr) (l133 c133 : Nat), ∃ (A134 : Option Addr) (l134 c134 : Nat), QRun Tryd.prog (Instr.loadAt 26 (.pointer ((some x12)))) H0 (.agg #[(.int .u64 n132), (.slice A133 l133 c133), (.slice A134 l134 c134)]) ∧
 ∃ (A135 : Option Addr) (l135 c135 : Nat), QRun Tryd.prog (Instr.loadAt 46 (.pointer ((some x13)))) H0 (.agg #[(.slice A135 l135 c135)]) ∧
 HRun Tryd.prog base (Instr.storeAt 26 (.pointer ((some x2))) (.agg #[(.int .u64 n132), (.slice A133 l133 c133), (.slice A134 l134 c134)])) H0 fun _ H136 =>
 QRun Tryd.prog (Instr.loadAt 46 (.pointer ((some x13)))) H136 (.agg #[(.slice A135 l135 c135)]) ∧
 HRun Tryd.prog base (Instr.storeAt 46 (.pointer ((some x3))) (.agg #[(.slice A135 l135 c135)])) H136 fun _ H137 =>
 ∃ r_, QRun Tryd.prog (results Tryd.f29 (List.toArray [(g 0), (g 1), (.pointer ((some x2))), (.pointer ((some x3))), (g 4), (g 5), (g 6), (g 7), (g 8), (g 9), (g 10), (g 11), (.pointer ((some x12))), (.pointer ((some x13))), (g 14), (g 15), (g 16), (g 17), (g 18), (g 19), (g 20), (g 21), (g 22), (g 23), (g 24), (g 25), (g 26), (g 27), (g 28), (g 29), (g 30), (g 31), (g 32), (g 33), (g 34), (g 35), (g 36), (g 37), (g 38), (g 39), (g 40), (g 41), (g 42), (g 43), (g 44), (g 45), (g 46), (g 47), (g 48), (g 49), (g 50), (g 51), (g 52), (g 53), (g 54), (g 55), (g 56), (g 57), (g 58), (g 59), (g 60), (g 61), (g 62), (g 63), (g 64), (g 65), (g 66), (g 67), (g 68), (g 69), (g 70), (g 71), (g 72), (g 73), (g 74), (g 75), (g 76), (g 77), (g 78), (g 79), (g 80), (g 81), (g 82), (g 83), (g 84), (g 85), (g 86), (g 87), (g 88), (g 89), (g 90), (g 91), (g 92), (g 93), (g 94), (g 95), (g 96), (g 97), (g 98), (g 99), (g 100), (g 101), (g 102), (g 103), (g 104), (g 105), (g 106), (g 107), (g 108), (g 109), (g 110), (g 111), (g 112), (g 113), (g 114), (g 115), (g 116), (g 117), (g 118), (g 119), (g 120), (g 121), (g 122), (g 123), (g 124), (g 125), (g 126), (g 127), (g 128), (g 129), (g 130), (g 131), (g 132), (g 133), (g 134), (g 135), (g 136), (g 137), (g 138), (g 139), (g 140), (g 141), (g 142), (g 143), (g 144), (g 145), (g 146), (g 147), (g 148), (g 149), (g 150), (g 151), (g 152), (g 153), (g 154), (g 155), (g 156), (g 157), (g 158), (g 159), (g 160), (g 161), (g 162), (g 163), (g 164), (g 165), (g 166), (g 167), (g 168), (g 169), (g 170), (g 171), (g 172), (g 173), (g 174), (.slice Ax175 lx175 cx175), (.int .i64 x176), (.int .i64 y177), (.bool ((decide ((y177 : Int) < x176)))), (g 179), (g 180), (g 181), (g 182), (g 183), (g 184), (g 185), (g 186), (g 187), (g 188), (g 189), (g 190), (g 191), (.agg #[(.int .u64 n132), (.slice A133 l133 c133), (.slice A134 l134 c134)]), (.agg #[(.slice A135 l135 c135)])])) H137 r_ ∧ K r_ H137
theorem optimize_Optimize.loop3 {base : Nat} {x2 x3 x12 x13 : Addr} {Ax175 : Option Addr} {lx175 cx175 : Nat} {x176 y177_i : Int} {H0 : HH} {K : Value → HH → Prop} (J : Nat → Int → HH → Prop) (n : Nat) (h0 : J n y177_i H0)
    (hs : ∀ (n : Nat) (y177 : Int) (g : Fr) (H0 : HH), J n y177 H0 → optimize_Optimize.B3 base x2 x3 x12 x13 Ax175 lx175 cx175 x176 y177 g (fun w177 H => ∃ n', n' < n ∧ ∃ (y177' : Int), w177 = (.int .i64 y177') ∧ J n' y177' H) H0 K) : optimize_Optimize.P3 base [(.pointer ((some x2))), (.pointer ((some x3))), (.pointer ((some x12))), (.pointer ((some x13))), (.slice Ax175 lx175 cx175), (.int .i64 x176), (.int .i64 y177_i)] H0 K := by
  refine loop_rule (ann := optimize_Optimize.ann) (body := codeAt [.r, .r, .r, .r, .r, .r, .r, .r, .l, .r, .b, .lp] (bodyOf Tryd.f29)) mix (by kernel_rfl) 6276910173444072527728494629829272627454403102073762086912 (by kernel_rfl) [2, 3, 12, 13, 175, 176] [(.pointer ((some x2))), (.pointer ((some x3))), (.pointer ((some x12))), (.pointer ((some x13))), (.slice Ax175 lx175 cx175), (.int .i64 x176)] (by kernel_rfl) (fun fr ⟨e2, e3, e12, e13, e175, e176, e177, _⟩ => ⟨e2, e3, e12, e13, e175, e176, trivial⟩) (fun n g H => ∃ (y177 : Int), g 177 = (.int .i64 y177) ∧ J n y177 H) n (fun fr ⟨e2, e3, e12, e13, e175, e176, e177, _⟩ => ⟨y177_i, e177, h0⟩) ?_
  rintro n g H0 ⟨e2, e3, e12, e13, e175, e176, _⟩ ⟨y177, e177, hJ⟩
  rw [← ov_eq (g := g) [(2, (.pointer ((some x2)))), (3, (.pointer ((some x3)))), (12, (.pointer ((some x12)))), (13, (.pointer ((some x13)))), (175, (.slice Ax175 lx175 cx175)), (176, (.int .i64 x176)), (177, (.int .i64 y177))] (by simp only [List.mem_cons, List.not_mem_nil, or_false, forall_eq_or_imp, forall_eq, false_implies, implies_true]; exact ⟨e2, e3, e12, e13, e175, e176, e177⟩)]
  have key : ∀ NN : Value → HH → Prop, optimize_Optimize.B3 base x2 x3 x12 x13 Ax175 lx175 cx175 x176 y177 g NN H0 K = wpC Tryd.prog base 194 optimize_Optimize.ann (codeAt [.r, .r, .r, .r, .r, .r, .r, .r, .l, .r, .b, .lp] (bodyOf Tryd.f29)) (ov g [(2, (.pointer ((some x2)))), (3, (.pointer ((some x3)))), (12, (.pointer ((some x12)))), (13, (.pointer ((some x13)))), (175, (.slice Ax175 lx175 cx175)), (176, (.int .i64 x176)), (177, (.int .i64 y177))]) H0 (thenQ (fun fr H => NN (fr 177) H) (qAt Tryd.prog base 194 optimize_Optimize.ann [.r, .r, .r, .r, .r, .r, .r, .r, .l, .r, .b] [] (bodyOf Tryd.f29) (retQ Tryd.prog 194 Tryd.f29 K))) := fun NN => by kernel_rfl
  refine cast ?_ (hs n y177 g H0 hJ)
  refine (key (fun w177 H => ∃ n', n' < n ∧ ∃ (y177' : Int), w177 = (.int .i64 y177') ∧ J n' y177' H)).trans ?_
  kernel_rfl
def optimize_inputs.ann : Ann := ⟨fun k => [], fun k => false, fun k => bif Nat.beq k 3 then [3, 7, 8, 9] else []⟩
def optimize_inputs.P0 (base : Nat) (l : List Value) (H0 : HH) (K : Value → HH → Prop) : Prop := HCodeL Tryd.prog base 23 (codeAt [.r, .r, .l, .r, .b] (bodyOf Tryd.f53)) [3, 7, 8, 9] l H0 (qAt Tryd.prog base 23 optimize_inputs.ann [.r, .r, .l, .r, .b] [] (bodyOf Tryd.f53) (retQ Tryd.prog 23 Tryd.f53 K))
def optimize_inputs.sh (base : Nat) (x0_0 : Int) (Ax0_1 : Option Addr) (lx0_1 cx0_1 : Nat) (Ax0_2 : Option Addr) (lx0_2 cx0_2 : Nat) (H0 : HH) (K : Value → HH → Prop) : Prop :=
 HRun Tryd.prog base (Instr.box 26 (.agg #[(.int .u64 x0_0), (.slice Ax0_1 lx0_1 cx0_1), (.slice Ax0_2 lx0_2 cx0_2)])) H0 fun v1 H2 =>
 ∃ a3 : Addr, v1 = (.pointer ((some a3))) ∧ ∃ a4 : Addr, AQ Tryd.prog (Instr.fieldAt 26 (.pointer ((some a3))) 1) (.pointer ((some a4))) ∧
 ∃ (A5 : Option Addr) (l5 c5 : Nat), QRun Tryd.prog (Instr.loadAt 23 (.pointer ((some a4)))) H2 (.slice A5 l5 c5) ∧
 optimize_inputs.P0 base [(.slice none 0 0), (.slice A5 l5 c5), (.int .i64 (((l5 : Nat) : Int))), (.int .i64 0)] H2 K
theorem optimize_inputs.spec {base : Nat} {x0_0 : Int} {Ax0_1 : Option Addr} {lx0_1 cx0_1 : Nat} {Ax0_2 : Option Addr} {lx0_2 cx0_2 : Nat} {H0 : HH} {K : Value → HH → Prop} (h : optimize_inputs.sh base x0_0 Ax0_1 lx0_1 cx0_1 Ax0_2 lx0_2 cx0_2 H0 K) : HCall Tryd.prog base 53 #[(.agg #[(.int .u64 x0_0), (.slice Ax0_1 lx0_1 cx0_1), (.slice Ax0_2 lx0_2 cx0_2)])] H0 K := spec_of_wpC (n := 23) (ann := optimize_inputs.ann) mix Tryd.func53 (by kernel_rfl) (cast (show optimize_inputs.sh base x0_0 Ax0_1 lx0_1 cx0_1 Ax0_2 lx0_2 cx0_2 H0 K = wpC Tryd.prog base 23 optimize_inputs.ann (bodyOf Tryd.f53) (ofL [(.agg #[(.int .u64 x0_0), (.slice Ax0_1 lx0_1 cx0_1), (.slice Ax0_2 lx0_2 cx0_2)])]) H0 (retQ Tryd.prog 23 Tryd.f53 K) by kernel_rfl) h)
def optimize_inputs.B0 (base : Nat) (Ax7 : Option Addr) (lx7 cx7 : Nat) (x8 : Int) (Ay3 : Option Addr) (ly3 cy3 : Nat) (y9 : Int) (g : Fr) (N0 : Value → Value → HH → Prop) (H0 : HH) (K : Value → HH → Prop) : Prop :=
 if (decide ((y9 : Int) < x8)) = true then
 ∃ a6 : Addr, AQ Tryd.prog (Instr.indexAt 23 (.slice Ax7 lx7 cx7) (.int .i64 y9)) (.pointer ((some a6))) ∧
 ∃ n7 : Int, ∃ n8 : Int, ∃ n9 : Int, ∃ n10 : Int, ∃ n11 : Int, QRun Tryd.prog (Instr.loadAt 37 (.pointer ((some a6)))) H0 (.agg #[(.int .i64 n7), (.int .i64 n8), (.int .i64 n9), (.int .i64 n10), (.int .u64 n11)]) ∧
 HRun Tryd.prog base (Instr.alloc 37 true (.tuple #[])) H0 fun v12 H13 =>
 ∃ a14 : Addr, v12 = (.pointer ((some a14))) ∧ HRun Tryd.prog base (Instr.storeAt 37 (.pointer ((some a14))) (.agg #[(.int .i64 n7), (.int .i64 n8), (.int .i64 n9), (.int .i64 n10), (.int .u64 n11)])) H13 fun _ H15 =>
 ∃ a16 : Addr, AQ Tryd.prog (Instr.fieldAt 37 (.pointer ((some a14))) 0) (.pointer ((some a16))) ∧
 ∃ n17 : Int, QRun Tryd.prog (Instr.loadAt 3 (.pointer ((some a16)))) H15 (.int .i64 n17) ∧
 if ((n17 : Int) == 1) = true then
 HRun Tryd.prog base (Instr.buildSlice 24 1 #[(0, (.int .i64 y9))]) H15 fun v18 H19 =>
 ∃ (A20 : Option Addr) (l20 c20 : Nat), v18 = (.slice A20 l20 c20) ∧ HRun Tryd.prog base (Builtin.append_ #[24, 24] 24 #[(.slice Ay3 ly3 cy3), (.slice A20 l20 c20)]) H19 fun v21 H22 =>
 ∃ (A23 : Option Addr) (l23 c23 : Nat), v21 = (.slice A23 l23 c23) ∧ N0 (.slice A23 l23 c23) (.int .i64 ((IntKind.i64.wrap (y9 + 1)))) H22
 else
 N0 (.slice Ay3 ly3 cy3) (.int .i64 ((IntKind.i64.wrap (y9 + 1)))) H15
 else
 K (.slice Ay3 ly3 cy3) H0
theorem optimize_inputs.loop0 {base : Nat} {Ax7 : Option Addr} {lx7 cx7 : Nat} {x8 : Int} {Ay3_i : Option Addr} {ly3_i cy3_i : Nat} {y9_i : Int} {H0 : HH} {K : Value → HH → Prop} (J : Nat → Option Addr → Nat → Nat → Int → HH → Prop) (n : Nat) (h0 : J n Ay3_i ly3_i cy3_i y9_i H0)
    (hs : ∀ (n : Nat) (Ay3 : Option Addr) (ly3 cy3 : Nat) (y9 : Int) (g : Fr) (H0 : HH), J n Ay3 ly3 cy3 y9 H0 → optimize_inputs.B0 base Ax7 lx7 cx7 x8 Ay3 ly3 cy3 y9 g (fun w3 w9 H => ∃ n', n' < n ∧ ∃ (Ay3' : Option Addr) (ly3' cy3' : Nat) (y9' : Int), w3 = (.slice Ay3' ly3' cy3') ∧ w9 = (.int .i64 y9') ∧ J n' Ay3' ly3' cy3' y9' H) H0 K) : optimize_inputs.P0 base [(.slice Ay3_i ly3_i cy3_i), (.slice Ax7 lx7 cx7), (.int .i64 x8), (.int .i64 y9_i)] H0 K := by
  refine loop_rule (ann := optimize_inputs.ann) (body := codeAt [.r, .r, .l, .r, .b, .lp] (bodyOf Tryd.f53)) mix (by kernel_rfl) 4193848 (by kernel_rfl) [7, 8] [(.slice Ax7 lx7 cx7), (.int .i64 x8)] (by kernel_rfl) (fun fr ⟨e3, e7, e8, e9, _⟩ => ⟨e7, e8, trivial⟩) (fun n g H => ∃ (Ay3 : Option Addr) (ly3 cy3 : Nat) (y9 : Int), g 3 = (.slice Ay3 ly3 cy3) ∧ g 9 = (.int .i64 y9) ∧ J n Ay3 ly3 cy3 y9 H) n (fun fr ⟨e3, e7, e8, e9, _⟩ => ⟨Ay3_i, ly3_i, cy3_i, y9_i, e3, e9, h0⟩) ?_
  rintro n g H0 ⟨e7, e8, _⟩ ⟨Ay3, ly3, cy3, y9, e3, e9, hJ⟩
  rw [← ov_eq (g := g) [(3, (.slice Ay3 ly3 cy3)), (7, (.slice Ax7 lx7 cx7)), (8, (.int .i64 x8)), (9, (.int .i64 y9))] (by simp only [List.mem_cons, List.not_mem_nil, or_false, forall_eq_or_imp, forall_eq, false_implies, implies_true]; exact ⟨e3, e7, e8, e9⟩)]
  have key : ∀ NN : Value → Value → HH → Prop, optimize_inputs.B0 base Ax7 lx7 cx7 x8 Ay3 ly3 cy3 y9 g NN H0 K = wpC Tryd.prog base 23 optimize_inputs.ann (codeAt [.r, .r, .l, .r, .b, .lp] (bodyOf Tryd.f53)) (ov g [(3, (.slice Ay3 ly3 cy3)), (7, (.slice Ax7 lx7 cx7)), (8, (.int .i64 x8)), (9, (.int .i64 y9))]) H0 (thenQ (fun fr H => NN (fr 3) (fr 9) H) (qAt Tryd.prog base 23 optimize_inputs.ann [.r, .r, .l, .r, .b] [] (bodyOf Tryd.f53) (retQ Tryd.prog 23 Tryd.f53 K))) := fun NN => by kernel_rfl
  refine cast ?_ (hs n Ay3 ly3 cy3 y9 g H0 hJ)
  refine (key (fun w3 w9 H => ∃ n', n' < n ∧ ∃ (Ay3' : Option Addr) (ly3' cy3' : Nat) (y9' : Int), w3 = (.slice Ay3' ly3' cy3') ∧ w9 = (.int .i64 y9') ∧ J n' Ay3' ly3' cy3' y9' H)).trans ?_
  kernel_rfl
def optimize_alike.ann : Ann := ⟨fun k => [], fun k => false, fun k => []⟩
def optimize_alike.sh (base : Nat) (x0_0 : Int) (x0_1 : Int) (x0_2 : Int) (x0_3 : Int) (x0_4 : Int) (x1_0 : Int) (x1_1 : Int) (x1_2 : Int) (x1_3 : Int) (x1_4 : Int) (Ax2 : Option Addr) (lx2 cx2 : Nat) (H0 : HH) (K : Value → HH → Prop) : Prop :=
 HRun Tryd.prog base (Instr.box 37 (.agg #[(.int .i64 x0_0), (.int .i64 x0_1), (.int .i64 x0_2), (.int .i64 x0_3), (.int .u64 x0_4)])) H0 fun v1 H2 =>
 ∃ a3 : Addr, v1 = (.pointer ((some a3))) ∧ HRun Tryd.prog base (Instr.box 37 (.agg #[(.int .i64 x1_0), (.int .i64 x1_1), (.int .i64 x1_2), (.int .i64 x1_3), (.int .u64 x1_4)])) H2 fun v4 H5 =>
 ∃ a6 : Addr, v4 = (.pointer ((some a6))) ∧ ∃ a7 : Addr, AQ Tryd.prog (Instr.fieldAt 37 (.pointer ((some a6))) 0) (.pointer ((some a7))) ∧
 ∃ n8 : Int, QRun Tryd.prog (Instr.loadAt 3 (.pointer ((some a7)))) H5 (.int .i64 n8) ∧
 ∃ a9 : Addr, AQ Tryd.prog (Instr.fieldAt 37 (.pointer ((some a3))) 0) (.pointer ((some a9))) ∧
 ∃ n10 : Int, QRun Tryd.prog (Instr.loadAt 3 (.pointer ((some a9)))) H5 (.int .i64 n10) ∧
 if ((n8 : Int) != n10) = false then
 ∃ a11 : Addr, AQ Tryd.prog (Instr.fieldAt 37 (.pointer ((some a6))) 4) (.pointer ((some a11))) ∧
 ∃ n12 : Int, QRun Tryd.prog (Instr.loadAt 22 (.pointer ((some a11)))) H5 (.int .u64 n12) ∧
 ∃ a13 : Addr, AQ Tryd.prog (Instr.fieldAt 37 (.pointer ((some a3))) 4) (.pointer ((some a13))) ∧
 ∃ n14 : Int, QRun Tryd.prog (Instr.loadAt 22 (.pointer ((some a13)))) H5 (.int .u64 n14) ∧
 if ((n12 : Int) != n14) = true then
 K (.bool false) H5
 else
 ∃ a15 : Addr, AQ Tryd.prog (Instr.fieldAt 37 (.pointer ((some a3))) 0) (.pointer ((some a15))) ∧
 ∃ n16 : Int, QRun Tryd.prog (Instr.loadAt 3 (.pointer ((some a15)))) H5 (.int .i64 n16) ∧
 HCall Tryd.prog base 49 #[(.int .i64 n16)] H5 fun v17 H18 =>
 ∃ b19 : Bool, ∃ b20 : Bool, v17 = (.tuple #[(.bool b19), (.bool b20)]) ∧ if (!b19) = true then
 K (.bool true) H18
 else
 ∃ a21 : Addr, AQ Tryd.prog (Instr.fieldAt 37 (.pointer ((some a3))) 2) (.pointer ((some a21))) ∧
 ∃ n22 : Int, QRun Tryd.prog (Instr.loadAt 3 (.pointer ((some a21)))) H18 (.int .i64 n22) ∧
 ∃ a23 : Addr, AQ Tryd.prog (Instr.indexAt 24 (.slice Ax2 lx2 cx2) (.int .i64 n22)) (.pointer ((some a23))) ∧
 ∃ n24 : Int, QRun Tryd.prog (Instr.loadAt 3 (.pointer ((some a23)))) H18 (.int .i64 n24) ∧
 if (!b20) = true then
 if (decide ((n24 : Int) ≥ 0)) = true then
 ∃ a25 : Addr, AQ Tryd.prog (Instr.fieldAt 37 (.pointer ((some a6))) 2) (.pointer ((some a25))) ∧
 ∃ n26 : Int, QRun Tryd.prog (Instr.loadAt 3 (.pointer ((some a25)))) H18 (.int .i64 n26) ∧
 K (.bool (((n26 : Int) == n24))) H18
 else
 K (.bool false) H18
 else
 ∃ a27 : Addr, AQ Tryd.prog (Instr.fieldAt 37 (.pointer ((some a3))) 3) (.pointer ((some a27))) ∧
 ∃ n28 : Int, QRun Tryd.prog (Instr.loadAt 3 (.pointer ((some a27)))) H18 (.int .i64 n28) ∧
 ∃ a29 : Addr, AQ Tryd.prog (Instr.indexAt 24 (.slice Ax2 lx2 cx2) (.int .i64 n28)) (.pointer ((some a29))) ∧
 ∃ n30 : Int, QRun Tryd.prog (Instr.loadAt 3 (.pointer ((some a29)))) H18 (.int .i64 n30) ∧
 if (decide ((n24 : Int) < 0)) = false then
 if (decide ((n30 : Int) < 0)) = true then
 K (.bool false) H18
 else
 ∃ a31 : Addr, AQ Tryd.prog (Instr.fieldAt 37 (.pointer ((some a6))) 2) (.pointer ((some a31))) ∧
 ∃ n32 : Int, QRun Tryd.prog (Instr.loadAt 3 (.pointer ((some a31)))) H18 (.int .i64 n32) ∧
 if ((n32 : Int) == n24) = true then
 ∃ a33 : Addr, AQ Tryd.prog (Instr.fieldAt 37 (.pointer ((some a6))) 3) (.pointer ((some a33))) ∧
 ∃ n34 : Int, QRun Tryd.prog (Instr.loadAt 3 (.pointer ((some a33)))) H18 (.int .i64 n34) ∧
 if ((n34 : Int) == n30) = false then
 ∃ a35 : Addr, AQ Tryd.prog (Instr.fieldAt 37 (.pointer ((some a3))) 0) (.pointer ((some a35))) ∧
 ∃ n36 : Int, QRun Tryd.prog (Instr.loadAt 3 (.pointer ((some a35)))) H18 (.int .i64 n36) ∧
 HCall Tryd.prog base 65 #[(.int .i64 n36)] H18 fun v37 H38 =>
 ∃ b39 : Bool, v37 = (.bool b39) ∧ if b39 = true then
 ∃ a40 : Addr, AQ Tryd.prog (Instr.fieldAt 37 (.pointer ((some a6))) 2) (.pointer ((some a40))) ∧
 ∃ n41 : Int, QRun Tryd.prog (Instr.loadAt 3 (.pointer ((some a40)))) H38 (.int .i64 n41) ∧
 if ((n41 : Int) == n30) = true then
 ∃ a42 : Addr, AQ Tryd.prog (Instr.fieldAt 37 (.pointer ((some a6))) 3) (.pointer ((some a42))) ∧
 ∃ n43 : Int, QRun Tryd.prog (Instr.loadAt 3 (.pointer ((some a42)))) H38 (.int .i64 n43) ∧
 K (.bool (((n43 : Int) == n24))) H38
 else
 K (.bool false) H38
 else
 K (.bool false) H38
 else
 K (.bool true) H18
 else
 ∃ a44 : Addr, AQ Tryd.prog (Instr.fieldAt 37 (.pointer ((some a3))) 0) (.pointer ((some a44))) ∧
 ∃ n45 : Int, QRun Tryd.prog (Instr.loadAt 3 (.pointer ((some a44)))) H18 (.int .i64 n45) ∧
 HCall Tryd.prog base 65 #[(.int .i64 n45)] H18 fun v46 H47 =>
 ∃ b48 : Bool, v46 = (.bool b48) ∧ if b48 = true then
 ∃ a49 : Addr, AQ Tryd.prog (Instr.fieldAt 37 (.pointer ((some a6))) 2) (.pointer ((some a49))) ∧
 ∃ n50 : Int, QRun Tryd.prog (Instr.loadAt 3 (.pointer ((some a49)))) H47 (.int .i64 n50) ∧
 if ((n50 : Int) == n30) = true then
 ∃ a51 : Addr, AQ Tryd.prog (Instr.fieldAt 37 (.pointer ((some a6))) 3) (.pointer ((some a51))) ∧
 ∃ n52 : Int, QRun Tryd.prog (Instr.loadAt 3 (.pointer ((some a51)))) H47 (.int .i64 n52) ∧
 K (.bool (((n52 : Int) == n24))) H47
 else
 K (.bool false) H47
 else
 K (.bool false) H47
 else
 K (.bool false) H18
 else
 K (.bool false) H5
theorem optimize_alike.spec {base : Nat} {x0_0 : Int} {x0_1 : Int} {x0_2 : Int} {x0_3 : Int} {x0_4 : Int} {x1_0 : Int} {x1_1 : Int} {x1_2 : Int} {x1_3 : Int} {x1_4 : Int} {Ax2 : Option Addr} {lx2 cx2 : Nat} {H0 : HH} {K : Value → HH → Prop} (h : optimize_alike.sh base x0_0 x0_1 x0_2 x0_3 x0_4 x1_0 x1_1 x1_2 x1_3 x1_4 Ax2 lx2 cx2 H0 K) : HCall Tryd.prog base 54 #[(.agg #[(.int .i64 x0_0), (.int .i64 x0_1), (.int .i64 x0_2), (.int .i64 x0_3), (.int .u64 x0_4)]), (.agg #[(.int .i64 x1_0), (.int .i64 x1_1), (.int .i64 x1_2), (.int .i64 x1_3), (.int .u64 x1_4)]), (.slice Ax2 lx2 cx2)] H0 K := spec_of_wpC (n := 84) (ann := optimize_alike.ann) mix Tryd.func54 (by kernel_rfl) (cast (show optimize_alike.sh base x0_0 x0_1 x0_2 x0_3 x0_4 x1_0 x1_1 x1_2 x1_3 x1_4 Ax2 lx2 cx2 H0 K = wpC Tryd.prog base 84 optimize_alike.ann (bodyOf Tryd.f54) (ofL [(.agg #[(.int .i64 x0_0), (.int .i64 x0_1), (.int .i64 x0_2), (.int .i64 x0_3), (.int .u64 x0_4)]), (.agg #[(.int .i64 x1_0), (.int .i64 x1_1), (.int .i64 x1_2), (.int .i64 x1_3), (.int .u64 x1_4)]), (.slice Ax2 lx2 cx2)]) H0 (retQ Tryd.prog 84 Tryd.f54 K) by kernel_rfl) h)
def optimize_CheckCertificate.ann : Ann := ⟨fun k => bif Nat.beq k 9 then [1, 3] else bif Nat.beq k 15 then [] else bif Nat.beq k 22 then [16] else bif Nat.beq k 28 then [] else [], fun k => false, fun k => bif Nat.beq k 4 then [3, 4, 5, 51, 52, 53] else bif Nat.beq k 13 then [3, 4, 5, 9, 10, 77, 78] else bif Nat.beq k 19 then [3, 4, 5, 115, 116, 117] else bif Nat.beq k 26 then [4, 5, 148, 149, 150] else []⟩
def optimize_CheckCertificate.P0 (base : Nat) (l : List Value) (H0 : HH) (K : Value → HH → Prop) : Prop := HCodeL Tryd.prog base 175 (codeAt [.r, .r, .l, .r, .b] (bodyOf Tryd.f33)) [3, 4, 5, 51, 52, 53] l H0 (qAt Tryd.prog base 175 optimize_CheckCertificate.ann [.r, .r, .l, .r, .b] [] (bodyOf Tryd.f33) (retQ Tryd.prog 175 Tryd.f33 K))
def optimize_CheckCertificate.P1 (base : Nat) (l : List Value) (H0 : HH) (K : Value → HH → Prop) : Prop := HCodeL Tryd.prog base 175 (codeAt [.r, .r, .r, .r, .r, .l, .r, .b] (bodyOf Tryd.f33)) [3, 4, 5, 9, 10, 77, 78] l H0 (qAt Tryd.prog base 175 optimize_CheckCertificate.ann [.r, .r, .r, .r, .r, .l, .r, .b] [] (bodyOf Tryd.f33) (retQ Tryd.prog 175 Tryd.f33 K))
def optimize_CheckCertificate.P2 (base : Nat) (l : List Value) (H0 : HH) (K : Value → HH → Prop) : Prop := HCodeL Tryd.prog base 175 (codeAt [.r, .r, .r, .r, .r, .r, .l, .r, .b] (bodyOf Tryd.f33)) [3, 4, 5, 115, 116, 117] l H0 (qAt Tryd.prog base 175 optimize_CheckCertificate.ann [.r, .r, .r, .r, .r, .r, .l, .r, .b] [] (bodyOf Tryd.f33) (retQ Tryd.prog 175 Tryd.f33 K))
def optimize_CheckCertificate.P3 (base : Nat) (l : List Value) (H0 : HH) (K : Value → HH → Prop) : Prop := HCodeL Tryd.prog base 175 (codeAt [.r, .r, .r, .r, .r, .r, .r, .l, .r, .b] (bodyOf Tryd.f33)) [4, 5, 148, 149, 150] l H0 (qAt Tryd.prog base 175 optimize_CheckCertificate.ann [.r, .r, .r, .r, .r, .r, .r, .l, .r, .b] [] (bodyOf Tryd.f33) (retQ Tryd.prog 175 Tryd.f33 K))
def optimize_CheckCertificate.sh (base : Nat) (x0_0 : Int) (Ax0_1 : Option Addr) (lx0_1 cx0_1 : Nat) (Ax0_2 : Option Addr) (lx0_2 cx0_2 : Nat) (x1_0 : Int) (Ax1_1 : Option Addr) (lx1_1 cx1_1 : Nat) (Ax1_2 : Option Addr) (lx1_2 cx1_2 : Nat) (Ax2_0 : Option Addr) (lx2_0 cx2_0 : Nat) (H0 : HH) (K : Value → HH → Prop) : Prop :=
 HRun Tryd.prog base (Instr.box 26 (.agg #[(.int .u64 x0_0), (.slice Ax0_1 lx0_1 cx0_1), (.slice Ax0_2 lx0_2 cx0_2)])) H0 fun v1 H2 =>
 ∃ a3 : Addr, v1 = (.pointer ((some a3))) ∧ HRun Tryd.prog base (Instr.box 26 (.agg #[(.int .u64 x1_0), (.slice Ax1_1 lx1_1 cx1_1), (.slice Ax1_2 lx1_2 cx1_2)])) H2 fun v4 H5 =>
 ∃ a6 : Addr, v4 = (.pointer ((some a6))) ∧ HRun Tryd.prog base (Instr.box 46 (.agg #[(.slice Ax2_0 lx2_0 cx2_0)])) H5 fun v7 H8 =>
 ∃ a9 : Addr, v7 = (.pointer ((some a9))) ∧ ∃ n10 : Int, ∃ (A11 : Option Addr) (l11 c11 : Nat), ∃ (A12 : Option Addr) (l12 c12 : Nat), QRun Tryd.prog (Instr.loadAt 26 (.pointer ((some a3)))) H8 (.agg #[(.int .u64 n10), (.slice A11 l11 c11), (.slice A12 l12 c12)]) ∧
 HCall Tryd.prog base 36 #[(.agg #[(.int .u64 n10), (.slice A11 l11 c11), (.slice A12 l12 c12)])] H8 fun v13 H14 =>
 ∃ b15 : Bool, v13 = (.bool b15) ∧ if (!b15) = false then
 ∃ n16 : Int, ∃ (A17 : Option Addr) (l17 c17 : Nat), ∃ (A18 : Option Addr) (l18 c18 : Nat), QRun Tryd.prog (Instr.loadAt 26 (.pointer ((some a6)))) H14 (.agg #[(.int .u64 n16), (.slice A17 l17 c17), (.slice A18 l18 c18)]) ∧
 HCall Tryd.prog base 36 #[(.agg #[(.int .u64 n16), (.slice A17 l17 c17), (.slice A18 l18 c18)])] H14 fun v19 H20 =>
 ∃ b21 : Bool, v19 = (.bool b21) ∧ if (!b21) = false then
 ∃ a22 : Addr, AQ Tryd.prog (Instr.fieldAt 26 (.pointer ((some a3))) 0) (.pointer ((some a22))) ∧
 ∃ n23 : Int, QRun Tryd.prog (Instr.loadAt 22 (.pointer ((some a22)))) H20 (.int .u64 n23) ∧
 ∃ a24 : Addr, AQ Tryd.prog (Instr.fieldAt 26 (.pointer ((some a6))) 0) (.pointer ((some a24))) ∧
 ∃ n25 : Int, QRun Tryd.prog (Instr.loadAt 22 (.pointer ((some a24)))) H20 (.int .u64 n25) ∧
 if ((n23 : Int) != n25) = false then
 ∃ a26 : Addr, AQ Tryd.prog (Instr.fieldAt 46 (.pointer ((some a9))) 0) (.pointer ((some a26))) ∧
 ∃ (A27 : Option Addr) (l27 c27 : Nat), QRun Tryd.prog (Instr.loadAt 24 (.pointer ((some a26)))) H20 (.slice A27 l27 c27) ∧
 ∃ a28 : Addr, AQ Tryd.prog (Instr.fieldAt 26 (.pointer ((some a3))) 1) (.pointer ((some a28))) ∧
 ∃ (A29 : Option Addr) (l29 c29 : Nat), QRun Tryd.prog (Instr.loadAt 23 (.pointer ((some a28)))) H20 (.slice A29 l29 c29) ∧
 if ((((l27 : Nat) : Int) : Int) != (((l29 : Nat) : Int))) = false then
 ∃ a30 : Addr, AQ Tryd.prog (Instr.fieldAt 26 (.pointer ((some a3))) 2) (.pointer ((some a30))) ∧
 ∃ (A31 : Option Addr) (l31 c31 : Nat), QRun Tryd.prog (Instr.loadAt 24 (.pointer ((some a30)))) H20 (.slice A31 l31 c31) ∧
 ∃ a32 : Addr, AQ Tryd.prog (Instr.fieldAt 26 (.pointer ((some a6))) 2) (.pointer ((some a32))) ∧
 ∃ (A33 : Option Addr) (l33 c33 : Nat), QRun Tryd.prog (Instr.loadAt 24 (.pointer ((some a32)))) H20 (.slice A33 l33 c33) ∧
 if ((((l31 : Nat) : Int) : Int) != (((l33 : Nat) : Int))) = true then
 K (.bool false) H20
 else
 ∃ a34 : Addr, AQ Tryd.prog (Instr.fieldAt 46 (.pointer ((some a9))) 0) (.pointer ((some a34))) ∧
 ∃ (A35 : Option Addr) (l35 c35 : Nat), QRun Tryd.prog (Instr.loadAt 24 (.pointer ((some a34)))) H20 (.slice A35 l35 c35) ∧
 optimize_CheckCertificate.P0 base [(.pointer ((some a3))), (.pointer ((some a6))), (.pointer ((some a9))), (.slice A35 l35 c35), (.int .i64 (((l35 : Nat) : Int))), (.int .i64 0)] H20 K
 else
 K (.bool false) H20
 else
 K (.bool false) H20
 else
 K (.bool false) H20
 else
 K (.bool false) H14
theorem optimize_CheckCertificate.spec {base : Nat} {x0_0 : Int} {Ax0_1 : Option Addr} {lx0_1 cx0_1 : Nat} {Ax0_2 : Option Addr} {lx0_2 cx0_2 : Nat} {x1_0 : Int} {Ax1_1 : Option Addr} {lx1_1 cx1_1 : Nat} {Ax1_2 : Option Addr} {lx1_2 cx1_2 : Nat} {Ax2_0 : Option Addr} {lx2_0 cx2_0 : Nat} {H0 : HH} {K : Value → HH → Prop} (h : optimize_CheckCertificate.sh base x0_0 Ax0_1 lx0_1 cx0_1 Ax0_2 lx0_2 cx0_2 x1_0 Ax1_1 lx1_1 cx1_1 Ax1_2 lx1_2 cx1_2 Ax2_0 lx2_0 cx2_0 H0 K) : HCall Tryd.prog base 33 #[(.agg #[(.int .u64 x0_0), (.slice Ax0_1 lx0_1 cx0_1), (.slice Ax0_2 lx0_2 cx0_2)]), (.agg #[(.int .u64 x1_0), (.slice Ax1_1 lx1_1 cx1_1), (.slice Ax1_2 lx1_2 cx1_2)]), (.agg #[(.slice Ax2_0 lx2_0 cx2_0)])] H0 K := spec_of_wpC (n := 175) (ann := optimize_CheckCertificate.ann) mix Tryd.func33 (by kernel_rfl) (cast (show optimize_CheckCertificate.sh base x0_0 Ax0_1 lx0_1 cx0_1 Ax0_2 lx0_2 cx0_2 x1_0 Ax1_1 lx1_1 cx1_1 Ax1_2 lx1_2 cx1_2 Ax2_0 lx2_0 cx2_0 H0 K = wpC Tryd.prog base 175 optimize_CheckCertificate.ann (bodyOf Tryd.f33) (ofL [(.agg #[(.int .u64 x0_0), (.slice Ax0_1 lx0_1 cx0_1), (.slice Ax0_2 lx0_2 cx0_2)]), (.agg #[(.int .u64 x1_0), (.slice Ax1_1 lx1_1 cx1_1), (.slice Ax1_2 lx1_2 cx1_2)]), (.agg #[(.slice Ax2_0 lx2_0 cx2_0)])]) H0 (retQ Tryd.prog 175 Tryd.f33 K) by kernel_rfl) h)
def optimize_CheckCertificate.B0 (base : Nat) (x3 x4 x5 : Addr) (Ax51 : Option Addr) (lx51 cx51 : Nat) (x52 : Int) (y53 : Int) (g : Fr) (N0 : Value → HH → Prop) (H0 : HH) (K : Value → HH → Prop) : Prop :=
 if (decide ((y53 : Int) < x52)) = true then
 ∃ a36 : Addr, AQ Tryd.prog (Instr.indexAt 24 (.slice Ax51 lx51 cx51) (.int .i64 y53)) (.pointer ((some a36))) ∧
 ∃ n37 : Int, QRun Tryd.prog (Instr.loadAt 3 (.pointer ((some a36)))) H0 (.int .i64 n37) ∧
 if (decide ((n37 : Int) < ((-1)))) = false then
 ∃ a38 : Addr, AQ Tryd.prog (Instr.fieldAt 26 (.pointer ((some x4))) 1) (.pointer ((some a38))) ∧
 ∃ (A39 : Option Addr) (l39 c39 : Nat), QRun Tryd.prog (Instr.loadAt 23 (.pointer ((some a38)))) H0 (.slice A39 l39 c39) ∧
 if (decide ((n37 : Int) ≥ (((l39 : Nat) : Int)))) = true then
 K (.bool false) H0
 else
 N0 (.int .i64 ((IntKind.i64.wrap (y53 + 1)))) H0
 else
 K (.bool false) H0
 else
 ∃ n40 : Int, ∃ (A41 : Option Addr) (l41 c41 : Nat), ∃ (A42 : Option Addr) (l42 c42 : Nat), QRun Tryd.prog (Instr.loadAt 26 (.pointer ((some x3)))) H0 (.agg #[(.int .u64 n40), (.slice A41 l41 c41), (.slice A42 l42 c42)]) ∧
 ∃ n43 : Int, ∃ (A44 : Option Addr) (l44 c44 : Nat), ∃ (A45 : Option Addr) (l45 c45 : Nat), QRun Tryd.prog (Instr.loadAt 26 (.pointer ((some x4)))) H0 (.agg #[(.int .u64 n43), (.slice A44 l44 c44), (.slice A45 l45 c45)]) ∧
 HCall Tryd.prog base 53 #[(.agg #[(.int .u64 n40), (.slice A41 l41 c41), (.slice A42 l42 c42)])] H0 fun v46 H47 =>
 ∃ (A48 : Option Addr) (l48 c48 : Nat), v46 = (.slice A48 l48 c48) ∧ QRun Tryd.prog (Instr.loadAt 26 (.pointer ((some x4)))) H47 (.agg #[(.int .u64 n43), (.slice A44 l44 c44), (.slice A45 l45 c45)]) ∧
 HCall Tryd.prog base 53 #[(.agg #[(.int .u64 n43), (.slice A44 l44 c44), (.slice A45 l45 c45)])] H47 fun v49 H50 =>
 ∃ (A51 : Option Addr) (l51 c51 : Nat), v49 = (.slice A51 l51 c51) ∧ if ((((l48 : Nat) : Int) : Int) != (((l51 : Nat) : Int))) = true then
 K (.bool false) H50
 else
 optimize_CheckCertificate.P1 base [(.pointer ((some x3))), (.pointer ((some x4))), (.pointer ((some x5))), (.slice A48 l48 c48), (.slice A51 l51 c51), (.int .i64 (((l48 : Nat) : Int))), (.int .i64 0)] H50 K
theorem optimize_CheckCertificate.loop0 {base : Nat} {x3 x4 x5 : Addr} {Ax51 : Option Addr} {lx51 cx51 : Nat} {x52 y53_i : Int} {H0 : HH} {K : Value → HH → Prop} (J : Nat → Int → HH → Prop) (n : Nat) (h0 : J n y53_i H0)
    (hs : ∀ (n : Nat) (y53 : Int) (g : Fr) (H0 : HH), J n y53 H0 → optimize_CheckCertificate.B0 base x3 x4 x5 Ax51 lx51 cx51 x52 y53 g (fun w53 H => ∃ n', n' < n ∧ ∃ (y53' : Int), w53 = (.int .i64 y53') ∧ J n' y53' H) H0 K) : optimize_CheckCertificate.P0 base [(.pointer ((some x3))), (.pointer ((some x4))), (.pointer ((some x5))), (.slice Ax51 lx51 cx51), (.int .i64 x52), (.int .i64 y53_i)] H0 K := by
  refine loop_rule (ann := optimize_CheckCertificate.ann) (body := codeAt [.r, .r, .l, .r, .b, .lp] (bodyOf Tryd.f33)) mix (by kernel_rfl) 147564945390421672256 (by kernel_rfl) [3, 4, 5, 51, 52] [(.pointer ((some x3))), (.pointer ((some x4))), (.pointer ((some x5))), (.slice Ax51 lx51 cx51), (.int .i64 x52)] (by kernel_rfl) (fun fr ⟨e3, e4, e5, e51, e52, e53, _⟩ => ⟨e3, e4, e5, e51, e52, trivial⟩) (fun n g H => ∃ (y53 : Int), g 53 = (.int .i64 y53) ∧ J n y53 H) n (fun fr ⟨e3, e4, e5, e51, e52, e53, _⟩ => ⟨y53_i, e53, h0⟩) ?_
  rintro n g H0 ⟨e3, e4, e5, e51, e52, _⟩ ⟨y53, e53, hJ⟩
  rw [← ov_eq (g := g) [(3, (.pointer ((some x3)))), (4, (.pointer ((some x4)))), (5, (.pointer ((some x5)))), (51, (.slice Ax51 lx51 cx51)), (52, (.int .i64 x52)), (53, (.int .i64 y53))] (by simp only [List.mem_cons, List.not_mem_nil, or_false, forall_eq_or_imp, forall_eq, false_implies, implies_true]; exact ⟨e3, e4, e5, e51, e52, e53⟩)]
  have key : ∀ NN : Value → HH → Prop, optimize_CheckCertificate.B0 base x3 x4 x5 Ax51 lx51 cx51 x52 y53 g NN H0 K = wpC Tryd.prog base 175 optimize_CheckCertificate.ann (codeAt [.r, .r, .l, .r, .b, .lp] (bodyOf Tryd.f33)) (ov g [(3, (.pointer ((some x3)))), (4, (.pointer ((some x4)))), (5, (.pointer ((some x5)))), (51, (.slice Ax51 lx51 cx51)), (52, (.int .i64 x52)), (53, (.int .i64 y53))]) H0 (thenQ (fun fr H => NN (fr 53) H) (qAt Tryd.prog base 175 optimize_CheckCertificate.ann [.r, .r, .l, .r, .b] [] (bodyOf Tryd.f33) (retQ Tryd.prog 175 Tryd.f33 K))) := fun NN => by kernel_rfl
  refine cast ?_ (hs n y53 g H0 hJ)
  refine (key (fun w53 H => ∃ n', n' < n ∧ ∃ (y53' : Int), w53 = (.int .i64 y53') ∧ J n' y53' H)).trans ?_
  kernel_rfl
def optimize_CheckCertificate.B1 (base : Nat) (x3 x4 x5 : Addr) (Ax9 : Option Addr) (lx9 cx9 : Nat) (Ax10 : Option Addr) (lx10 cx10 : Nat) (x77 : Int) (y78 : Int) (g : Fr) (N1 : Value → HH → Prop) (H0 : HH) (K : Value → HH → Prop) : Prop :=
 if (decide ((y78 : Int) < x77)) = true then
 ∃ a52 : Addr, AQ Tryd.prog (Instr.fieldAt 46 (.pointer ((some x5))) 0) (.pointer ((some a52))) ∧
 ∃ (A53 : Option Addr) (l53 c53 : Nat), QRun Tryd.prog (Instr.loadAt 24 (.pointer ((some a52)))) H0 (.slice A53 l53 c53) ∧
 ∃ a54 : Addr, AQ Tryd.prog (Instr.indexAt 24 (.slice Ax9 lx9 cx9) (.int .i64 y78)) (.pointer ((some a54))) ∧
 ∃ n55 : Int, QRun Tryd.prog (Instr.loadAt 3 (.pointer ((some a54)))) H0 (.int .i64 n55) ∧
 ∃ a56 : Addr, AQ Tryd.prog (Instr.indexAt 24 (.slice A53 l53 c53) (.int .i64 n55)) (.pointer ((some a56))) ∧
 ∃ n57 : Int, QRun Tryd.prog (Instr.loadAt 3 (.pointer ((some a56)))) H0 (.int .i64 n57) ∧
 ∃ a58 : Addr, AQ Tryd.prog (Instr.indexAt 24 (.slice Ax10 lx10 cx10) (.int .i64 y78)) (.pointer ((some a58))) ∧
 ∃ n59 : Int, QRun Tryd.prog (Instr.loadAt 3 (.pointer ((some a58)))) H0 (.int .i64 n59) ∧
 if ((n57 : Int) != n59) = false then
 ∃ a60 : Addr, AQ Tryd.prog (Instr.fieldAt 26 (.pointer ((some x3))) 1) (.pointer ((some a60))) ∧
 ∃ (A61 : Option Addr) (l61 c61 : Nat), QRun Tryd.prog (Instr.loadAt 23 (.pointer ((some a60)))) H0 (.slice A61 l61 c61) ∧
 ∃ a62 : Addr, AQ Tryd.prog (Instr.indexAt 24 (.slice Ax9 lx9 cx9) (.int .i64 y78)) (.pointer ((some a62))) ∧
 ∃ n63 : Int, QRun Tryd.prog (Instr.loadAt 3 (.pointer ((some a62)))) H0 (.int .i64 n63) ∧
 ∃ a64 : Addr, AQ Tryd.prog (Instr.indexAt 23 (.slice A61 l61 c61) (.int .i64 n63)) (.pointer ((some a64))) ∧
 ∃ n65 : Int, ∃ n66 : Int, ∃ n67 : Int, ∃ n68 : Int, ∃ n69 : Int, QRun Tryd.prog (Instr.loadAt 37 (.pointer ((some a64)))) H0 (.agg #[(.int .i64 n65), (.int .i64 n66), (.int .i64 n67), (.int .i64 n68), (.int .u64 n69)]) ∧
 ∃ a70 : Addr, AQ Tryd.prog (Instr.fieldAt 26 (.pointer ((some x4))) 1) (.pointer ((some a70))) ∧
 ∃ (A71 : Option Addr) (l71 c71 : Nat), QRun Tryd.prog (Instr.loadAt 23 (.pointer ((some a70)))) H0 (.slice A71 l71 c71) ∧
 ∃ a72 : Addr, AQ Tryd.prog (Instr.indexAt 24 (.slice Ax10 lx10 cx10) (.int .i64 y78)) (.pointer ((some a72))) ∧
 ∃ n73 : Int, QRun Tryd.prog (Instr.loadAt 3 (.pointer ((some a72)))) H0 (.int .i64 n73) ∧
 ∃ a74 : Addr, AQ Tryd.prog (Instr.indexAt 23 (.slice A71 l71 c71) (.int .i64 n73)) (.pointer ((some a74))) ∧
 ∃ n75 : Int, ∃ n76 : Int, ∃ n77 : Int, ∃ n78 : Int, ∃ n79 : Int, QRun Tryd.prog (Instr.loadAt 37 (.pointer ((some a74)))) H0 (.agg #[(.int .i64 n75), (.int .i64 n76), (.int .i64 n77), (.int .i64 n78), (.int .u64 n79)]) ∧
 ∃ b80 : Bool, AQ Tryd.prog (binSem .neq 37 (.tmp 102) (.tmp 110) (.agg #[(.int .i64 n65), (.int .i64 n66), (.int .i64 n67), (.int .i64 n68), (.int .u64 n69)]) (.agg #[(.int .i64 n75), (.int .i64 n76), (.int .i64 n77), (.int .i64 n78), (.int .u64 n79)])) (.bool b80) ∧
 if b80 = true then
 K (.bool false) H0
 else
 N1 (.int .i64 ((IntKind.i64.wrap (y78 + 1)))) H0
 else
 K (.bool false) H0
 else
 ∃ a81 : Addr, AQ Tryd.prog (Instr.fieldAt 26 (.pointer ((some x3))) 1) (.pointer ((some a81))) ∧
 ∃ (A82 : Option Addr) (l82 c82 : Nat), QRun Tryd.prog (Instr.loadAt 23 (.pointer ((some a81)))) H0 (.slice A82 l82 c82) ∧
 optimize_CheckCertificate.P2 base [(.pointer ((some x3))), (.pointer ((some x4))), (.pointer ((some x5))), (.slice A82 l82 c82), (.int .i64 (((l82 : Nat) : Int))), (.int .i64 0)] H0 K
theorem optimize_CheckCertificate.loop1 {base : Nat} {x3 x4 x5 : Addr} {Ax9 : Option Addr} {lx9 cx9 : Nat} {Ax10 : Option Addr} {lx10 cx10 : Nat} {x77 y78_i : Int} {H0 : HH} {K : Value → HH → Prop} (J : Nat → Int → HH → Prop) (n : Nat) (h0 : J n y78_i H0)
    (hs : ∀ (n : Nat) (y78 : Int) (g : Fr) (H0 : HH), J n y78 H0 → optimize_CheckCertificate.B1 base x3 x4 x5 Ax9 lx9 cx9 Ax10 lx10 cx10 x77 y78 g (fun w78 H => ∃ n', n' < n ∧ ∃ (y78' : Int), w78 = (.int .i64 y78') ∧ J n' y78' H) H0 K) : optimize_CheckCertificate.P1 base [(.pointer ((some x3))), (.pointer ((some x4))), (.pointer ((some x5))), (.slice Ax9 lx9 cx9), (.slice Ax10 lx10 cx10), (.int .i64 x77), (.int .i64 y78_i)] H0 K := by
  refine loop_rule (ann := optimize_CheckCertificate.ann) (body := codeAt [.r, .r, .r, .r, .r, .l, .r, .b, .lp] (bodyOf Tryd.f33)) mix (by kernel_rfl) 20769187433837079059218328023205952 (by kernel_rfl) [3, 4, 5, 9, 10, 77] [(.pointer ((some x3))), (.pointer ((some x4))), (.pointer ((some x5))), (.slice Ax9 lx9 cx9), (.slice Ax10 lx10 cx10), (.int .i64 x77)] (by kernel_rfl) (fun fr ⟨e3, e4, e5, e9, e10, e77, e78, _⟩ => ⟨e3, e4, e5, e9, e10, e77, trivial⟩) (fun n g H => ∃ (y78 : Int), g 78 = (.int .i64 y78) ∧ J n y78 H) n (fun fr ⟨e3, e4, e5, e9, e10, e77, e78, _⟩ => ⟨y78_i, e78, h0⟩) ?_
  rintro n g H0 ⟨e3, e4, e5, e9, e10, e77, _⟩ ⟨y78, e78, hJ⟩
  rw [← ov_eq (g := g) [(3, (.pointer ((some x3)))), (4, (.pointer ((some x4)))), (5, (.pointer ((some x5)))), (9, (.slice Ax9 lx9 cx9)), (10, (.slice Ax10 lx10 cx10)), (77, (.int .i64 x77)), (78, (.int .i64 y78))] (by simp only [List.mem_cons, List.not_mem_nil, or_false, forall_eq_or_imp, forall_eq, false_implies, implies_true]; exact ⟨e3, e4, e5, e9, e10, e77, e78⟩)]
  have key : ∀ NN : Value → HH → Prop, optimize_CheckCertificate.B1 base x3 x4 x5 Ax9 lx9 cx9 Ax10 lx10 cx10 x77 y78 g NN H0 K = wpC Tryd.prog base 175 optimize_CheckCertificate.ann (codeAt [.r, .r, .r, .r, .r, .l, .r, .b, .lp] (bodyOf Tryd.f33)) (ov g [(3, (.pointer ((some x3)))), (4, (.pointer ((some x4)))), (5, (.pointer ((some x5)))), (9, (.slice Ax9 lx9 cx9)), (10, (.slice Ax10 lx10 cx10)), (77, (.int .i64 x77)), (78, (.int .i64 y78))]) H0 (thenQ (fun fr H => NN (fr 78) H) (qAt Tryd.prog base 175 optimize_CheckCertificate.ann [.r, .r, .r, .r, .r, .l, .r, .b] [] (bodyOf Tryd.f33) (retQ Tryd.prog 175 Tryd.f33 K))) := fun NN => by kernel_rfl
  refine cast ?_ (hs n y78 g H0 hJ)
  refine (key (fun w78 H => ∃ n', n' < n ∧ ∃ (y78' : Int), w78 = (.int .i64 y78') ∧ J n' y78' H)).trans ?_
  kernel_rfl
def optimize_CheckCertificate.B2 (base : Nat) (x3 x4 x5 : Addr) (Ax115 : Option Addr) (lx115 cx115 : Nat) (x116 : Int) (y117 : Int) (g : Fr) (N2 : Value → HH → Prop) (H0 : HH) (K : Value → HH → Prop) : Prop :=
 if (decide ((y117 : Int) < x116)) = true then
 ∃ a83 : Addr, AQ Tryd.prog (Instr.indexAt 23 (.slice Ax115 lx115 cx115) (.int .i64 y117)) (.pointer ((some a83))) ∧
 ∃ n84 : Int, ∃ n85 : Int, ∃ n86 : Int, ∃ n87 : Int, ∃ n88 : Int, QRun Tryd.prog (Instr.loadAt 37 (.pointer ((some a83)))) H0 (.agg #[(.int .i64 n84), (.int .i64 n85), (.int .i64 n86), (.int .i64 n87), (.int .u64 n88)]) ∧
 HRun Tryd.prog base (Instr.alloc 37 true (.tuple #[])) H0 fun v89 H90 =>
 ∃ a91 : Addr, v89 = (.pointer ((some a91))) ∧ HRun Tryd.prog base (Instr.storeAt 37 (.pointer ((some a91))) (.agg #[(.int .i64 n84), (.int .i64 n85), (.int .i64 n86), (.int .i64 n87), (.int .u64 n88)])) H90 fun _ H92 =>
 ∃ a93 : Addr, AQ Tryd.prog (Instr.fieldAt 46 (.pointer ((some x5))) 0) (.pointer ((some a93))) ∧
 ∃ (A94 : Option Addr) (l94 c94 : Nat), QRun Tryd.prog (Instr.loadAt 24 (.pointer ((some a93)))) H92 (.slice A94 l94 c94) ∧
 ∃ a95 : Addr, AQ Tryd.prog (Instr.indexAt 24 (.slice A94 l94 c94) (.int .i64 y117)) (.pointer ((some a95))) ∧
 ∃ n96 : Int, QRun Tryd.prog (Instr.loadAt 3 (.pointer ((some a95)))) H92 (.int .i64 n96) ∧
 ∃ a97 : Addr, AQ Tryd.prog (Instr.fieldAt 37 (.pointer ((some a91))) 0) (.pointer ((some a97))) ∧
 ∃ n98 : Int, QRun Tryd.prog (Instr.loadAt 3 (.pointer ((some a97)))) H92 (.int .i64 n98) ∧
 if ((n98 : Int) != 1) = true then
 if (decide ((n96 : Int) ≥ 0)) = true then
 ∃ n99 : Int, ∃ n100 : Int, ∃ n101 : Int, ∃ n102 : Int, ∃ n103 : Int, QRun Tryd.prog (Instr.loadAt 37 (.pointer ((some a91)))) H92 (.agg #[(.int .i64 n99), (.int .i64 n100), (.int .i64 n101), (.int .i64 n102), (.int .u64 n103)]) ∧
 ∃ a104 : Addr, AQ Tryd.prog (Instr.fieldAt 26 (.pointer ((some x4))) 1) (.pointer ((some a104))) ∧
 ∃ (A105 : Option Addr) (l105 c105 : Nat), QRun Tryd.prog (Instr.loadAt 23 (.pointer ((some a104)))) H92 (.slice A105 l105 c105) ∧
 ∃ a106 : Addr, AQ Tryd.prog (Instr.indexAt 23 (.slice A105 l105 c105) (.int .i64 n96)) (.pointer ((some a106))) ∧
 ∃ n107 : Int, ∃ n108 : Int, ∃ n109 : Int, ∃ n110 : Int, ∃ n111 : Int, QRun Tryd.prog (Instr.loadAt 37 (.pointer ((some a106)))) H92 (.agg #[(.int .i64 n107), (.int .i64 n108), (.int .i64 n109), (.int .i64 n110), (.int .u64 n111)]) ∧
 ∃ a112 : Addr, AQ Tryd.prog (Instr.fieldAt 46 (.pointer ((some x5))) 0) (.pointer ((some a112))) ∧
 ∃ (A113 : Option Addr) (l113 c113 : Nat), QRun Tryd.prog (Instr.loadAt 24 (.pointer ((some a112)))) H92 (.slice A113 l113 c113) ∧
 HCall Tryd.prog base 54 #[(.agg #[(.int .i64 n99), (.int .i64 n100), (.int .i64 n101), (.int .i64 n102), (.int .u64 n103)]), (.agg #[(.int .i64 n107), (.int .i64 n108), (.int .i64 n109), (.int .i64 n110), (.int .u64 n111)]), (.slice A113 l113 c113)] H92 fun v114 H115 =>
 ∃ b116 : Bool, v114 = (.bool b116) ∧ if (!b116) = true then
 K (.bool false) H115
 else
 N2 (.int .i64 ((IntKind.i64.wrap (y117 + 1)))) H115
 else
 N2 (.int .i64 ((IntKind.i64.wrap (y117 + 1)))) H92
 else
 N2 (.int .i64 ((IntKind.i64.wrap (y117 + 1)))) H92
 else
 ∃ a117 : Addr, AQ Tryd.prog (Instr.fieldAt 26 (.pointer ((some x3))) 2) (.pointer ((some a117))) ∧
 ∃ (A118 : Option Addr) (l118 c118 : Nat), QRun Tryd.prog (Instr.loadAt 24 (.pointer ((some a117)))) H0 (.slice A118 l118 c118) ∧
 optimize_CheckCertificate.P3 base [(.pointer ((some x4))), (.pointer ((some x5))), (.slice A118 l118 c118), (.int .i64 (((l118 : Nat) : Int))), (.int .i64 0)] H0 K
theorem optimize_CheckCertificate.loop2 {base : Nat} {x3 x4 x5 : Addr} {Ax115 : Option Addr} {lx115 cx115 : Nat} {x116 y117_i : Int} {H0 : HH} {K : Value → HH → Prop} (J : Nat → Int → HH → Prop) (n : Nat) (h0 : J n y117_i H0)
    (hs : ∀ (n : Nat) (y117 : Int) (g : Fr) (H0 : HH), J n y117 H0 → optimize_CheckCertificate.B2 base x3 x4 x5 Ax115 lx115 cx115 x116 y117 g (fun w117 H => ∃ n', n' < n ∧ ∃ (y117' : Int), w117 = (.int .i64 y117') ∧ J n' y117' H) H0 K) : optimize_CheckCertificate.P2 base [(.pointer ((some x3))), (.pointer ((some x4))), (.pointer ((some x5))), (.slice Ax115 lx115 cx115), (.int .i64 x116), (.int .i64 y117_i)] H0 K := by
  refine loop_rule (ann := optimize_CheckCertificate.ann) (body := codeAt [.r, .r, .r, .r, .r, .r, .l, .r, .b, .lp] (bodyOf Tryd.f33)) mix (by kernel_rfl) 178405961422091485659171262068211009512828992 (by kernel_rfl) [3, 4, 5, 115, 116] [(.pointer ((some x3))), (.pointer ((some x4))), (.pointer ((some x5))), (.slice Ax115 lx115 cx115), (.int .i64 x116)] (by kernel_rfl) (fun fr ⟨e3, e4, e5, e115, e116, e117, _⟩ => ⟨e3, e4, e5, e115, e116, trivial⟩) (fun n g H => ∃ (y117 : Int), g 117 = (.int .i64 y117) ∧ J n y117 H) n (fun fr ⟨e3, e4, e5, e115, e116, e117, _⟩ => ⟨y117_i, e117, h0⟩) ?_
  rintro n g H0 ⟨e3, e4, e5, e115, e116, _⟩ ⟨y117, e117, hJ⟩
  rw [← ov_eq (g := g) [(3, (.pointer ((some x3)))), (4, (.pointer ((some x4)))), (5, (.pointer ((some x5)))), (115, (.slice Ax115 lx115 cx115)), (116, (.int .i64 x116)), (117, (.int .i64 y117))] (by simp only [List.mem_cons, List.not_mem_nil, or_false, forall_eq_or_imp, forall_eq, false_implies, implies_true]; exact ⟨e3, e4, e5, e115, e116, e117⟩)]
  have key : ∀ NN : Value → HH → Prop, optimize_CheckCertificate.B2 base x3 x4 x5 Ax115 lx115 cx115 x116 y117 g NN H0 K = wpC Tryd.prog base 175 optimize_CheckCertificate.ann (codeAt [.r, .r, .r, .r, .r, .r, .l, .r, .b, .lp] (bodyOf Tryd.f33)) (ov g [(3, (.pointer ((some x3)))), (4, (.pointer ((some x4)))), (5, (.pointer ((some x5)))), (115, (.slice Ax115 lx115 cx115)), (116, (.int .i64 x116)), (117, (.int .i64 y117))]) H0 (thenQ (fun fr H => NN (fr 117) H) (qAt Tryd.prog base 175 optimize_CheckCertificate.ann [.r, .r, .r, .r, .r, .r, .l, .r, .b] [] (bodyOf Tryd.f33) (retQ Tryd.prog 175 Tryd.f33 K))) := fun NN => by kernel_rfl
  refine cast ?_ (hs n y117 g H0 hJ)
  refine (key (fun w117 H => ∃ n', n' < n ∧ ∃ (y117' : Int), w117 = (.int .i64 y117') ∧ J n' y117' H)).trans ?_
  kernel_rfl
def optimize_CheckCertificate.B3 (base : Nat) (x4 x5 : Addr) (Ax148 : Option Addr) (lx148 cx148 : Nat) (x149 : Int) (y150 : Int) (g : Fr) (N3 : Value → HH → Prop) (H0 : HH) (K : Value → HH → Prop) : Prop :=
 if (decide ((y150 : Int) < x149)) = true then
 ∃ a119 : Addr, AQ Tryd.prog (Instr.indexAt 24 (.slice Ax148 lx148 cx148) (.int .i64 y150)) (.pointer ((some a119))) ∧
 ∃ n120 : Int, QRun Tryd.prog (Instr.loadAt 3 (.pointer ((some a119)))) H0 (.int .i64 n120) ∧
 ∃ a121 : Addr, AQ Tryd.prog (Instr.fieldAt 46 (.pointer ((some x5))) 0) (.pointer ((some a121))) ∧
 ∃ (A122 : Option Addr) (l122 c122 : Nat), QRun Tryd.prog (Instr.loadAt 24 (.pointer ((some a121)))) H0 (.slice A122 l122 c122) ∧
 ∃ a123 : Addr, AQ Tryd.prog (Instr.indexAt 24 (.slice A122 l122 c122) (.int .i64 n120)) (.pointer ((some a123))) ∧
 ∃ n124 : Int, QRun Tryd.prog (Instr.loadAt 3 (.pointer ((some a123)))) H0 (.int .i64 n124) ∧
 if (decide ((n124 : Int) < 0)) = false then
 ∃ a125 : Addr, AQ Tryd.prog (Instr.fieldAt 46 (.pointer ((some x5))) 0) (.pointer ((some a125))) ∧
 ∃ (A126 : Option Addr) (l126 c126 : Nat), QRun Tryd.prog (Instr.loadAt 24 (.pointer ((some a125)))) H0 (.slice A126 l126 c126) ∧
 ∃ a127 : Addr, AQ Tryd.prog (Instr.indexAt 24 (.slice A126 l126 c126) (.int .i64 n120)) (.pointer ((some a127))) ∧
 ∃ n128 : Int, QRun Tryd.prog (Instr.loadAt 3 (.pointer ((some a127)))) H0 (.int .i64 n128) ∧
 ∃ a129 : Addr, AQ Tryd.prog (Instr.fieldAt 26 (.pointer ((some x4))) 2) (.pointer ((some a129))) ∧
 ∃ (A130 : Option Addr) (l130 c130 : Nat), QRun Tryd.prog (Instr.loadAt 24 (.pointer ((some a129)))) H0 (.slice A130 l130 c130) ∧
 ∃ a131 : Addr, AQ Tryd.prog (Instr.indexAt 24 (.slice A130 l130 c130) (.int .i64 y150)) (.pointer ((some a131))) ∧
 ∃ n132 : Int, QRun Tryd.prog (Instr.loadAt 3 (.pointer ((some a131)))) H0 (.int .i64 n132) ∧
 if ((n128 : Int) != n132) = true then
 K (.bool false) H0
 else
 N3 (.int .i64 ((IntKind.i64.wrap (y150 + 1)))) H0
 else
 K (.bool false) H0
 else
 K (.bool true) H0
theorem optimize_CheckCertificate.loop3 {base : Nat} {x4 x5 : Addr} {Ax148 : Option Addr} {lx148 cx148 : Nat} {x149 y150_i : Int} {H0 : HH} {K : Value → HH → Prop} (J : Nat → Int → HH → Prop) (n : Nat) (h0 : J n y150_i H0)
    (hs : ∀ (n : Nat) (y150 : Int) (g : Fr) (H0 : HH), J n y150 H0 → optimize_CheckCertificate.B3 base x4 x5 Ax148 lx148 cx148 x149 y150 g (fun w150 H => ∃ n', n' < n ∧ ∃ (y150' : Int), w150 = (.int .i64 y150') ∧ J n' y150' H) H0 K) : optimize_CheckCertificate.P3 base [(.pointer ((some x4))), (.pointer ((some x5))), (.slice Ax148 lx148 cx148), (.int .i64 x149), (.int .i64 y150_i)] H0 K := by
  refine loop_rule (ann := optimize_CheckCertificate.ann) (body := codeAt [.r, .r, .r, .r, .r, .r, .r, .l, .r, .b, .lp] (bodyOf Tryd.f33)) mix (by kernel_rfl) 47890484224811334117738463540161192538590461185589312 (by kernel_rfl) [4, 5, 148, 149] [(.pointer ((some x4))), (.pointer ((some x5))), (.slice Ax148 lx148 cx148), (.int .i64 x149)] (by kernel_rfl) (fun fr ⟨e4, e5, e148, e149, e150, _⟩ => ⟨e4, e5, e148, e149, trivial⟩) (fun n g H => ∃ (y150 : Int), g 150 = (.int .i64 y150) ∧ J n y150 H) n (fun fr ⟨e4, e5, e148, e149, e150, _⟩ => ⟨y150_i, e150, h0⟩) ?_
  rintro n g H0 ⟨e4, e5, e148, e149, _⟩ ⟨y150, e150, hJ⟩
  rw [← ov_eq (g := g) [(4, (.pointer ((some x4)))), (5, (.pointer ((some x5)))), (148, (.slice Ax148 lx148 cx148)), (149, (.int .i64 x149)), (150, (.int .i64 y150))] (by simp only [List.mem_cons, List.not_mem_nil, or_false, forall_eq_or_imp, forall_eq, false_implies, implies_true]; exact ⟨e4, e5, e148, e149, e150⟩)]
  have key : ∀ NN : Value → HH → Prop, optimize_CheckCertificate.B3 base x4 x5 Ax148 lx148 cx148 x149 y150 g NN H0 K = wpC Tryd.prog base 175 optimize_CheckCertificate.ann (codeAt [.r, .r, .r, .r, .r, .r, .r, .l, .r, .b, .lp] (bodyOf Tryd.f33)) (ov g [(4, (.pointer ((some x4)))), (5, (.pointer ((some x5)))), (148, (.slice Ax148 lx148 cx148)), (149, (.int .i64 x149)), (150, (.int .i64 y150))]) H0 (thenQ (fun fr H => NN (fr 150) H) (qAt Tryd.prog base 175 optimize_CheckCertificate.ann [.r, .r, .r, .r, .r, .r, .r, .l, .r, .b] [] (bodyOf Tryd.f33) (retQ Tryd.prog 175 Tryd.f33 K))) := fun NN => by kernel_rfl
  refine cast ?_ (hs n y150 g H0 hJ)
  refine (key (fun w150 H => ∃ n', n' < n ∧ ∃ (y150' : Int), w150 = (.int .i64 y150') ∧ J n' y150' H)).trans ?_
  kernel_rfl
def privityref36_operands.ann : Ann := ⟨fun k => [], fun k => false, fun k => []⟩
def privityref36_commutative.ann : Ann := ⟨fun k => [], fun k => false, fun k => []⟩
def privityref36_representatives.ann : Ann := ⟨fun k => bif Nat.beq k 9 then [11] else [], fun k => bif Nat.beq k 11 then true else false, fun k => bif Nat.beq k 3 then [1, 3, 4] else bif Nat.beq k 7 then [1, 3, 4, 5, 6] else bif Nat.beq k 11 then [1, 3, 4, 5] else []⟩
def privityref36_representatives.R0 (base : Nat) (N0 : Value → Value → HH → Prop) (l : List Value) (H0 : HH) (K : Value → HH → Prop) : Prop := HCodeL Tryd.prog base 43 (codeAt [.r, .r, .l, .r, .b, .lp, .r, .l, .b, .r, .r] (bodyOf Tryd.f50)) [1, 3, 4, 5] l H0 (qAt Tryd.prog base 43 privityref36_representatives.ann [.r, .r, .l, .r, .b, .lp, .r, .l, .b, .r, .r] [fun fr H => N0 (fr 3) (fr 4) H] (bodyOf Tryd.f50) (retQ Tryd.prog 43 Tryd.f50 K))
def privityref36_representatives.S0 (base : Nat) (N0 : Value → Value → HH → Prop) (x1 : Addr) (Ax3 : Option Addr) (lx3 cx3 : Nat) (x4 x5 : Int) (H0 : HH) (K : Value → HH → Prop) : Prop :=
 HRun Tryd.prog base (Instr.buildSlice 24 1 #[(0, (.int .i64 x5))]) H0 fun v25 H26 =>
 ∃ (A27 : Option Addr) (l27 c27 : Nat), v25 = (.slice A27 l27 c27) ∧ HRun Tryd.prog base (Builtin.append_ #[24, 24] 24 #[(.slice Ax3 lx3 cx3), (.slice A27 l27 c27)]) H26 fun v28 H29 =>
 ∃ (A30 : Option Addr) (l30 c30 : Nat), v28 = (.slice A30 l30 c30) ∧ N0 (.slice A30 l30 c30) (.int .i64 ((IntKind.i64.wrap (x4 + 1)))) H29
def privityref36_representatives.B1 (base : Nat) (N0 : Value → Value → HH → Prop) (x1 : Addr) (Ax3 : Option Addr) (lx3 cx3 : Nat) (x4 : Int) (y5 : Int) (y6 : Int) (g : Fr) (N1 : Value → Value → HH → Prop) (H0 : HH) (K : Value → HH → Prop) : Prop :=
 if (decide ((y6 : Int) < x4)) = true then
 if ((y5 : Int) == x4) = true then
 ∃ a6 : Addr, AQ Tryd.prog (Instr.fieldAt 26 (.pointer ((some x1))) 1) (.pointer ((some a6))) ∧
 ∃ (A7 : Option Addr) (l7 c7 : Nat), QRun Tryd.prog (Instr.loadAt 23 (.pointer ((some a6)))) H0 (.slice A7 l7 c7) ∧
 ∃ a8 : Addr, AQ Tryd.prog (Instr.indexAt 23 (.slice A7 l7 c7) (.int .i64 x4)) (.pointer ((some a8))) ∧
 ∃ n9 : Int, ∃ n10 : Int, ∃ n11 : Int, ∃ n12 : Int, ∃ n13 : Int, QRun Tryd.prog (Instr.loadAt 37 (.pointer ((some a8)))) H0 (.agg #[(.int .i64 n9), (.int .i64 n10), (.int .i64 n11), (.int .i64 n12), (.int .u64 n13)]) ∧
 ∃ a14 : Addr, AQ Tryd.prog (Instr.fieldAt 26 (.pointer ((some x1))) 1) (.pointer ((some a14))) ∧
 ∃ (A15 : Option Addr) (l15 c15 : Nat), QRun Tryd.prog (Instr.loadAt 23 (.pointer ((some a14)))) H0 (.slice A15 l15 c15) ∧
 ∃ a16 : Addr, AQ Tryd.prog (Instr.indexAt 23 (.slice A15 l15 c15) (.int .i64 y6)) (.pointer ((some a16))) ∧
 ∃ n17 : Int, ∃ n18 : Int, ∃ n19 : Int, ∃ n20 : Int, ∃ n21 : Int, QRun Tryd.prog (Instr.loadAt 37 (.pointer ((some a16)))) H0 (.agg #[(.int .i64 n17), (.int .i64 n18), (.int .i64 n19), (.int .i64 n20), (.int .u64 n21)]) ∧
 HCall Tryd.prog base 66 #[(.agg #[(.int .i64 n9), (.int .i64 n10), (.int .i64 n11), (.int .i64 n12), (.int .u64 n13)]), (.agg #[(.int .i64 n17), (.int .i64 n18), (.int .i64 n19), (.int .i64 n20), (.int .u64 n21)]), (.slice Ax3 lx3 cx3)] H0 fun v22 H23 =>
 ∃ b24 : Bool, v22 = (.bool b24) ∧ if b24 = true then
 N1 (.int .i64 y6) (.int .i64 ((IntKind.i64.wrap (y6 + 1)))) H23
 else
 N1 (.int .i64 y5) (.int .i64 ((IntKind.i64.wrap (y6 + 1)))) H23
 else
 privityref36_representatives.R0 base N0 [(.pointer ((some x1))), (.slice Ax3 lx3 cx3), (.int .i64 x4), (.int .i64 y5)] H0 K
 else
 privityref36_representatives.R0 base N0 [(.pointer ((some x1))), (.slice Ax3 lx3 cx3), (.int .i64 x4), (.int .i64 y5)] H0 K
def privityref36_equivalent.ann : Ann := ⟨fun k => bif Nat.beq k 4 then [] else bif Nat.beq k 6 then [] else [], fun k => bif Nat.beq k 6 then true else false, fun k => bif Nat.beq k 6 then [2, 3, 4] else []⟩
def privityref36_equivalent.S0 (base : Nat) (Ax2 : Option Addr) (lx2 cx2 : Nat) (x3 x4 : Addr) (H0 : HH) (K : Value → HH → Prop) : Prop :=
 ∃ a47 : Addr, AQ Tryd.prog (Instr.fieldAt 37 (.pointer ((some x3))) 0) (.pointer ((some a47))) ∧
 ∃ n48 : Int, QRun Tryd.prog (Instr.loadAt 3 (.pointer ((some a47)))) H0 (.int .i64 n48) ∧
 ∃ b49 : Bool, HCall Tryd.prog base 67 #[(.int .i64 n48)] H0 (fun v_ H_ => v_ = (.bool b49) ∧ H_ = H0) ∧
 if b49 = true then
 ∃ a50 : Addr, AQ Tryd.prog (Instr.fieldAt 37 (.pointer ((some x3))) 2) (.pointer ((some a50))) ∧
 ∃ n51 : Int, QRun Tryd.prog (Instr.loadAt 3 (.pointer ((some a50)))) H0 (.int .i64 n51) ∧
 ∃ a52 : Addr, AQ Tryd.prog (Instr.indexAt 24 (.slice Ax2 lx2 cx2) (.int .i64 n51)) (.pointer ((some a52))) ∧
 ∃ n53 : Int, QRun Tryd.prog (Instr.loadAt 3 (.pointer ((some a52)))) H0 (.int .i64 n53) ∧
 ∃ a54 : Addr, AQ Tryd.prog (Instr.fieldAt 37 (.pointer ((some x4))) 3) (.pointer ((some a54))) ∧
 ∃ n55 : Int, QRun Tryd.prog (Instr.loadAt 3 (.pointer ((some a54)))) H0 (.int .i64 n55) ∧
 ∃ a56 : Addr, AQ Tryd.prog (Instr.indexAt 24 (.slice Ax2 lx2 cx2) (.int .i64 n55)) (.pointer ((some a56))) ∧
 ∃ n57 : Int, QRun Tryd.prog (Instr.loadAt 3 (.pointer ((some a56)))) H0 (.int .i64 n57) ∧
 if ((n53 : Int) == n57) = true then
 ∃ a58 : Addr, AQ Tryd.prog (Instr.fieldAt 37 (.pointer ((some x3))) 3) (.pointer ((some a58))) ∧
 ∃ n59 : Int, QRun Tryd.prog (Instr.loadAt 3 (.pointer ((some a58)))) H0 (.int .i64 n59) ∧
 ∃ a60 : Addr, AQ Tryd.prog (Instr.indexAt 24 (.slice Ax2 lx2 cx2) (.int .i64 n59)) (.pointer ((some a60))) ∧
 ∃ n61 : Int, QRun Tryd.prog (Instr.loadAt 3 (.pointer ((some a60)))) H0 (.int .i64 n61) ∧
 ∃ a62 : Addr, AQ Tryd.prog (Instr.fieldAt 37 (.pointer ((some x4))) 2) (.pointer ((some a62))) ∧
 ∃ n63 : Int, QRun Tryd.prog (Instr.loadAt 3 (.pointer ((some a62)))) H0 (.int .i64 n63) ∧
 ∃ a64 : Addr, AQ Tryd.prog (Instr.indexAt 24 (.slice Ax2 lx2 cx2) (.int .i64 n63)) (.pointer ((some a64))) ∧
 ∃ n65 : Int, QRun Tryd.prog (Instr.loadAt 3 (.pointer ((some a64)))) H0 (.int .i64 n65) ∧
 K (.bool (((n61 : Int) == n65))) H0
 else
 K (.bool false) H0
 else
 K (.bool false) H0
def privityref36_liveGates.ann : Ann := ⟨fun k => [], fun k => bif Nat.beq k 12 then true else bif Nat.beq k 15 then true else false, fun k => bif Nat.beq k 3 then [1, 2, 5, 6] else bif Nat.beq k 7 then [1, 2, 5, 7] else bif Nat.beq k 12 then [1, 2, 5, 7, 8] else bif Nat.beq k 15 then [1, 2, 5, 7, 8, 10] else []⟩
def privityref36_liveGates.R0 (base : Nat) (N1 : Value → HH → Prop) (l : List Value) (H0 : HH) (K : Value → HH → Prop) : Prop := HCodeL Tryd.prog base 86 (codeAt [.r, .r, .r, .l, .r, .b, .lp, .r, .l, .b, .r, .r] (bodyOf Tryd.f51)) [1, 2, 5, 7, 8] l H0 (qAt Tryd.prog base 86 privityref36_liveGates.ann [.r, .r, .r, .l, .r, .b, .lp, .r, .l, .b, .r, .r] [fun fr H => N1 (fr 7) H] (bodyOf Tryd.f51) (retQ Tryd.prog 86 Tryd.f51 K))
def privityref36_liveGates.R1 (base : Nat) (N1 : Value → HH → Prop) (l : List Value) (H0 : HH) (K : Value → HH → Prop) : Prop := HCodeL Tryd.prog base 86 (codeAt [.r, .r, .r, .l, .r, .b, .lp, .r, .l, .b, .r, .r, .r, .r] (bodyOf Tryd.f51)) [1, 2, 5, 7, 8, 10] l H0 (qAt Tryd.prog base 86 privityref36_liveGates.ann [.r, .r, .r, .l, .r, .b, .lp, .r, .l, .b, .r, .r, .r, .r] [fun fr H => N1 (fr 7) H] (bodyOf Tryd.f51) (retQ Tryd.prog 86 Tryd.f51 K))
def privityref36_liveGates.S0 (base : Nat) (N1 : Value → HH → Prop) (Ax1 : Option Addr) (lx1 cx1 : Nat) (x2 : Addr) (Ax5 : Option Addr) (lx5 cx5 : Nat) (x7 : Int) (x8 : Addr) (H0 : HH) (K : Value → HH → Prop) : Prop :=
 ∃ a37 : Addr, AQ Tryd.prog (Instr.fieldAt 37 (.pointer ((some x8))) 0) (.pointer ((some a37))) ∧
 ∃ n38 : Int, QRun Tryd.prog (Instr.loadAt 3 (.pointer ((some a37)))) H0 (.int .i64 n38) ∧
 HCall Tryd.prog base 52 #[(.int .i64 n38)] H0 fun v39 H40 =>
 ∃ b41 : Bool, ∃ b42 : Bool, v39 = (.tuple #[(.bool b41), (.bool b42)]) ∧ ∃ a43 : Addr, AQ Tryd.prog (Instr.indexAt 62 (.slice Ax5 lx5 cx5) (.int .i64 x7)) (.pointer ((some a43))) ∧
 ∃ b44 : Bool, QRun Tryd.prog (Instr.loadAt 4 (.pointer ((some a43)))) H40 (.bool b44) ∧
 if b44 = true then
 if b41 = true then
 ∃ a45 : Addr, AQ Tryd.prog (Instr.fieldAt 37 (.pointer ((some x8))) 2) (.pointer ((some a45))) ∧
 ∃ n46 : Int, QRun Tryd.prog (Instr.loadAt 3 (.pointer ((some a45)))) H40 (.int .i64 n46) ∧
 ∃ a47 : Addr, AQ Tryd.prog (Instr.indexAt 24 (.slice Ax1 lx1 cx1) (.int .i64 n46)) (.pointer ((some a47))) ∧
 ∃ n48 : Int, QRun Tryd.prog (Instr.loadAt 3 (.pointer ((some a47)))) H40 (.int .i64 n48) ∧
 ∃ a49 : Addr, AQ Tryd.prog (Instr.indexAt 62 (.slice Ax5 lx5 cx5) (.int .i64 n48)) (.pointer ((some a49))) ∧
 HRun Tryd.prog base (Instr.storeAt 4 (.pointer ((some a49))) (.bool true)) H40 fun _ H50 =>
 privityref36_liveGates.R1 base N1 [(.slice Ax1 lx1 cx1), (.pointer ((some x2))), (.slice Ax5 lx5 cx5), (.int .i64 x7), (.pointer ((some x8))), (.bool b42)] H50 K
 else
 privityref36_liveGates.R1 base N1 [(.slice Ax1 lx1 cx1), (.pointer ((some x2))), (.slice Ax5 lx5 cx5), (.int .i64 x7), (.pointer ((some x8))), (.bool b42)] H40 K
 else
 privityref36_liveGates.R1 base N1 [(.slice Ax1 lx1 cx1), (.pointer ((some x2))), (.slice Ax5 lx5 cx5), (.int .i64 x7), (.pointer ((some x8))), (.bool b42)] H40 K
def privityref36_liveGates.S1 (base : Nat) (N1 : Value → HH → Prop) (Ax1 : Option Addr) (lx1 cx1 : Nat) (x2 : Addr) (Ax5 : Option Addr) (lx5 cx5 : Nat) (x7 : Int) (x8 : Addr) (x10 : Bool) (H0 : HH) (K : Value → HH → Prop) : Prop :=
 ∃ a51 : Addr, AQ Tryd.prog (Instr.indexAt 62 (.slice Ax5 lx5 cx5) (.int .i64 x7)) (.pointer ((some a51))) ∧
 ∃ b52 : Bool, QRun Tryd.prog (Instr.loadAt 4 (.pointer ((some a51)))) H0 (.bool b52) ∧
 if b52 = true then
 if x10 = true then
 ∃ a53 : Addr, AQ Tryd.prog (Instr.fieldAt 37 (.pointer ((some x8))) 3) (.pointer ((some a53))) ∧
 ∃ n54 : Int, QRun Tryd.prog (Instr.loadAt 3 (.pointer ((some a53)))) H0 (.int .i64 n54) ∧
 ∃ a55 : Addr, AQ Tryd.prog (Instr.indexAt 24 (.slice Ax1 lx1 cx1) (.int .i64 n54)) (.pointer ((some a55))) ∧
 ∃ n56 : Int, QRun Tryd.prog (Instr.loadAt 3 (.pointer ((some a55)))) H0 (.int .i64 n56) ∧
 ∃ a57 : Addr, AQ Tryd.prog (Instr.indexAt 62 (.slice Ax5 lx5 cx5) (.int .i64 n56)) (.pointer ((some a57))) ∧
 HRun Tryd.prog base (Instr.storeAt 4 (.pointer ((some a57))) (.bool true)) H0 fun _ H58 =>
 N1 (.int .i64 ((IntKind.i64.wrap (x7 - 1)))) H58
 else
 N1 (.int .i64 ((IntKind.i64.wrap (x7 - 1)))) H0
 else
 N1 (.int .i64 ((IntKind.i64.wrap (x7 - 1)))) H0
def privityref36_liveGates.B1 (base : Nat) (Ax1 : Option Addr) (lx1 cx1 : Nat) (x2 : Addr) (Ax5 : Option Addr) (lx5 cx5 : Nat) (y7 : Int) (g : Fr) (N1 : Value → HH → Prop) (H0 : HH) (K : Value → HH → Prop) : Prop :=
 if (decide ((y7 : Int) ≥ 0)) = true then
 ∃ a21 : Addr, AQ Tryd.prog (Instr.fieldAt 26 (.pointer ((some x2))) 1) (.pointer ((some a21))) ∧
 ∃ (A22 : Option Addr) (l22 c22 : Nat), QRun Tryd.prog (Instr.loadAt 23 (.pointer ((some a21)))) H0 (.slice A22 l22 c22) ∧
 ∃ a23 : Addr, AQ Tryd.prog (Instr.indexAt 23 (.slice A22 l22 c22) (.int .i64 y7)) (.pointer ((some a23))) ∧
 ∃ n24 : Int, ∃ n25 : Int, ∃ n26 : Int, ∃ n27 : Int, ∃ n28 : Int, QRun Tryd.prog (Instr.loadAt 37 (.pointer ((some a23)))) H0 (.agg #[(.int .i64 n24), (.int .i64 n25), (.int .i64 n26), (.int .i64 n27), (.int .u64 n28)]) ∧
 HRun Tryd.prog base (Instr.alloc 37 true (.tuple #[])) H0 fun v29 H30 =>
 ∃ a31 : Addr, v29 = (.pointer ((some a31))) ∧ HRun Tryd.prog base (Instr.storeAt 37 (.pointer ((some a31))) (.agg #[(.int .i64 n24), (.int .i64 n25), (.int .i64 n26), (.int .i64 n27), (.int .u64 n28)])) H30 fun _ H32 =>
 ∃ a33 : Addr, AQ Tryd.prog (Instr.fieldAt 37 (.pointer ((some a31))) 0) (.pointer ((some a33))) ∧
 ∃ n34 : Int, QRun Tryd.prog (Instr.loadAt 3 (.pointer ((some a33)))) H32 (.int .i64 n34) ∧
 if ((n34 : Int) == 1) = true then
 ∃ a35 : Addr, AQ Tryd.prog (Instr.indexAt 62 (.slice Ax5 lx5 cx5) (.int .i64 y7)) (.pointer ((some a35))) ∧
 HRun Tryd.prog base (Instr.storeAt 4 (.pointer ((some a35))) (.bool true)) H32 fun _ H36 =>
 privityref36_liveGates.R0 base N1 [(.slice Ax1 lx1 cx1), (.pointer ((some x2))), (.slice Ax5 lx5 cx5), (.int .i64 y7), (.pointer ((some a31)))] H36 K
 else
 privityref36_liveGates.R0 base N1 [(.slice Ax1 lx1 cx1), (.pointer ((some x2))), (.slice Ax5 lx5 cx5), (.int .i64 y7), (.pointer ((some a31)))] H32 K
 else
 K (.slice Ax5 lx5 cx5) H0
def privityref36_Optimize.ann : Ann := ⟨fun k => bif Nat.beq k 9 then [10, 11, 13] else bif Nat.beq k 15 then [10] else bif Nat.beq k 17 then [10] else bif Nat.beq k 23 then [11, 12, 14] else bif Nat.beq k 24 then [2, 3] else [], fun k => bif Nat.beq k 16 then true else bif Nat.beq k 18 then true else false, fun k => bif Nat.beq k 6 then [1, 2, 3, 4, 5, 6, 7, 8] else bif Nat.beq k 16 then [1, 2, 3, 4, 5, 6, 7, 8, 9, 11] else bif Nat.beq k 18 then [1, 2, 3, 4, 5, 6, 7, 8, 9] else bif Nat.beq k 21 then [1, 2, 3, 6, 7, 12] else []⟩
def privityref36_Optimize.R1 (base : Nat) (N0 : Value → HH → Prop) (l : List Value) (H0 : HH) (K : Value → HH → Prop) : Prop := HCodeL Tryd.prog base 127 (codeAt [.r, .r, .r, .r, .r, .l, .r, .b, .lp, .r, .l, .b, .r, .r, .r, .r, .r, .r] (bodyOf Tryd.f30)) [1, 2, 3, 4, 5, 6, 7, 8, 9] l H0 (qAt Tryd.prog base 127 privityref36_Optimize.ann [.r, .r, .r, .r, .r, .l, .r, .b, .lp, .r, .l, .b, .r, .r, .r, .r, .r, .r] [fun fr H => N0 (fr 8) H] (bodyOf Tryd.f30) (retQ Tryd.prog 127 Tryd.f30 K))
def privityref36_Optimize.S0 (base : Nat) (N0 : Value → HH → Prop) (x1 x2 x3 : Addr) (Ax4 : Option Addr) (lx4 cx4 : Nat) (Ax5 : Option Addr) (lx5 cx5 : Nat) (x6 x7 : Addr) (x8 : Int) (x9 : Addr) (x11 : Bool) (H0 : HH) (K : Value → HH → Prop) : Prop :=
 if x11 = true then
 ∃ a120 : Addr, AQ Tryd.prog (Instr.fieldAt 46 (.pointer ((some x7))) 0) (.pointer ((some a120))) ∧
 ∃ (A121 : Option Addr) (l121 c121 : Nat), QRun Tryd.prog (Instr.loadAt 24 (.pointer ((some a120)))) H0 (.slice A121 l121 c121) ∧
 ∃ a122 : Addr, AQ Tryd.prog (Instr.fieldAt 37 (.pointer ((some x9))) 3) (.pointer ((some a122))) ∧
 ∃ n123 : Int, QRun Tryd.prog (Instr.loadAt 3 (.pointer ((some a122)))) H0 (.int .i64 n123) ∧
 ∃ a124 : Addr, AQ Tryd.prog (Instr.indexAt 24 (.slice Ax4 lx4 cx4) (.int .i64 n123)) (.pointer ((some a124))) ∧
 ∃ n125 : Int, QRun Tryd.prog (Instr.loadAt 3 (.pointer ((some a124)))) H0 (.int .i64 n125) ∧
 ∃ a126 : Addr, AQ Tryd.prog (Instr.indexAt 24 (.slice A121 l121 c121) (.int .i64 n125)) (.pointer ((some a126))) ∧
 ∃ n127 : Int, QRun Tryd.prog (Instr.loadAt 3 (.pointer ((some a126)))) H0 (.int .i64 n127) ∧
 ∃ a128 : Addr, AQ Tryd.prog (Instr.fieldAt 37 (.pointer ((some x9))) 3) (.pointer ((some a128))) ∧
 HRun Tryd.prog base (Instr.storeAt 3 (.pointer ((some a128))) (.int .i64 n127)) H0 fun _ H129 =>
 privityref36_Optimize.R1 base N0 [(.pointer ((some x1))), (.pointer ((some x2))), (.pointer ((some x3))), (.slice Ax4 lx4 cx4), (.slice Ax5 lx5 cx5), (.pointer ((some x6))), (.pointer ((some x7))), (.int .i64 x8), (.pointer ((some x9)))] H129 K
 else
 privityref36_Optimize.R1 base N0 [(.pointer ((some x1))), (.pointer ((some x2))), (.pointer ((some x3))), (.slice Ax4 lx4 cx4), (.slice Ax5 lx5 cx5), (.pointer ((some x6))), (.pointer ((some x7))), (.int .i64 x8), (.pointer ((some x9)))] H0 K
def privityref36_Optimize.S1 (base : Nat) (N0 : Value → HH → Prop) (x1 x2 x3 : Addr) (Ax4 : Option Addr) (lx4 cx4 : Nat) (Ax5 : Option Addr) (lx5 cx5 : Nat) (x6 x7 : Addr) (x8 : Int) (x9 : Addr) (H0 : HH) (K : Value → HH → Prop) : Prop :=
 ∃ a130 : Addr, AQ Tryd.prog (Instr.fieldAt 46 (.pointer ((some x7))) 0) (.pointer ((some a130))) ∧
 ∃ (A131 : Option Addr) (l131 c131 : Nat), QRun Tryd.prog (Instr.loadAt 24 (.pointer ((some a130)))) H0 (.slice A131 l131 c131) ∧
 ∃ a132 : Addr, AQ Tryd.prog (Instr.fieldAt 26 (.pointer ((some x6))) 1) (.pointer ((some a132))) ∧
 ∃ (A133 : Option Addr) (l133 c133 : Nat), QRun Tryd.prog (Instr.loadAt 23 (.pointer ((some a132)))) H0 (.slice A133 l133 c133) ∧
 HRun Tryd.prog base (Instr.buildSlice 24 1 #[(0, (.int .i64 (((l133 : Nat) : Int))))]) H0 fun v134 H135 =>
 ∃ (A136 : Option Addr) (l136 c136 : Nat), v134 = (.slice A136 l136 c136) ∧ HRun Tryd.prog base (Builtin.append_ #[24, 24] 24 #[(.slice A131 l131 c131), (.slice A136 l136 c136)]) H135 fun v137 H138 =>
 ∃ (A139 : Option Addr) (l139 c139 : Nat), v137 = (.slice A139 l139 c139) ∧ ∃ a140 : Addr, AQ Tryd.prog (Instr.fieldAt 46 (.pointer ((some x7))) 0) (.pointer ((some a140))) ∧
 HRun Tryd.prog base (Instr.storeAt 24 (.pointer ((some a140))) (.slice A139 l139 c139)) H138 fun _ H141 =>
 ∃ a142 : Addr, AQ Tryd.prog (Instr.fieldAt 26 (.pointer ((some x6))) 1) (.pointer ((some a142))) ∧
 ∃ (A143 : Option Addr) (l143 c143 : Nat), QRun Tryd.prog (Instr.loadAt 23 (.pointer ((some a142)))) H141 (.slice A143 l143 c143) ∧
 ∃ n144 : Int, ∃ n145 : Int, ∃ n146 : Int, ∃ n147 : Int, ∃ n148 : Int, QRun Tryd.prog (Instr.loadAt 37 (.pointer ((some x9)))) H141 (.agg #[(.int .i64 n144), (.int .i64 n145), (.int .i64 n146), (.int .i64 n147), (.int .u64 n148)]) ∧
 HRun Tryd.prog base (Instr.buildSlice 23 1 #[(0, (.agg #[(.int .i64 n144), (.int .i64 n145), (.int .i64 n146), (.int .i64 n147), (.int .u64 n148)]))]) H141 fun v149 H150 =>
 ∃ (A151 : Option Addr) (l151 c151 : Nat), v149 = (.slice A151 l151 c151) ∧ HRun Tryd.prog base (Builtin.append_ #[23, 23] 23 #[(.slice A143 l143 c143), (.slice A151 l151 c151)]) H150 fun v152 H153 =>
 ∃ (A154 : Option Addr) (l154 c154 : Nat), v152 = (.slice A154 l154 c154) ∧ ∃ a155 : Addr, AQ Tryd.prog (Instr.fieldAt 26 (.pointer ((some x6))) 1) (.pointer ((some a155))) ∧
 HRun Tryd.prog base (Instr.storeAt 23 (.pointer ((some a155))) (.slice A154 l154 c154)) H153 fun _ H156 =>
 N0 (.int .i64 ((IntKind.i64.wrap (x8 + 1)))) H156
def privityref36_Optimize.B1 (base : Nat) (x1 x2 x3 x6 x7 : Addr) (y12 : Int) (g : Fr) (N1 : Value → HH → Prop) (H0 : HH) (K : Value → HH → Prop) : Prop :=
 ∃ a94 : Addr, AQ Tryd.prog (Instr.fieldAt 26 (.pointer ((some x1))) 2) (.pointer ((some a94))) ∧
 ∃ (A95 : Option Addr) (l95 c95 : Nat), QRun Tryd.prog (Instr.loadAt 24 (.pointer ((some a94)))) H0 (.slice A95 l95 c95) ∧
 if (decide ((y12 : Int) < (((l95 : Nat) : Int)))) = true then
 ∃ a96 : Addr, AQ Tryd.prog (Instr.fieldAt 26 (.pointer ((some x6))) 2) (.pointer ((some a96))) ∧
 ∃ (A97 : Option Addr) (l97 c97 : Nat), QRun Tryd.prog (Instr.loadAt 24 (.pointer ((some a96)))) H0 (.slice A97 l97 c97) ∧
 ∃ a98 : Addr, AQ Tryd.prog (Instr.fieldAt 46 (.pointer ((some x7))) 0) (.pointer ((some a98))) ∧
 ∃ (A99 : Option Addr) (l99 c99 : Nat), QRun Tryd.prog (Instr.loadAt 24 (.pointer ((some a98)))) H0 (.slice A99 l99 c99) ∧
 ∃ a100 : Addr, AQ Tryd.prog (Instr.fieldAt 26 (.pointer ((some x1))) 2) (.pointer ((some a100))) ∧
 ∃ (A101 : Option Addr) (l101 c101 : Nat), QRun Tryd.prog (Instr.loadAt 24 (.pointer ((some a100)))) H0 (.slice A101 l101 c101) ∧
 ∃ a102 : Addr, AQ Tryd.prog (Instr.indexAt 24 (.slice A101 l101 c101) (.int .i64 y12)) (.pointer ((some a102))) ∧
 ∃ n103 : Int, QRun Tryd.prog (Instr.loadAt 3 (.pointer ((some a102)))) H0 (.int .i64 n103) ∧
 ∃ a104 : Addr, AQ Tryd.prog (Instr.indexAt 24 (.slice A99 l99 c99) (.int .i64 n103)) (.pointer ((some a104))) ∧
 ∃ n105 : Int, QRun Tryd.prog (Instr.loadAt 3 (.pointer ((some a104)))) H0 (.int .i64 n105) ∧
 HRun Tryd.prog base (Instr.buildSlice 24 1 #[(0, (.int .i64 n105))]) H0 fun v106 H107 =>
 ∃ (A108 : Option Addr) (l108 c108 : Nat), v106 = (.slice A108 l108 c108) ∧ QRun Tryd.prog (Instr.loadAt 24 (.pointer ((some a96)))) H107 (.slice A97 l97 c97) ∧
 HRun Tryd.prog base (Builtin.append_ #[24, 24] 24 #[(.slice A97 l97 c97), (.slice A108 l108 c108)]) H107 fun v109 H110 =>
 ∃ (A111 : Option Addr) (l111 c111 : Nat), v109 = (.slice A111 l111 c111) ∧ ∃ a112 : Addr, AQ Tryd.prog (Instr.fieldAt 26 (.pointer ((some x6))) 2) (.pointer ((some a112))) ∧
 HRun Tryd.prog base (Instr.storeAt 24 (.pointer ((some a112))) (.slice A111 l111 c111)) H110 fun _ H113 =>
 N1 (.int .i64 ((IntKind.i64.wrap (y12 + 1)))) H113
 else
 ∃ n114 : Int, ∃ (A115 : Option Addr) (l115 c115 : Nat), ∃ (A116 : Option Addr) (l116 c116 : Nat), QRun Tryd.prog (Instr.loadAt 26 (.pointer ((some x6)))) H0 (.agg #[(.int .u64 n114), (.slice A115 l115 c115), (.slice A116 l116 c116)]) ∧
 ∃ (A117 : Option Addr) (l117 c117 : Nat), QRun Tryd.prog (Instr.loadAt 46 (.pointer ((some x7)))) H0 (.agg #[(.slice A117 l117 c117)]) ∧
 HRun Tryd.prog base (Instr.storeAt 26 (.pointer ((some x2))) (.agg #[(.int .u64 n114), (.slice A115 l115 c115), (.slice A116 l116 c116)])) H0 fun _ H118 =>
 QRun Tryd.prog (Instr.loadAt 46 (.pointer ((some x7)))) H118 (.agg #[(.slice A117 l117 c117)]) ∧
 HRun Tryd.prog base (Instr.storeAt 46 (.pointer ((some x3))) (.agg #[(.slice A117 l117 c117)])) H118 fun _ H119 =>
 ∃ r_, QRun Tryd.prog (results Tryd.f30 (List.toArray [(g 0), (.pointer ((some x1))), (.pointer ((some x2))), (.pointer ((some x3))), (g 4), (g 5), (.pointer ((some x6))), (.pointer ((some x7))), (g 8), (g 9), (g 10), (g 11), (.int .i64 y12), (g 13), (g 14), (g 15), (g 16), (g 17), (g 18), (g 19), (g 20), (g 21), (g 22), (g 23), (g 24), (g 25), (g 26), (g 27), (g 28), (g 29), (g 30), (g 31), (g 32), (g 33), (g 34), (g 35), (g 36), (g 37), (g 38), (g 39), (g 40), (g 41), (g 42), (g 43), (g 44), (g 45), (g 46), (g 47), (g 48), (g 49), (g 50), (g 51), (g 52), (g 53), (g 54), (g 55), (g 56), (g 57), (g 58), (g 59), (g 60), (g 61), (g 62), (g 63), (g 64), (g 65), (g 66), (g 67), (g 68), (g 69), (g 70), (g 71), (g 72), (g 73), (g 74), (g 75), (g 76), (g 77), (g 78), (g 79), (g 80), (g 81), (g 82), (g 83), (g 84), (g 85), (g 86), (g 87), (g 88), (g 89), (g 90), (g 91), (g 92), (g 93), (g 94), (g 95), (g 96), (g 97), (g 98), (g 99), (g 100), (g 101), (g 102), (g 103), (.int .i64 y12), (.pointer ((some a94))), (.slice A95 l95 c95), (.int .i64 (((l95 : Nat) : Int))), (.bool ((decide ((y12 : Int) < (((l95 : Nat) : Int)))))), (g 109), (g 110), (g 111), (g 112), (g 113), (g 114), (g 115), (g 116), (g 117), (g 118), (g 119), (g 120), (g 121), (g 122), (g 123), (g 124), (.agg #[(.int .u64 n114), (.slice A115 l115 c115), (.slice A116 l116 c116)]), (.agg #[(.slice A117 l117 c117)])])) H119 r_ ∧ K r_ H119
def privityref36_inputGates.ann : Ann := ⟨fun k => [], fun k => false, fun k => bif Nat.beq k 3 then [1, 3, 4] else []⟩
def privityref36_corresponds.ann : Ann := ⟨fun k => [], fun k => bif Nat.beq k 7 then true else bif Nat.beq k 9 then true else bif Nat.beq k 11 then true else bif Nat.beq k 13 then true else false, fun k => bif Nat.beq k 7 then [2, 3, 4, 7, 8, 9, 10] else bif Nat.beq k 9 then [3, 4, 7, 8, 9, 10] else bif Nat.beq k 11 then [3, 4, 7, 8, 9, 10] else bif Nat.beq k 13 then [3, 4, 9, 10] else []⟩
def privityref36_corresponds.R1 (base : Nat) (l : List Value) (H0 : HH) (K : Value → HH → Prop) : Prop := HCodeL Tryd.prog base 86 (codeAt [.r, .r, .r, .r, .r, .r] (bodyOf Tryd.f56)) [3, 4, 7, 8, 9, 10] l H0 (qAt Tryd.prog base 86 privityref36_corresponds.ann [.r, .r, .r, .r, .r, .r] [] (bodyOf Tryd.f56) (retQ Tryd.prog 86 Tryd.f56 K))
def privityref36_corresponds.R2 (base : Nat) (l : List Value) (H0 : HH) (K : Value → HH → Prop) : Prop := HCodeL Tryd.prog base 86 (codeAt [.r, .r, .r, .r, .r, .r, .r] (bodyOf Tryd.f56)) [3, 4, 7, 8, 9, 10] l H0 (qAt Tryd.prog base 86 privityref36_corresponds.ann [.r, .r, .r, .r, .r, .r, .r] [] (bodyOf Tryd.f56) (retQ Tryd.prog 86 Tryd.f56 K))
def privityref36_corresponds.R3 (base : Nat) (l : List Value) (H0 : HH) (K : Value → HH → Prop) : Prop := HCodeL Tryd.prog base 86 (codeAt [.r, .r, .r, .r, .r, .r, .r, .r] (bodyOf Tryd.f56)) [3, 4, 9, 10] l H0 (qAt Tryd.prog base 86 privityref36_corresponds.ann [.r, .r, .r, .r, .r, .r, .r, .r] [] (bodyOf Tryd.f56) (retQ Tryd.prog 86 Tryd.f56 K))
def privityref36_corresponds.S0 (base : Nat) (Ax2 : Option Addr) (lx2 cx2 : Nat) (x3 x4 : Addr) (x7 x8 : Bool) (x9 x10 : Int) (H0 : HH) (K : Value → HH → Prop) : Prop :=
 if x8 = true then
 ∃ a25 : Addr, AQ Tryd.prog (Instr.fieldAt 37 (.pointer ((some x3))) 3) (.pointer ((some a25))) ∧
 ∃ n26 : Int, QRun Tryd.prog (Instr.loadAt 3 (.pointer ((some a25)))) H0 (.int .i64 n26) ∧
 ∃ a27 : Addr, AQ Tryd.prog (Instr.indexAt 24 (.slice Ax2 lx2 cx2) (.int .i64 n26)) (.pointer ((some a27))) ∧
 ∃ n28 : Int, QRun Tryd.prog (Instr.loadAt 3 (.pointer ((some a27)))) H0 (.int .i64 n28) ∧
 privityref36_corresponds.R1 base [(.pointer ((some x3))), (.pointer ((some x4))), (.bool x7), (.bool x8), (.int .i64 x9), (.int .i64 n28)] H0 K
 else
 privityref36_corresponds.R1 base [(.pointer ((some x3))), (.pointer ((some x4))), (.bool x7), (.bool x8), (.int .i64 x9), (.int .i64 x10)] H0 K
def privityref36_corresponds.S1 (base : Nat) (x3 x4 : Addr) (x7 x8 : Bool) (x9 x10 : Int) (H0 : HH) (K : Value → HH → Prop) : Prop :=
 if x7 = true then
 if (decide ((x9 : Int) < 0)) = false then
 if x8 = true then
 if (decide ((x10 : Int) < 0)) = true then
 K (.bool false) H0
 else
 privityref36_corresponds.R2 base [(.pointer ((some x3))), (.pointer ((some x4))), (.bool x7), (.bool x8), (.int .i64 x9), (.int .i64 x10)] H0 K
 else
 privityref36_corresponds.R2 base [(.pointer ((some x3))), (.pointer ((some x4))), (.bool x7), (.bool x8), (.int .i64 x9), (.int .i64 x10)] H0 K
 else
 K (.bool false) H0
 else
 if x8 = true then
 if (decide ((x10 : Int) < 0)) = true then
 K (.bool false) H0
 else
 privityref36_corresponds.R2 base [(.pointer ((some x3))), (.pointer ((some x4))), (.bool x7), (.bool x8), (.int .i64 x9), (.int .i64 x10)] H0 K
 else
 privityref36_corresponds.R2 base [(.pointer ((some x3))), (.pointer ((some x4))), (.bool x7), (.bool x8), (.int .i64 x9), (.int .i64 x10)] H0 K
def privityref36_corresponds.S2 (base : Nat) (x3 x4 : Addr) (x7 x8 : Bool) (x9 x10 : Int) (H0 : HH) (K : Value → HH → Prop) : Prop :=
 if (!x7) = false then
 ∃ a29 : Addr, AQ Tryd.prog (Instr.fieldAt 37 (.pointer ((some x4))) 2) (.pointer ((some a29))) ∧
 ∃ n30 : Int, QRun Tryd.prog (Instr.loadAt 3 (.pointer ((some a29)))) H0 (.int .i64 n30) ∧
 if ((x9 : Int) == n30) = true then
 if (!x8) = false then
 ∃ a31 : Addr, AQ Tryd.prog (Instr.fieldAt 37 (.pointer ((some x4))) 3) (.pointer ((some a31))) ∧
 ∃ n32 : Int, QRun Tryd.prog (Instr.loadAt 3 (.pointer ((some a31)))) H0 (.int .i64 n32) ∧
 if ((x10 : Int) == n32) = true then
 K (.bool true) H0
 else
 privityref36_corresponds.R3 base [(.pointer ((some x3))), (.pointer ((some x4))), (.int .i64 x9), (.int .i64 x10)] H0 K
 else
 K (.bool true) H0
 else
 privityref36_corresponds.R3 base [(.pointer ((some x3))), (.pointer ((some x4))), (.int .i64 x9), (.int .i64 x10)] H0 K
 else
 if (!x8) = false then
 ∃ a33 : Addr, AQ Tryd.prog (Instr.fieldAt 37 (.pointer ((some x4))) 3) (.pointer ((some a33))) ∧
 ∃ n34 : Int, QRun Tryd.prog (Instr.loadAt 3 (.pointer ((some a33)))) H0 (.int .i64 n34) ∧
 if ((x10 : Int) == n34) = true then
 K (.bool true) H0
 else
 privityref36_corresponds.R3 base [(.pointer ((some x3))), (.pointer ((some x4))), (.int .i64 x9), (.int .i64 x10)] H0 K
 else
 K (.bool true) H0
def privityref36_corresponds.S3 (base : Nat) (x3 x4 : Addr) (x9 x10 : Int) (H0 : HH) (K : Value → HH → Prop) : Prop :=
 ∃ a35 : Addr, AQ Tryd.prog (Instr.fieldAt 37 (.pointer ((some x3))) 0) (.pointer ((some a35))) ∧
 ∃ n36 : Int, QRun Tryd.prog (Instr.loadAt 3 (.pointer ((some a35)))) H0 (.int .i64 n36) ∧
 HCall Tryd.prog base 67 #[(.int .i64 n36)] H0 fun v37 H38 =>
 ∃ b39 : Bool, v37 = (.bool b39) ∧ if b39 = true then
 ∃ a40 : Addr, AQ Tryd.prog (Instr.fieldAt 37 (.pointer ((some x4))) 3) (.pointer ((some a40))) ∧
 ∃ n41 : Int, QRun Tryd.prog (Instr.loadAt 3 (.pointer ((some a40)))) H38 (.int .i64 n41) ∧
 if ((x9 : Int) == n41) = true then
 ∃ a42 : Addr, AQ Tryd.prog (Instr.fieldAt 37 (.pointer ((some x4))) 2) (.pointer ((some a42))) ∧
 ∃ n43 : Int, QRun Tryd.prog (Instr.loadAt 3 (.pointer ((some a42)))) H38 (.int .i64 n43) ∧
 K (.bool (((x10 : Int) == n43))) H38
 else
 K (.bool false) H38
 else
 K (.bool false) H38
def privityref36_CheckCertificate.ann : Ann := ⟨fun k => bif Nat.beq k 6 then [] else bif Nat.beq k 8 then [1, 3] else bif Nat.beq k 14 then [16, 17, 18, 19] else bif Nat.beq k 15 then [] else bif Nat.beq k 21 then [24] else bif Nat.beq k 26 then [] else [], fun k => bif Nat.beq k 15 then true else false, fun k => bif Nat.beq k 4 then [3, 4, 5, 7] else bif Nat.beq k 12 then [3, 4, 5, 8, 9, 10] else bif Nat.beq k 15 then [3, 4, 5, 8, 9, 10, 11, 12] else bif Nat.beq k 18 then [3, 4, 5, 13] else bif Nat.beq k 24 then [3, 4, 5, 15] else []⟩
def privityref36_CheckCertificate.P2 (base : Nat) (l : List Value) (H0 : HH) (K : Value → HH → Prop) : Prop := HCodeL Tryd.prog base 192 (codeAt [.r, .r, .r, .r, .r, .r, .l, .r, .b] (bodyOf Tryd.f34)) [3, 4, 5, 13] l H0 (qAt Tryd.prog base 192 privityref36_CheckCertificate.ann [.r, .r, .r, .r, .r, .r, .l, .r, .b] [] (bodyOf Tryd.f34) (retQ Tryd.prog 192 Tryd.f34 K))
def privityref36_CheckCertificate.P3 (base : Nat) (l : List Value) (H0 : HH) (K : Value → HH → Prop) : Prop := HCodeL Tryd.prog base 192 (codeAt [.r, .r, .r, .r, .r, .r, .r, .l, .r, .b] (bodyOf Tryd.f34)) [3, 4, 5, 15] l H0 (qAt Tryd.prog base 192 privityref36_CheckCertificate.ann [.r, .r, .r, .r, .r, .r, .r, .l, .r, .b] [] (bodyOf Tryd.f34) (retQ Tryd.prog 192 Tryd.f34 K))
def privityref36_CheckCertificate.R0 (base : Nat) (N1 : Value → HH → Prop) (l : List Value) (H0 : HH) (K : Value → HH → Prop) : Prop := HCodeL Tryd.prog base 192 (codeAt [.r, .r, .r, .r, .r, .l, .r, .b, .lp, .r, .l, .b, .r] (bodyOf Tryd.f34)) [3, 4, 5, 8, 9, 10, 11, 12] l H0 (qAt Tryd.prog base 192 privityref36_CheckCertificate.ann [.r, .r, .r, .r, .r, .l, .r, .b, .lp, .r, .l, .b, .r] [fun fr H => N1 (fr 10) H] (bodyOf Tryd.f34) (retQ Tryd.prog 192 Tryd.f34 K))
def privityref36_CheckCertificate.S0 (base : Nat) (N1 : Value → HH → Prop) (x3 x4 x5 : Addr) (Ax8 : Option Addr) (lx8 cx8 : Nat) (Ax9 : Option Addr) (lx9 cx9 : Nat) (x10 : Int) (x11 x12 : Addr) (H0 : HH) (K : Value → HH → Prop) : Prop :=
 ∃ a150 : Addr, AQ Tryd.prog (Instr.fieldAt 46 (.pointer ((some x5))) 0) (.pointer ((some a150))) ∧
 ∃ (A151 : Option Addr) (l151 c151 : Nat), QRun Tryd.prog (Instr.loadAt 24 (.pointer ((some a150)))) H0 (.slice A151 l151 c151) ∧
 ∃ a152 : Addr, AQ Tryd.prog (Instr.indexAt 24 (.slice Ax8 lx8 cx8) (.int .i64 x10)) (.pointer ((some a152))) ∧
 ∃ n153 : Int, QRun Tryd.prog (Instr.loadAt 3 (.pointer ((some a152)))) H0 (.int .i64 n153) ∧
 ∃ a154 : Addr, AQ Tryd.prog (Instr.indexAt 24 (.slice A151 l151 c151) (.int .i64 n153)) (.pointer ((some a154))) ∧
 ∃ n155 : Int, QRun Tryd.prog (Instr.loadAt 3 (.pointer ((some a154)))) H0 (.int .i64 n155) ∧
 ∃ a156 : Addr, AQ Tryd.prog (Instr.indexAt 24 (.slice Ax9 lx9 cx9) (.int .i64 x10)) (.pointer ((some a156))) ∧
 ∃ n157 : Int, QRun Tryd.prog (Instr.loadAt 3 (.pointer ((some a156)))) H0 (.int .i64 n157) ∧
 if ((n155 : Int) != n157) = false then
 ∃ a158 : Addr, AQ Tryd.prog (Instr.fieldAt 37 (.pointer ((some x11))) 1) (.pointer ((some a158))) ∧
 ∃ n159 : Int, QRun Tryd.prog (Instr.loadAt 3 (.pointer ((some a158)))) H0 (.int .i64 n159) ∧
 ∃ a160 : Addr, AQ Tryd.prog (Instr.fieldAt 37 (.pointer ((some x12))) 1) (.pointer ((some a160))) ∧
 ∃ n161 : Int, QRun Tryd.prog (Instr.loadAt 3 (.pointer ((some a160)))) H0 (.int .i64 n161) ∧
 if ((n159 : Int) != n161) = false then
 ∃ a162 : Addr, AQ Tryd.prog (Instr.fieldAt 37 (.pointer ((some x11))) 4) (.pointer ((some a162))) ∧
 ∃ n163 : Int, QRun Tryd.prog (Instr.loadAt 22 (.pointer ((some a162)))) H0 (.int .u64 n163) ∧
 ∃ a164 : Addr, AQ Tryd.prog (Instr.fieldAt 37 (.pointer ((some x12))) 4) (.pointer ((some a164))) ∧
 ∃ n165 : Int, QRun Tryd.prog (Instr.loadAt 22 (.pointer ((some a164)))) H0 (.int .u64 n165) ∧
 if ((n163 : Int) != n165) = true then
 K (.bool false) H0
 else
 N1 (.int .i64 ((IntKind.i64.wrap (x10 + 1)))) H0
 else
 K (.bool false) H0
 else
 K (.bool false) H0
def privityref36_CheckCertificate.B1 (base : Nat) (x3 x4 x5 : Addr) (Ax8 : Option Addr) (lx8 cx8 : Nat) (Ax9 : Option Addr) (lx9 cx9 : Nat) (y10 : Int) (g : Fr) (N1 : Value → HH → Prop) (H0 : HH) (K : Value → HH → Prop) : Prop :=
 if (decide ((y10 : Int) < (((lx8 : Nat) : Int)))) = true then
 ∃ a58 : Addr, AQ Tryd.prog (Instr.fieldAt 26 (.pointer ((some x3))) 1) (.pointer ((some a58))) ∧
 ∃ (A59 : Option Addr) (l59 c59 : Nat), QRun Tryd.prog (Instr.loadAt 23 (.pointer ((some a58)))) H0 (.slice A59 l59 c59) ∧
 ∃ a60 : Addr, AQ Tryd.prog (Instr.indexAt 24 (.slice Ax8 lx8 cx8) (.int .i64 y10)) (.pointer ((some a60))) ∧
 ∃ n61 : Int, QRun Tryd.prog (Instr.loadAt 3 (.pointer ((some a60)))) H0 (.int .i64 n61) ∧
 ∃ a62 : Addr, AQ Tryd.prog (Instr.indexAt 23 (.slice A59 l59 c59) (.int .i64 n61)) (.pointer ((some a62))) ∧
 ∃ n63 : Int, ∃ n64 : Int, ∃ n65 : Int, ∃ n66 : Int, ∃ n67 : Int, QRun Tryd.prog (Instr.loadAt 37 (.pointer ((some a62)))) H0 (.agg #[(.int .i64 n63), (.int .i64 n64), (.int .i64 n65), (.int .i64 n66), (.int .u64 n67)]) ∧
 ∃ a68 : Addr, AQ Tryd.prog (Instr.fieldAt 26 (.pointer ((some x4))) 1) (.pointer ((some a68))) ∧
 ∃ (A69 : Option Addr) (l69 c69 : Nat), QRun Tryd.prog (Instr.loadAt 23 (.pointer ((some a68)))) H0 (.slice A69 l69 c69) ∧
 ∃ a70 : Addr, AQ Tryd.prog (Instr.indexAt 24 (.slice Ax9 lx9 cx9) (.int .i64 y10)) (.pointer ((some a70))) ∧
 ∃ n71 : Int, QRun Tryd.prog (Instr.loadAt 3 (.pointer ((some a70)))) H0 (.int .i64 n71) ∧
 ∃ a72 : Addr, AQ Tryd.prog (Instr.indexAt 23 (.slice A69 l69 c69) (.int .i64 n71)) (.pointer ((some a72))) ∧
 ∃ n73 : Int, ∃ n74 : Int, ∃ n75 : Int, ∃ n76 : Int, ∃ n77 : Int, QRun Tryd.prog (Instr.loadAt 37 (.pointer ((some a72)))) H0 (.agg #[(.int .i64 n73), (.int .i64 n74), (.int .i64 n75), (.int .i64 n76), (.int .u64 n77)]) ∧
 (HRun Tryd.prog base (Instr.alloc 37 true (.tuple #[])) H0 fun v78 H79 =>
 ∃ a80 : Addr, v78 = (.pointer ((some a80))) ∧ QRun Tryd.prog (Instr.loadAt 37 (.pointer ((some a72)))) H79 (.agg #[(.int .i64 n73), (.int .i64 n74), (.int .i64 n75), (.int .i64 n76), (.int .u64 n77)]) ∧
 QRun Tryd.prog (Instr.loadAt 3 (.pointer ((some a70)))) H79 (.int .i64 n71) ∧
 QRun Tryd.prog (Instr.loadAt 23 (.pointer ((some a68)))) H79 (.slice A69 l69 c69) ∧
 QRun Tryd.prog (Instr.loadAt 37 (.pointer ((some a62)))) H79 (.agg #[(.int .i64 n63), (.int .i64 n64), (.int .i64 n65), (.int .i64 n66), (.int .u64 n67)]) ∧
 QRun Tryd.prog (Instr.loadAt 3 (.pointer ((some a60)))) H79 (.int .i64 n61) ∧
 QRun Tryd.prog (Instr.loadAt 23 (.pointer ((some a58)))) H79 (.slice A59 l59 c59) ∧
 HRun Tryd.prog base (Instr.alloc 37 true (.tuple #[])) H79 fun v81 H82 =>
 ∃ a83 : Addr, v81 = (.pointer ((some a83))) ∧ QRun Tryd.prog (Instr.loadAt 37 (.pointer ((some a72)))) H82 (.agg #[(.int .i64 n73), (.int .i64 n74), (.int .i64 n75), (.int .i64 n76), (.int .u64 n77)]) ∧
 QRun Tryd.prog (Instr.loadAt 3 (.pointer ((some a70)))) H82 (.int .i64 n71) ∧
 QRun Tryd.prog (Instr.loadAt 23 (.pointer ((some a68)))) H82 (.slice A69 l69 c69) ∧
 QRun Tryd.prog (Instr.loadAt 37 (.pointer ((some a62)))) H82 (.agg #[(.int .i64 n63), (.int .i64 n64), (.int .i64 n65), (.int .i64 n66), (.int .u64 n67)]) ∧
 QRun Tryd.prog (Instr.loadAt 3 (.pointer ((some a60)))) H82 (.int .i64 n61) ∧
 QRun Tryd.prog (Instr.loadAt 23 (.pointer ((some a58)))) H82 (.slice A59 l59 c59) ∧
 HRun Tryd.prog base (Instr.storeAt 37 (.pointer ((some a80))) (.agg #[(.int .i64 n63), (.int .i64 n64), (.int .i64 n65), (.int .i64 n66), (.int .u64 n67)])) H82 fun _ H84 =>
 QRun Tryd.prog (Instr.loadAt 37 (.pointer ((some a72)))) H84 (.agg #[(.int .i64 n73), (.int .i64 n74), (.int .i64 n75), (.int .i64 n76), (.int .u64 n77)]) ∧
 QRun Tryd.prog (Instr.loadAt 3 (.pointer ((some a70)))) H84 (.int .i64 n71) ∧
 QRun Tryd.prog (Instr.loadAt 23 (.pointer ((some a68)))) H84 (.slice A69 l69 c69) ∧
 HRun Tryd.prog base (Instr.storeAt 37 (.pointer ((some a83))) (.agg #[(.int .i64 n73), (.int .i64 n74), (.int .i64 n75), (.int .i64 n76), (.int .u64 n77)])) H84 fun _ H85 =>
 privityref36_CheckCertificate.R0 base N1 [(.pointer ((some x3))), (.pointer ((some x4))), (.pointer ((some x5))), (.slice Ax8 lx8 cx8), (.slice Ax9 lx9 cx9), (.int .i64 y10), (.pointer ((some a80))), (.pointer ((some a83)))] H85 K) ∧
 (HRun Tryd.prog base (Instr.alloc 37 true (.tuple #[])) H0 fun v86 H87 =>
 ∃ a88 : Addr, v86 = (.pointer ((some a88))) ∧ QRun Tryd.prog (Instr.loadAt 37 (.pointer ((some a72)))) H87 (.agg #[(.int .i64 n73), (.int .i64 n74), (.int .i64 n75), (.int .i64 n76), (.int .u64 n77)]) ∧
 QRun Tryd.prog (Instr.loadAt 3 (.pointer ((some a70)))) H87 (.int .i64 n71) ∧
 QRun Tryd.prog (Instr.loadAt 23 (.pointer ((some a68)))) H87 (.slice A69 l69 c69) ∧
 QRun Tryd.prog (Instr.loadAt 37 (.pointer ((some a62)))) H87 (.agg #[(.int .i64 n63), (.int .i64 n64), (.int .i64 n65), (.int .i64 n66), (.int .u64 n67)]) ∧
 QRun Tryd.prog (Instr.loadAt 3 (.pointer ((some a60)))) H87 (.int .i64 n61) ∧
 QRun Tryd.prog (Instr.loadAt 23 (.pointer ((some a58)))) H87 (.slice A59 l59 c59) ∧
 HRun Tryd.prog base (Instr.alloc 37 true (.tuple #[])) H87 fun v89 H90 =>
 ∃ a91 : Addr, v89 = (.pointer ((some a91))) ∧ QRun Tryd.prog (Instr.loadAt 37 (.pointer ((some a72)))) H90 (.agg #[(.int .i64 n73), (.int .i64 n74), (.int .i64 n75), (.int .i64 n76), (.int .u64 n77)]) ∧
 QRun Tryd.prog (Instr.loadAt 3 (.pointer ((some a70)))) H90 (.int .i64 n71) ∧
 QRun Tryd.prog (Instr.loadAt 23 (.pointer ((some a68)))) H90 (.slice A69 l69 c69) ∧
 QRun Tryd.prog (Instr.loadAt 37 (.pointer ((some a62)))) H90 (.agg #[(.int .i64 n63), (.int .i64 n64), (.int .i64 n65), (.int .i64 n66), (.int .u64 n67)]) ∧
 QRun Tryd.prog (Instr.loadAt 3 (.pointer ((some a60)))) H90 (.int .i64 n61) ∧
 QRun Tryd.prog (Instr.loadAt 23 (.pointer ((some a58)))) H90 (.slice A59 l59 c59) ∧
 HRun Tryd.prog base (Instr.storeAt 37 (.pointer ((some a91))) (.agg #[(.int .i64 n63), (.int .i64 n64), (.int .i64 n65), (.int .i64 n66), (.int .u64 n67)])) H90 fun _ H92 =>
 QRun Tryd.prog (Instr.loadAt 37 (.pointer ((some a72)))) H92 (.agg #[(.int .i64 n73), (.int .i64 n74), (.int .i64 n75), (.int .i64 n76), (.int .u64 n77)]) ∧
 QRun Tryd.prog (Instr.loadAt 3 (.pointer ((some a70)))) H92 (.int .i64 n71) ∧
 QRun Tryd.prog (Instr.loadAt 23 (.pointer ((some a68)))) H92 (.slice A69 l69 c69) ∧
 HRun Tryd.prog base (Instr.storeAt 37 (.pointer ((some a88))) (.agg #[(.int .i64 n73), (.int .i64 n74), (.int .i64 n75), (.int .i64 n76), (.int .u64 n77)])) H92 fun _ H93 =>
 privityref36_CheckCertificate.R0 base N1 [(.pointer ((some x3))), (.pointer ((some x4))), (.pointer ((some x5))), (.slice Ax8 lx8 cx8), (.slice Ax9 lx9 cx9), (.int .i64 y10), (.pointer ((some a91))), (.pointer ((some a88)))] H93 K)
 else
 privityref36_CheckCertificate.P2 base [(.pointer ((some x3))), (.pointer ((some x4))), (.pointer ((some x5))), (.int .i64 0)] H0 K
def privityref36_CheckCertificate.B2 (base : Nat) (x3 x4 x5 : Addr) (y13 : Int) (g : Fr) (N2 : Value → HH → Prop) (H0 : HH) (K : Value → HH → Prop) : Prop :=
 ∃ a94 : Addr, AQ Tryd.prog (Instr.fieldAt 46 (.pointer ((some x5))) 0) (.pointer ((some a94))) ∧
 ∃ (A95 : Option Addr) (l95 c95 : Nat), QRun Tryd.prog (Instr.loadAt 24 (.pointer ((some a94)))) H0 (.slice A95 l95 c95) ∧
 if (decide ((y13 : Int) < (((l95 : Nat) : Int)))) = true then
 ∃ a96 : Addr, AQ Tryd.prog (Instr.fieldAt 26 (.pointer ((some x3))) 1) (.pointer ((some a96))) ∧
 ∃ (A97 : Option Addr) (l97 c97 : Nat), QRun Tryd.prog (Instr.loadAt 23 (.pointer ((some a96)))) H0 (.slice A97 l97 c97) ∧
 ∃ a98 : Addr, AQ Tryd.prog (Instr.indexAt 23 (.slice A97 l97 c97) (.int .i64 y13)) (.pointer ((some a98))) ∧
 ∃ n99 : Int, ∃ n100 : Int, ∃ n101 : Int, ∃ n102 : Int, ∃ n103 : Int, QRun Tryd.prog (Instr.loadAt 37 (.pointer ((some a98)))) H0 (.agg #[(.int .i64 n99), (.int .i64 n100), (.int .i64 n101), (.int .i64 n102), (.int .u64 n103)]) ∧
 HRun Tryd.prog base (Instr.alloc 37 true (.tuple #[])) H0 fun v104 H105 =>
 ∃ a106 : Addr, v104 = (.pointer ((some a106))) ∧ HRun Tryd.prog base (Instr.storeAt 37 (.pointer ((some a106))) (.agg #[(.int .i64 n99), (.int .i64 n100), (.int .i64 n101), (.int .i64 n102), (.int .u64 n103)])) H105 fun _ H107 =>
 ∃ a108 : Addr, AQ Tryd.prog (Instr.fieldAt 37 (.pointer ((some a106))) 0) (.pointer ((some a108))) ∧
 ∃ n109 : Int, QRun Tryd.prog (Instr.loadAt 3 (.pointer ((some a108)))) H107 (.int .i64 n109) ∧
 if ((n109 : Int) != 1) = true then
 ∃ a110 : Addr, AQ Tryd.prog (Instr.fieldAt 46 (.pointer ((some x5))) 0) (.pointer ((some a110))) ∧
 ∃ (A111 : Option Addr) (l111 c111 : Nat), QRun Tryd.prog (Instr.loadAt 24 (.pointer ((some a110)))) H107 (.slice A111 l111 c111) ∧
 ∃ a112 : Addr, AQ Tryd.prog (Instr.indexAt 24 (.slice A111 l111 c111) (.int .i64 y13)) (.pointer ((some a112))) ∧
 ∃ n113 : Int, QRun Tryd.prog (Instr.loadAt 3 (.pointer ((some a112)))) H107 (.int .i64 n113) ∧
 if (decide ((n113 : Int) ≥ 0)) = true then
 ∃ n114 : Int, ∃ n115 : Int, ∃ n116 : Int, ∃ n117 : Int, ∃ n118 : Int, QRun Tryd.prog (Instr.loadAt 37 (.pointer ((some a106)))) H107 (.agg #[(.int .i64 n114), (.int .i64 n115), (.int .i64 n116), (.int .i64 n117), (.int .u64 n118)]) ∧
 ∃ a119 : Addr, AQ Tryd.prog (Instr.fieldAt 26 (.pointer ((some x4))) 1) (.pointer ((some a119))) ∧
 ∃ (A120 : Option Addr) (l120 c120 : Nat), QRun Tryd.prog (Instr.loadAt 23 (.pointer ((some a119)))) H107 (.slice A120 l120 c120) ∧
 ∃ a121 : Addr, AQ Tryd.prog (Instr.fieldAt 46 (.pointer ((some x5))) 0) (.pointer ((some a121))) ∧
 ∃ (A122 : Option Addr) (l122 c122 : Nat), QRun Tryd.prog (Instr.loadAt 24 (.pointer ((some a121)))) H107 (.slice A122 l122 c122) ∧
 ∃ a123 : Addr, AQ Tryd.prog (Instr.indexAt 24 (.slice A122 l122 c122) (.int .i64 y13)) (.pointer ((some a123))) ∧
 ∃ n124 : Int, QRun Tryd.prog (Instr.loadAt 3 (.pointer ((some a123)))) H107 (.int .i64 n124) ∧
 ∃ a125 : Addr, AQ Tryd.prog (Instr.indexAt 23 (.slice A120 l120 c120) (.int .i64 n124)) (.pointer ((some a125))) ∧
 ∃ n126 : Int, ∃ n127 : Int, ∃ n128 : Int, ∃ n129 : Int, ∃ n130 : Int, QRun Tryd.prog (Instr.loadAt 37 (.pointer ((some a125)))) H107 (.agg #[(.int .i64 n126), (.int .i64 n127), (.int .i64 n128), (.int .i64 n129), (.int .u64 n130)]) ∧
 ∃ a131 : Addr, AQ Tryd.prog (Instr.fieldAt 46 (.pointer ((some x5))) 0) (.pointer ((some a131))) ∧
 ∃ (A132 : Option Addr) (l132 c132 : Nat), QRun Tryd.prog (Instr.loadAt 24 (.pointer ((some a131)))) H107 (.slice A132 l132 c132) ∧
 HCall Tryd.prog base 56 #[(.agg #[(.int .i64 n114), (.int .i64 n115), (.int .i64 n116), (.int .i64 n117), (.int .u64 n118)]), (.agg #[(.int .i64 n126), (.int .i64 n127), (.int .i64 n128), (.int .i64 n129), (.int .u64 n130)]), (.slice A132 l132 c132)] H107 fun v133 H134 =>
 ∃ b135 : Bool, v133 = (.bool b135) ∧ if (!b135) = true then
 K (.bool false) H134
 else
 N2 (.int .i64 ((IntKind.i64.wrap (y13 + 1)))) H134
 else
 N2 (.int .i64 ((IntKind.i64.wrap (y13 + 1)))) H107
 else
 N2 (.int .i64 ((IntKind.i64.wrap (y13 + 1)))) H107
 else
 privityref36_CheckCertificate.P3 base [(.pointer ((some x3))), (.pointer ((some x4))), (.pointer ((some x5))), (.int .i64 0)] H0 K
def privityref36_CheckCertificate.B3 (base : Nat) (x3 x4 x5 : Addr) (y15 : Int) (g : Fr) (N3 : Value → HH → Prop) (H0 : HH) (K : Value → HH → Prop) : Prop :=
 ∃ a136 : Addr, AQ Tryd.prog (Instr.fieldAt 26 (.pointer ((some x3))) 2) (.pointer ((some a136))) ∧
 ∃ (A137 : Option Addr) (l137 c137 : Nat), QRun Tryd.prog (Instr.loadAt 24 (.pointer ((some a136)))) H0 (.slice A137 l137 c137) ∧
 if (decide ((y15 : Int) < (((l137 : Nat) : Int)))) = true then
 ∃ a138 : Addr, AQ Tryd.prog (Instr.fieldAt 46 (.pointer ((some x5))) 0) (.pointer ((some a138))) ∧
 ∃ (A139 : Option Addr) (l139 c139 : Nat), QRun Tryd.prog (Instr.loadAt 24 (.pointer ((some a138)))) H0 (.slice A139 l139 c139) ∧
 ∃ a140 : Addr, AQ Tryd.prog (Instr.fieldAt 26 (.pointer ((some x3))) 2) (.pointer ((some a140))) ∧
 ∃ (A141 : Option Addr) (l141 c141 : Nat), QRun Tryd.prog (Instr.loadAt 24 (.pointer ((some a140)))) H0 (.slice A141 l141 c141) ∧
 ∃ a142 : Addr, AQ Tryd.prog (Instr.indexAt 24 (.slice A141 l141 c141) (.int .i64 y15)) (.pointer ((some a142))) ∧
 ∃ n143 : Int, QRun Tryd.prog (Instr.loadAt 3 (.pointer ((some a142)))) H0 (.int .i64 n143) ∧
 ∃ a144 : Addr, AQ Tryd.prog (Instr.indexAt 24 (.slice A139 l139 c139) (.int .i64 n143)) (.pointer ((some a144))) ∧
 ∃ n145 : Int, QRun Tryd.prog (Instr.loadAt 3 (.pointer ((some a144)))) H0 (.int .i64 n145) ∧
 ∃ a146 : Addr, AQ Tryd.prog (Instr.fieldAt 26 (.pointer ((some x4))) 2) (.pointer ((some a146))) ∧
 ∃ (A147 : Option Addr) (l147 c147 : Nat), QRun Tryd.prog (Instr.loadAt 24 (.pointer ((some a146)))) H0 (.slice A147 l147 c147) ∧
 ∃ a148 : Addr, AQ Tryd.prog (Instr.indexAt 24 (.slice A147 l147 c147) (.int .i64 y15)) (.pointer ((some a148))) ∧
 ∃ n149 : Int, QRun Tryd.prog (Instr.loadAt 3 (.pointer ((some a148)))) H0 (.int .i64 n149) ∧
 if ((n145 : Int) != n149) = true then
 K (.bool false) H0
 else
 N3 (.int .i64 ((IntKind.i64.wrap (y15 + 1)))) H0
 else
 K (.bool true) H0
def privityref36_Ints.ann : Ann := ⟨fun k => bif Nat.beq k 6 then [] else [], fun k => false, fun k => bif Nat.beq k 4 then [0, 1, 5] else []⟩
def privityref36_Ints.P0 (base : Nat) (l : List Value) (H0 : HH) (K : Value → HH → Prop) : Prop := HCodeL Tryd.prog base 26 (codeAt [.r, .r, .l, .r, .b] (bodyOf Tryd.f32)) [0, 1, 5] l H0 (qAt Tryd.prog base 26 privityref36_Ints.ann [.r, .r, .l, .r, .b] [] (bodyOf Tryd.f32) (retQ Tryd.prog 26 Tryd.f32 K))
def privityref36_Ints.sh (base : Nat) (Ax0 : Option Addr) (lx0 cx0 : Nat) (Ax1 : Option Addr) (lx1 cx1 : Nat) (H0 : HH) (K : Value → HH → Prop) : Prop :=
 if ((((lx0 : Nat) : Int) : Int) != (((lx1 : Nat) : Int))) = true then
 K (.bool false) H0
 else
 privityref36_Ints.P0 base [(.slice Ax0 lx0 cx0), (.slice Ax1 lx1 cx1), (.int .i64 0)] H0 K
theorem privityref36_Ints.spec {base : Nat} {Ax0 : Option Addr} {lx0 cx0 : Nat} {Ax1 : Option Addr} {lx1 cx1 : Nat} {H0 : HH} {K : Value → HH → Prop} (h : privityref36_Ints.sh base Ax0 lx0 cx0 Ax1 lx1 cx1 H0 K) : HCall Tryd.prog base 32 #[(.slice Ax0 lx0 cx0), (.slice Ax1 lx1 cx1)] H0 K := spec_of_wpC (n := 26) (ann := privityref36_Ints.ann) mix Tryd.func32 (by kernel_rfl) (cast (show privityref36_Ints.sh base Ax0 lx0 cx0 Ax1 lx1 cx1 H0 K = wpC Tryd.prog base 26 privityref36_Ints.ann (bodyOf Tryd.f32) (ofL [(.slice Ax0 lx0 cx0), (.slice Ax1 lx1 cx1)]) H0 (retQ Tryd.prog 26 Tryd.f32 K) by kernel_rfl) h)
def privityref36_Ints.B0 (base : Nat) (Ax0 : Option Addr) (lx0 cx0 : Nat) (Ax1 : Option Addr) (lx1 cx1 : Nat) (y5 : Int) (g : Fr) (N0 : Value → HH → Prop) (H0 : HH) (K : Value → HH → Prop) : Prop :=
 if (decide ((y5 : Int) < (((lx0 : Nat) : Int)))) = true then
 ∃ a1 : Addr, AQ Tryd.prog (Instr.indexAt 24 (.slice Ax0 lx0 cx0) (.int .i64 y5)) (.pointer ((some a1))) ∧
 ∃ n2 : Int, QRun Tryd.prog (Instr.loadAt 3 (.pointer ((some a1)))) H0 (.int .i64 n2) ∧
 ∃ a3 : Addr, AQ Tryd.prog (Instr.indexAt 24 (.slice Ax1 lx1 cx1) (.int .i64 y5)) (.pointer ((some a3))) ∧
 ∃ n4 : Int, QRun Tryd.prog (Instr.loadAt 3 (.pointer ((some a3)))) H0 (.int .i64 n4) ∧
 if ((n2 : Int) != n4) = true then
 K (.bool false) H0
 else
 N0 (.int .i64 ((IntKind.i64.wrap (y5 + 1)))) H0
 else
 K (.bool true) H0
theorem privityref36_Ints.loop0 {base : Nat} {Ax0 : Option Addr} {lx0 cx0 : Nat} {Ax1 : Option Addr} {lx1 cx1 : Nat} {y5_i : Int} {H0 : HH} {K : Value → HH → Prop} (J : Nat → Int → HH → Prop) (n : Nat) (h0 : J n y5_i H0)
    (hs : ∀ (n : Nat) (y5 : Int) (g : Fr) (H0 : HH), J n y5 H0 → privityref36_Ints.B0 base Ax0 lx0 cx0 Ax1 lx1 cx1 y5 g (fun w5 H => ∃ n', n' < n ∧ ∃ (y5' : Int), w5 = (.int .i64 y5') ∧ J n' y5' H) H0 K) : privityref36_Ints.P0 base [(.slice Ax0 lx0 cx0), (.slice Ax1 lx1 cx1), (.int .i64 y5_i)] H0 K := by
  refine loop_rule (ann := privityref36_Ints.ann) (body := codeAt [.r, .r, .l, .r, .b, .lp] (bodyOf Tryd.f32)) mix (by kernel_rfl) 67106864 (by kernel_rfl) [0, 1] [(.slice Ax0 lx0 cx0), (.slice Ax1 lx1 cx1)] (by kernel_rfl) (fun fr ⟨e0, e1, e5, _⟩ => ⟨e0, e1, trivial⟩) (fun n g H => ∃ (y5 : Int), g 5 = (.int .i64 y5) ∧ J n y5 H) n (fun fr ⟨e0, e1, e5, _⟩ => ⟨y5_i, e5, h0⟩) ?_
  rintro n g H0 ⟨e0, e1, _⟩ ⟨y5, e5, hJ⟩
  rw [← ov_eq (g := g) [(0, (.slice Ax0 lx0 cx0)), (1, (.slice Ax1 lx1 cx1)), (5, (.int .i64 y5))] (by simp only [List.mem_cons, List.not_mem_nil, or_false, forall_eq_or_imp, forall_eq, false_implies, implies_true]; exact ⟨e0, e1, e5⟩)]
  have key : ∀ NN : Value → HH → Prop, privityref36_Ints.B0 base Ax0 lx0 cx0 Ax1 lx1 cx1 y5 g NN H0 K = wpC Tryd.prog base 26 privityref36_Ints.ann (codeAt [.r, .r, .l, .r, .b, .lp] (bodyOf Tryd.f32)) (ov g [(0, (.slice Ax0 lx0 cx0)), (1, (.slice Ax1 lx1 cx1)), (5, (.int .i64 y5))]) H0 (thenQ (fun fr H => NN (fr 5) H) (qAt Tryd.prog base 26 privityref36_Ints.ann [.r, .r, .l, .r, .b] [] (bodyOf Tryd.f32) (retQ Tryd.prog 26 Tryd.f32 K))) := fun NN => by kernel_rfl
  refine cast ?_ (hs n y5 g H0 hJ)
  refine (key (fun w5 H => ∃ n', n' < n ∧ ∃ (y5' : Int), w5 = (.int .i64 y5') ∧ J n' y5' H)).trans ?_
  kernel_rfl
def privityref32_Equal.ann : Ann := ⟨fun k => bif Nat.beq k 6 then [] else bif Nat.beq k 11 then [] else [], fun k => false, fun k => bif Nat.beq k 4 then [2, 3, 5] else bif Nat.beq k 9 then [2, 3, 6] else []⟩
def privityref32_Equal.P0 (base : Nat) (l : List Value) (H0 : HH) (K : Value → HH → Prop) : Prop := HCodeL Tryd.prog base 66 (codeAt [.r, .r, .l, .r, .b] (bodyOf Tryd.f31)) [2, 3, 5] l H0 (qAt Tryd.prog base 66 privityref32_Equal.ann [.r, .r, .l, .r, .b] [] (bodyOf Tryd.f31) (retQ Tryd.prog 66 Tryd.f31 K))
def privityref32_Equal.P1 (base : Nat) (l : List Value) (H0 : HH) (K : Value → HH → Prop) : Prop := HCodeL Tryd.prog base 66 (codeAt [.r, .r, .r, .l, .r, .b] (bodyOf Tryd.f31)) [2, 3, 6] l H0 (qAt Tryd.prog base 66 privityref32_Equal.ann [.r, .r, .r, .l, .r, .b] [] (bodyOf Tryd.f31) (retQ Tryd.prog 66 Tryd.f31 K))
def privityref32_Equal.sh (base : Nat) (x0_0 : Int) (Ax0_1 : Option Addr) (lx0_1 cx0_1 : Nat) (Ax0_2 : Option Addr) (lx0_2 cx0_2 : Nat) (x1_0 : Int) (Ax1_1 : Option Addr) (lx1_1 cx1_1 : Nat) (Ax1_2 : Option Addr) (lx1_2 cx1_2 : Nat) (H0 : HH) (K : Value → HH → Prop) : Prop :=
 HRun Tryd.prog base (Instr.box 26 (.agg #[(.int .u64 x0_0), (.slice Ax0_1 lx0_1 cx0_1), (.slice Ax0_2 lx0_2 cx0_2)])) H0 fun v1 H2 =>
 ∃ a3 : Addr, v1 = (.pointer ((some a3))) ∧ HRun Tryd.prog base (Instr.box 26 (.agg #[(.int .u64 x1_0), (.slice Ax1_1 lx1_1 cx1_1), (.slice Ax1_2 lx1_2 cx1_2)])) H2 fun v4 H5 =>
 ∃ a6 : Addr, v4 = (.pointer ((some a6))) ∧ ∃ a7 : Addr, AQ Tryd.prog (Instr.fieldAt 26 (.pointer ((some a3))) 0) (.pointer ((some a7))) ∧
 ∃ n8 : Int, QRun Tryd.prog (Instr.loadAt 22 (.pointer ((some a7)))) H5 (.int .u64 n8) ∧
 ∃ a9 : Addr, AQ Tryd.prog (Instr.fieldAt 26 (.pointer ((some a6))) 0) (.pointer ((some a9))) ∧
 ∃ n10 : Int, QRun Tryd.prog (Instr.loadAt 22 (.pointer ((some a9)))) H5 (.int .u64 n10) ∧
 if ((n8 : Int) != n10) = false then
 ∃ a11 : Addr, AQ Tryd.prog (Instr.fieldAt 26 (.pointer ((some a3))) 1) (.pointer ((some a11))) ∧
 ∃ (A12 : Option Addr) (l12 c12 : Nat), QRun Tryd.prog (Instr.loadAt 23 (.pointer ((some a11)))) H5 (.slice A12 l12 c12) ∧
 ∃ a13 : Addr, AQ Tryd.prog (Instr.fieldAt 26 (.pointer ((some a6))) 1) (.pointer ((some a13))) ∧
 ∃ (A14 : Option Addr) (l14 c14 : Nat), QRun Tryd.prog (Instr.loadAt 23 (.pointer ((some a13)))) H5 (.slice A14 l14 c14) ∧
 if ((((l12 : Nat) : Int) : Int) != (((l14 : Nat) : Int))) = false then
 ∃ a15 : Addr, AQ Tryd.prog (Instr.fieldAt 26 (.pointer ((some a3))) 2) (.pointer ((some a15))) ∧
 ∃ (A16 : Option Addr) (l16 c16 : Nat), QRun Tryd.prog (Instr.loadAt 24 (.pointer ((some a15)))) H5 (.slice A16 l16 c16) ∧
 ∃ a17 : Addr, AQ Tryd.prog (Instr.fieldAt 26 (.pointer ((some a6))) 2) (.pointer ((some a17))) ∧
 ∃ (A18 : Option Addr) (l18 c18 : Nat), QRun Tryd.prog (Instr.loadAt 24 (.pointer ((some a17)))) H5 (.slice A18 l18 c18) ∧
 if ((((l16 : Nat) : Int) : Int) != (((l18 : Nat) : Int))) = true then
 K (.bool false) H5
 else
 privityref32_Equal.P0 base [(.pointer ((some a3))), (.pointer ((some a6))), (.int .i64 0)] H5 K
 else
 K (.bool false) H5
 else
 K (.bool false) H5
theorem privityref32_Equal.spec {base : Nat} {x0_0 : Int} {Ax0_1 : Option Addr} {lx0_1 cx0_1 : Nat} {Ax0_2 : Option Addr} {lx0_2 cx0_2 : Nat} {x1_0 : Int} {Ax1_1 : Option Addr} {lx1_1 cx1_1 : Nat} {Ax1_2 : Option Addr} {lx1_2 cx1_2 : Nat} {H0 : HH} {K : Value → HH → Prop} (h : privityref32_Equal.sh base x0_0 Ax0_1 lx0_1 cx0_1 Ax0_2 lx0_2 cx0_2 x1_0 Ax1_1 lx1_1 cx1_1 Ax1_2 lx1_2 cx1_2 H0 K) : HCall Tryd.prog base 31 #[(.agg #[(.int .u64 x0_0), (.slice Ax0_1 lx0_1 cx0_1), (.slice Ax0_2 lx0_2 cx0_2)]), (.agg #[(.int .u64 x1_0), (.slice Ax1_1 lx1_1 cx1_1), (.slice Ax1_2 lx1_2 cx1_2)])] H0 K := spec_of_wpC (n := 66) (ann := privityref32_Equal.ann) mix Tryd.func31 (by kernel_rfl) (cast (show privityref32_Equal.sh base x0_0 Ax0_1 lx0_1 cx0_1 Ax0_2 lx0_2 cx0_2 x1_0 Ax1_1 lx1_1 cx1_1 Ax1_2 lx1_2 cx1_2 H0 K = wpC Tryd.prog base 66 privityref32_Equal.ann (bodyOf Tryd.f31) (ofL [(.agg #[(.int .u64 x0_0), (.slice Ax0_1 lx0_1 cx0_1), (.slice Ax0_2 lx0_2 cx0_2)]), (.agg #[(.int .u64 x1_0), (.slice Ax1_1 lx1_1 cx1_1), (.slice Ax1_2 lx1_2 cx1_2)])]) H0 (retQ Tryd.prog 66 Tryd.f31 K) by kernel_rfl) h)
def privityref32_Equal.B0 (base : Nat) (x2 x3 : Addr) (y5 : Int) (g : Fr) (N0 : Value → HH → Prop) (H0 : HH) (K : Value → HH → Prop) : Prop :=
 ∃ a19 : Addr, AQ Tryd.prog (Instr.fieldAt 26 (.pointer ((some x2))) 1) (.pointer ((some a19))) ∧
 ∃ (A20 : Option Addr) (l20 c20 : Nat), QRun Tryd.prog (Instr.loadAt 23 (.pointer ((some a19)))) H0 (.slice A20 l20 c20) ∧
 if (decide ((y5 : Int) < (((l20 : Nat) : Int)))) = true then
 ∃ a21 : Addr, AQ Tryd.prog (Instr.fieldAt 26 (.pointer ((some x2))) 1) (.pointer ((some a21))) ∧
 ∃ (A22 : Option Addr) (l22 c22 : Nat), QRun Tryd.prog (Instr.loadAt 23 (.pointer ((some a21)))) H0 (.slice A22 l22 c22) ∧
 ∃ a23 : Addr, AQ Tryd.prog (Instr.indexAt 23 (.slice A22 l22 c22) (.int .i64 y5)) (.pointer ((some a23))) ∧
 ∃ n24 : Int, ∃ n25 : Int, ∃ n26 : Int, ∃ n27 : Int, ∃ n28 : Int, QRun Tryd.prog (Instr.loadAt 37 (.pointer ((some a23)))) H0 (.agg #[(.int .i64 n24), (.int .i64 n25), (.int .i64 n26), (.int .i64 n27), (.int .u64 n28)]) ∧
 ∃ a29 : Addr, AQ Tryd.prog (Instr.fieldAt 26 (.pointer ((some x3))) 1) (.pointer ((some a29))) ∧
 ∃ (A30 : Option Addr) (l30 c30 : Nat), QRun Tryd.prog (Instr.loadAt 23 (.pointer ((some a29)))) H0 (.slice A30 l30 c30) ∧
 ∃ a31 : Addr, AQ Tryd.prog (Instr.indexAt 23 (.slice A30 l30 c30) (.int .i64 y5)) (.pointer ((some a31))) ∧
 ∃ n32 : Int, ∃ n33 : Int, ∃ n34 : Int, ∃ n35 : Int, ∃ n36 : Int, QRun Tryd.prog (Instr.loadAt 37 (.pointer ((some a31)))) H0 (.agg #[(.int .i64 n32), (.int .i64 n33), (.int .i64 n34), (.int .i64 n35), (.int .u64 n36)]) ∧
 ∃ b37 : Bool, AQ Tryd.prog (binSem .neq 37 (.tmp 41) (.tmp 46) (.agg #[(.int .i64 n24), (.int .i64 n25), (.int .i64 n26), (.int .i64 n27), (.int .u64 n28)]) (.agg #[(.int .i64 n32), (.int .i64 n33), (.int .i64 n34), (.int .i64 n35), (.int .u64 n36)])) (.bool b37) ∧
 if b37 = true then
 K (.bool false) H0
 else
 N0 (.int .i64 ((IntKind.i64.wrap (y5 + 1)))) H0
 else
 privityref32_Equal.P1 base [(.pointer ((some x2))), (.pointer ((some x3))), (.int .i64 0)] H0 K
theorem privityref32_Equal.loop0 {base : Nat} {x2 x3 : Addr} {y5_i : Int} {H0 : HH} {K : Value → HH → Prop} (J : Nat → Int → HH → Prop) (n : Nat) (h0 : J n y5_i H0)
    (hs : ∀ (n : Nat) (y5 : Int) (g : Fr) (H0 : HH), J n y5 H0 → privityref32_Equal.B0 base x2 x3 y5 g (fun w5 H => ∃ n', n' < n ∧ ∃ (y5' : Int), w5 = (.int .i64 y5') ∧ J n' y5' H) H0 K) : privityref32_Equal.P0 base [(.pointer ((some x2))), (.pointer ((some x3))), (.int .i64 y5_i)] H0 K := by
  refine loop_rule (ann := privityref32_Equal.ann) (body := codeAt [.r, .r, .l, .r, .b, .lp] (bodyOf Tryd.f31)) mix (by kernel_rfl) 281473902968880 (by kernel_rfl) [2, 3] [(.pointer ((some x2))), (.pointer ((some x3)))] (by kernel_rfl) (fun fr ⟨e2, e3, e5, _⟩ => ⟨e2, e3, trivial⟩) (fun n g H => ∃ (y5 : Int), g 5 = (.int .i64 y5) ∧ J n y5 H) n (fun fr ⟨e2, e3, e5, _⟩ => ⟨y5_i, e5, h0⟩) ?_
  rintro n g H0 ⟨e2, e3, _⟩ ⟨y5, e5, hJ⟩
  rw [← ov_eq (g := g) [(2, (.pointer ((some x2)))), (3, (.pointer ((some x3)))), (5, (.int .i64 y5))] (by simp only [List.mem_cons, List.not_mem_nil, or_false, forall_eq_or_imp, forall_eq, false_implies, implies_true]; exact ⟨e2, e3, e5⟩)]
  have key : ∀ NN : Value → HH → Prop, privityref32_Equal.B0 base x2 x3 y5 g NN H0 K = wpC Tryd.prog base 66 privityref32_Equal.ann (codeAt [.r, .r, .l, .r, .b, .lp] (bodyOf Tryd.f31)) (ov g [(2, (.pointer ((some x2)))), (3, (.pointer ((some x3)))), (5, (.int .i64 y5))]) H0 (thenQ (fun fr H => NN (fr 5) H) (qAt Tryd.prog base 66 privityref32_Equal.ann [.r, .r, .l, .r, .b] [] (bodyOf Tryd.f31) (retQ Tryd.prog 66 Tryd.f31 K))) := fun NN => by kernel_rfl
  refine cast ?_ (hs n y5 g H0 hJ)
  refine (key (fun w5 H => ∃ n', n' < n ∧ ∃ (y5' : Int), w5 = (.int .i64 y5') ∧ J n' y5' H)).trans ?_
  kernel_rfl
def privityref32_Equal.B1 (base : Nat) (x2 x3 : Addr) (y6 : Int) (g : Fr) (N1 : Value → HH → Prop) (H0 : HH) (K : Value → HH → Prop) : Prop :=
 ∃ a38 : Addr, AQ Tryd.prog (Instr.fieldAt 26 (.pointer ((some x2))) 2) (.pointer ((some a38))) ∧
 ∃ (A39 : Option Addr) (l39 c39 : Nat), QRun Tryd.prog (Instr.loadAt 24 (.pointer ((some a38)))) H0 (.slice A39 l39 c39) ∧
 if (decide ((y6 : Int) < (((l39 : Nat) : Int)))) = true then
 ∃ a40 : Addr, AQ Tryd.prog (Instr.fieldAt 26 (.pointer ((some x2))) 2) (.pointer ((some a40))) ∧
 ∃ (A41 : Option Addr) (l41 c41 : Nat), QRun Tryd.prog (Instr.loadAt 24 (.pointer ((some a40)))) H0 (.slice A41 l41 c41) ∧
 ∃ a42 : Addr, AQ Tryd.prog (Instr.indexAt 24 (.slice A41 l41 c41) (.int .i64 y6)) (.pointer ((some a42))) ∧
 ∃ n43 : Int, QRun Tryd.prog (Instr.loadAt 3 (.pointer ((some a42)))) H0 (.int .i64 n43) ∧
 ∃ a44 : Addr, AQ Tryd.prog (Instr.fieldAt 26 (.pointer ((some x3))) 2) (.pointer ((some a44))) ∧
 ∃ (A45 : Option Addr) (l45 c45 : Nat), QRun Tryd.prog (Instr.loadAt 24 (.pointer ((some a44)))) H0 (.slice A45 l45 c45) ∧
 ∃ a46 : Addr, AQ Tryd.prog (Instr.indexAt 24 (.slice A45 l45 c45) (.int .i64 y6)) (.pointer ((some a46))) ∧
 ∃ n47 : Int, QRun Tryd.prog (Instr.loadAt 3 (.pointer ((some a46)))) H0 (.int .i64 n47) ∧
 if ((n43 : Int) != n47) = true then
 K (.bool false) H0
 else
 N1 (.int .i64 ((IntKind.i64.wrap (y6 + 1)))) H0
 else
 K (.bool true) H0
theorem privityref32_Equal.loop1 {base : Nat} {x2 x3 : Addr} {y6_i : Int} {H0 : HH} {K : Value → HH → Prop} (J : Nat → Int → HH → Prop) (n : Nat) (h0 : J n y6_i H0)
    (hs : ∀ (n : Nat) (y6 : Int) (g : Fr) (H0 : HH), J n y6 H0 → privityref32_Equal.B1 base x2 x3 y6 g (fun w6 H => ∃ n', n' < n ∧ ∃ (y6' : Int), w6 = (.int .i64 y6') ∧ J n' y6' H) H0 K) : privityref32_Equal.P1 base [(.pointer ((some x2))), (.pointer ((some x3))), (.int .i64 y6_i)] H0 K := by
  refine loop_rule (ann := privityref32_Equal.ann) (body := codeAt [.r, .r, .r, .l, .r, .b, .lp] (bodyOf Tryd.f31)) mix (by kernel_rfl) 73786694819861495888 (by kernel_rfl) [2, 3] [(.pointer ((some x2))), (.pointer ((some x3)))] (by kernel_rfl) (fun fr ⟨e2, e3, e6, _⟩ => ⟨e2, e3, trivial⟩) (fun n g H => ∃ (y6 : Int), g 6 = (.int .i64 y6) ∧ J n y6 H) n (fun fr ⟨e2, e3, e6, _⟩ => ⟨y6_i, e6, h0⟩) ?_
  rintro n g H0 ⟨e2, e3, _⟩ ⟨y6, e6, hJ⟩
  rw [← ov_eq (g := g) [(2, (.pointer ((some x2)))), (3, (.pointer ((some x3)))), (6, (.int .i64 y6))] (by simp only [List.mem_cons, List.not_mem_nil, or_false, forall_eq_or_imp, forall_eq, false_implies, implies_true]; exact ⟨e2, e3, e6⟩)]
  have key : ∀ NN : Value → HH → Prop, privityref32_Equal.B1 base x2 x3 y6 g NN H0 K = wpC Tryd.prog base 66 privityref32_Equal.ann (codeAt [.r, .r, .r, .l, .r, .b, .lp] (bodyOf Tryd.f31)) (ov g [(2, (.pointer ((some x2)))), (3, (.pointer ((some x3)))), (6, (.int .i64 y6))]) H0 (thenQ (fun fr H => NN (fr 6) H) (qAt Tryd.prog base 66 privityref32_Equal.ann [.r, .r, .r, .l, .r, .b] [] (bodyOf Tryd.f31) (retQ Tryd.prog 66 Tryd.f31 K))) := fun NN => by kernel_rfl
  refine cast ?_ (hs n y6 g H0 hJ)
  refine (key (fun w6 H => ∃ n', n' < n ∧ ∃ (y6' : Int), w6 = (.int .i64 y6') ∧ J n' y6' H)).trans ?_
  kernel_rfl
def privitylaw36_example.ann : Ann := ⟨fun k => [], fun k => false, fun k => []⟩
def privitylaw36_example.sh (base : Nat)  (H0 : HH) (K : Value → HH → Prop) : Prop :=
 HRun Tryd.prog base (Instr.alloc 26 true (.tuple #[])) H0 fun v1 H2 =>
 ∃ a3 : Addr, v1 = (.pointer ((some a3))) ∧ ∃ n4 : Int, ∃ n5 : Int, ∃ n6 : Int, ∃ n7 : Int, ∃ n8 : Int, AQ Tryd.prog (Instr.build 37 #[(0, (.int .i64 1)), (1, (.int .i64 1))]) (.agg #[(.int .i64 n4), (.int .i64 n5), (.int .i64 n6), (.int .i64 n7), (.int .u64 n8)]) ∧
 ∃ n9 : Int, ∃ n10 : Int, ∃ n11 : Int, ∃ n12 : Int, ∃ n13 : Int, AQ Tryd.prog (Instr.build 37 #[(0, (.int .i64 1)), (1, (.int .i64 1))]) (.agg #[(.int .i64 n9), (.int .i64 n10), (.int .i64 n11), (.int .i64 n12), (.int .u64 n13)]) ∧
 ∃ n14 : Int, ∃ n15 : Int, ∃ n16 : Int, ∃ n17 : Int, ∃ n18 : Int, AQ Tryd.prog (Instr.build 37 #[(0, (.int .i64 3)), (2, (.int .i64 0)), (3, (.int .i64 1))]) (.agg #[(.int .i64 n14), (.int .i64 n15), (.int .i64 n16), (.int .i64 n17), (.int .u64 n18)]) ∧
 ∃ n19 : Int, ∃ n20 : Int, ∃ n21 : Int, ∃ n22 : Int, ∃ n23 : Int, AQ Tryd.prog (Instr.build 37 #[(0, (.int .i64 3)), (2, (.int .i64 1)), (3, (.int .i64 0))]) (.agg #[(.int .i64 n19), (.int .i64 n20), (.int .i64 n21), (.int .i64 n22), (.int .u64 n23)]) ∧
 ∃ n24 : Int, ∃ n25 : Int, ∃ n26 : Int, ∃ n27 : Int, ∃ n28 : Int, AQ Tryd.prog (Instr.build 37 #[(0, (.int .i64 6)), (2, (.int .i64 2)), (3, (.int .i64 3))]) (.agg #[(.int .i64 n24), (.int .i64 n25), (.int .i64 n26), (.int .i64 n27), (.int .u64 n28)]) ∧
 HRun Tryd.prog base (Instr.buildSlice 23 5 #[(0, (.agg #[(.int .i64 n4), (.int .i64 n5), (.int .i64 n6), (.int .i64 n7), (.int .u64 n8)])), (1, (.agg #[(.int .i64 n9), (.int .i64 n10), (.int .i64 n11), (.int .i64 n12), (.int .u64 n13)])), (2, (.agg #[(.int .i64 n14), (.int .i64 n15), (.int .i64 n16), (.int .i64 n17), (.int .u64 n18)])), (3, (.agg #[(.int .i64 n19), (.int .i64 n20), (.int .i64 n21), (.int .i64 n22), (.int .u64 n23)])), (4, (.agg #[(.int .i64 n24), (.int .i64 n25), (.int .i64 n26), (.int .i64 n27), (.int .u64 n28)]))]) H2 fun v29 H30 =>
 ∃ (A31 : Option Addr) (l31 c31 : Nat), v29 = (.slice A31 l31 c31) ∧ HRun Tryd.prog base (Instr.buildSlice 24 1 #[(0, (.int .i64 4))]) H30 fun v32 H33 =>
 ∃ (A34 : Option Addr) (l34 c34 : Nat), v32 = (.slice A34 l34 c34) ∧ ∃ n35 : Int, ∃ (A36 : Option Addr) (l36 c36 : Nat), ∃ (A37 : Option Addr) (l37 c37 : Nat), AQ Tryd.prog (Instr.build 26 #[(0, (.int .u64 31)), (1, (.slice A31 l31 c31)), (2, (.slice A34 l34 c34))]) (.agg #[(.int .u64 n35), (.slice A36 l36 c36), (.slice A37 l37 c37)]) ∧
 HRun Tryd.prog base (Instr.storeAt 26 (.pointer ((some a3))) (.agg #[(.int .u64 n35), (.slice A36 l36 c36), (.slice A37 l37 c37)])) H33 fun _ H38 =>
 ∃ r_, QRun Tryd.prog (results Tryd.f47 (List.toArray [(.pointer ((some a3))), (.agg #[(.int .i64 n4), (.int .i64 n5), (.int .i64 n6), (.int .i64 n7), (.int .u64 n8)]), (.agg #[(.int .i64 n9), (.int .i64 n10), (.int .i64 n11), (.int .i64 n12), (.int .u64 n13)]), (.agg #[(.int .i64 n14), (.int .i64 n15), (.int .i64 n16), (.int .i64 n17), (.int .u64 n18)]), (.agg #[(.int .i64 n19), (.int .i64 n20), (.int .i64 n21), (.int .i64 n22), (.int .u64 n23)]), (.agg #[(.int .i64 n24), (.int .i64 n25), (.int .i64 n26), (.int .i64 n27), (.int .u64 n28)]), (.slice A31 l31 c31), (.slice A34 l34 c34), (.agg #[(.int .u64 n35), (.slice A36 l36 c36), (.slice A37 l37 c37)])])) H38 r_ ∧ K r_ H38
theorem privitylaw36_example.spec {base : Nat}  {H0 : HH} {K : Value → HH → Prop} (h : privitylaw36_example.sh base  H0 K) : HCall Tryd.prog base 47 #[] H0 K := spec_of_wpC (n := 9) (ann := privitylaw36_example.ann) mix Tryd.func47 (by kernel_rfl) (cast (show privitylaw36_example.sh base  H0 K = wpC Tryd.prog base 9 privitylaw36_example.ann (bodyOf Tryd.f47) (ofL []) H0 (retQ Tryd.prog 9 Tryd.f47 K) by kernel_rfl) h)
def privitylaw36_awake.ann : Ann := ⟨fun k => bif Nat.beq k 3 then [2, 6, 7, 10, 13, 16, 19, 26] else [], fun k => false, fun k => []⟩
def privitylaw36_awake.sh (base : Nat)  (H0 : HH) (K : Value → HH → Prop) : Prop :=
 HCall Tryd.prog base 47 #[] H0 fun v1 H2 =>
 ∃ n3 : Int, ∃ (A4 : Option Addr) (l4 c4 : Nat), ∃ (A5 : Option Addr) (l5 c5 : Nat), v1 = (.agg #[(.int .u64 n3), (.slice A4 l4 c4), (.slice A5 l5 c5)]) ∧ HCall Tryd.prog base 29 #[(.agg #[(.int .u64 n3), (.slice A4 l4 c4), (.slice A5 l5 c5)])] H2 fun v6 H7 =>
 ∃ n8 : Int, ∃ (A9 : Option Addr) (l9 c9 : Nat), ∃ (A10 : Option Addr) (l10 c10 : Nat), ∃ (A11 : Option Addr) (l11 c11 : Nat), v6 = (.tuple #[(.agg #[(.int .u64 n8), (.slice A9 l9 c9), (.slice A10 l10 c10)]), (.agg #[(.slice A11 l11 c11)])]) ∧ HRun Tryd.prog base (Instr.alloc 26 true (.tuple #[])) H7 fun v12 H13 =>
 ∃ a14 : Addr, v12 = (.pointer ((some a14))) ∧ HRun Tryd.prog base (Instr.alloc 46 true (.tuple #[])) H13 fun v15 H16 =>
 ∃ a17 : Addr, v15 = (.pointer ((some a17))) ∧ HRun Tryd.prog base (Instr.storeAt 26 (.pointer ((some a14))) (.agg #[(.int .u64 n8), (.slice A9 l9 c9), (.slice A10 l10 c10)])) H16 fun _ H18 =>
 HRun Tryd.prog base (Instr.storeAt 46 (.pointer ((some a17))) (.agg #[(.slice A11 l11 c11)])) H18 fun _ H19 =>
 ∃ n20 : Int, ∃ n21 : Int, ∃ n22 : Int, ∃ n23 : Int, ∃ n24 : Int, AQ Tryd.prog (Instr.build 37 #[(0, (.int .i64 1)), (1, (.int .i64 1))]) (.agg #[(.int .i64 n20), (.int .i64 n21), (.int .i64 n22), (.int .i64 n23), (.int .u64 n24)]) ∧
 ∃ n25 : Int, ∃ n26 : Int, ∃ n27 : Int, ∃ n28 : Int, ∃ n29 : Int, AQ Tryd.prog (Instr.build 37 #[(0, (.int .i64 1)), (1, (.int .i64 1))]) (.agg #[(.int .i64 n25), (.int .i64 n26), (.int .i64 n27), (.int .i64 n28), (.int .u64 n29)]) ∧
 ∃ n30 : Int, ∃ n31 : Int, ∃ n32 : Int, ∃ n33 : Int, ∃ n34 : Int, AQ Tryd.prog (Instr.build 37 #[(0, (.int .i64 3)), (2, (.int .i64 0)), (3, (.int .i64 1))]) (.agg #[(.int .i64 n30), (.int .i64 n31), (.int .i64 n32), (.int .i64 n33), (.int .u64 n34)]) ∧
 ∃ n35 : Int, ∃ n36 : Int, ∃ n37 : Int, ∃ n38 : Int, ∃ n39 : Int, AQ Tryd.prog (Instr.build 37 #[(0, (.int .i64 6)), (2, (.int .i64 2)), (3, (.int .i64 2))]) (.agg #[(.int .i64 n35), (.int .i64 n36), (.int .i64 n37), (.int .i64 n38), (.int .u64 n39)]) ∧
 HRun Tryd.prog base (Instr.buildSlice 23 4 #[(0, (.agg #[(.int .i64 n20), (.int .i64 n21), (.int .i64 n22), (.int .i64 n23), (.int .u64 n24)])), (1, (.agg #[(.int .i64 n25), (.int .i64 n26), (.int .i64 n27), (.int .i64 n28), (.int .u64 n29)])), (2, (.agg #[(.int .i64 n30), (.int .i64 n31), (.int .i64 n32), (.int .i64 n33), (.int .u64 n34)])), (3, (.agg #[(.int .i64 n35), (.int .i64 n36), (.int .i64 n37), (.int .i64 n38), (.int .u64 n39)]))]) H19 fun v40 H41 =>
 ∃ (A42 : Option Addr) (l42 c42 : Nat), v40 = (.slice A42 l42 c42) ∧ HRun Tryd.prog base (Instr.buildSlice 24 1 #[(0, (.int .i64 3))]) H41 fun v43 H44 =>
 ∃ (A45 : Option Addr) (l45 c45 : Nat), v43 = (.slice A45 l45 c45) ∧ ∃ n46 : Int, ∃ (A47 : Option Addr) (l47 c47 : Nat), ∃ (A48 : Option Addr) (l48 c48 : Nat), AQ Tryd.prog (Instr.build 26 #[(0, (.int .u64 31)), (1, (.slice A42 l42 c42)), (2, (.slice A45 l45 c45))]) (.agg #[(.int .u64 n46), (.slice A47 l47 c47), (.slice A48 l48 c48)]) ∧
 HRun Tryd.prog base (Instr.alloc 26 true (.tuple #[])) H44 fun v49 H50 =>
 ∃ a51 : Addr, v49 = (.pointer ((some a51))) ∧ HRun Tryd.prog base (Instr.storeAt 26 (.pointer ((some a51))) (.agg #[(.int .u64 n46), (.slice A47 l47 c47), (.slice A48 l48 c48)])) H50 fun _ H52 =>
 ∃ n53 : Int, ∃ (A54 : Option Addr) (l54 c54 : Nat), ∃ (A55 : Option Addr) (l55 c55 : Nat), QRun Tryd.prog (Instr.loadAt 26 (.pointer ((some a14)))) H52 (.agg #[(.int .u64 n53), (.slice A54 l54 c54), (.slice A55 l55 c55)]) ∧
 ∃ n56 : Int, ∃ (A57 : Option Addr) (l57 c57 : Nat), ∃ (A58 : Option Addr) (l58 c58 : Nat), QRun Tryd.prog (Instr.loadAt 26 (.pointer ((some a51)))) H52 (.agg #[(.int .u64 n56), (.slice A57 l57 c57), (.slice A58 l58 c58)]) ∧
 HCall Tryd.prog base 31 #[(.agg #[(.int .u64 n53), (.slice A54 l54 c54), (.slice A55 l55 c55)]), (.agg #[(.int .u64 n56), (.slice A57 l57 c57), (.slice A58 l58 c58)])] H52 fun v59 H60 =>
 ∃ b61 : Bool, v59 = (.bool b61) ∧ if b61 = true then
 ∃ a62 : Addr, AQ Tryd.prog (Instr.fieldAt 46 (.pointer ((some a17))) 0) (.pointer ((some a62))) ∧
 ∃ (A63 : Option Addr) (l63 c63 : Nat), QRun Tryd.prog (Instr.loadAt 24 (.pointer ((some a62)))) H60 (.slice A63 l63 c63) ∧
 HRun Tryd.prog base (Instr.buildSlice 24 5 #[(0, (.int .i64 0)), (1, (.int .i64 1)), (2, (.int .i64 2)), (3, (.int .i64 2)), (4, (.int .i64 3))]) H60 fun v64 H65 =>
 ∃ (A66 : Option Addr) (l66 c66 : Nat), v64 = (.slice A66 l66 c66) ∧ QRun Tryd.prog (Instr.loadAt 24 (.pointer ((some a62)))) H65 (.slice A63 l63 c63) ∧
 HCall Tryd.prog base 32 #[(.slice A63 l63 c63), (.slice A66 l66 c66)] H65 fun v67 H68 =>
 ∃ b69 : Bool, v67 = (.bool b69) ∧ if b69 = true then
 ∃ n70 : Int, ∃ (A71 : Option Addr) (l71 c71 : Nat), ∃ (A72 : Option Addr) (l72 c72 : Nat), QRun Tryd.prog (Instr.loadAt 26 (.pointer ((some a14)))) H68 (.agg #[(.int .u64 n70), (.slice A71 l71 c71), (.slice A72 l72 c72)]) ∧
 ∃ (A73 : Option Addr) (l73 c73 : Nat), QRun Tryd.prog (Instr.loadAt 46 (.pointer ((some a17)))) H68 (.agg #[(.slice A73 l73 c73)]) ∧
 HCall Tryd.prog base 47 #[] H68 fun v74 H75 =>
 ∃ n76 : Int, ∃ (A77 : Option Addr) (l77 c77 : Nat), ∃ (A78 : Option Addr) (l78 c78 : Nat), v74 = (.agg #[(.int .u64 n76), (.slice A77 l77 c77), (.slice A78 l78 c78)]) ∧ QRun Tryd.prog (Instr.loadAt 46 (.pointer ((some a17)))) H75 (.agg #[(.slice A73 l73 c73)]) ∧
 QRun Tryd.prog (Instr.loadAt 26 (.pointer ((some a14)))) H75 (.agg #[(.int .u64 n70), (.slice A71 l71 c71), (.slice A72 l72 c72)]) ∧
 HCall Tryd.prog base 33 #[(.agg #[(.int .u64 n76), (.slice A77 l77 c77), (.slice A78 l78 c78)]), (.agg #[(.int .u64 n70), (.slice A71 l71 c71), (.slice A72 l72 c72)]), (.agg #[(.slice A73 l73 c73)])] H75 fun v79 H80 =>
 ∃ b81 : Bool, v79 = (.bool b81) ∧ if b81 = true then
 ∃ n82 : Int, ∃ (A83 : Option Addr) (l83 c83 : Nat), ∃ (A84 : Option Addr) (l84 c84 : Nat), QRun Tryd.prog (Instr.loadAt 26 (.pointer ((some a14)))) H80 (.agg #[(.int .u64 n82), (.slice A83 l83 c83), (.slice A84 l84 c84)]) ∧
 ∃ (A85 : Option Addr) (l85 c85 : Nat), AQ Tryd.prog (Instr.build 46 #[]) (.agg #[(.slice A85 l85 c85)]) ∧
 HCall Tryd.prog base 47 #[] H80 fun v86 H87 =>
 ∃ n88 : Int, ∃ (A89 : Option Addr) (l89 c89 : Nat), ∃ (A90 : Option Addr) (l90 c90 : Nat), v86 = (.agg #[(.int .u64 n88), (.slice A89 l89 c89), (.slice A90 l90 c90)]) ∧ QRun Tryd.prog (Instr.loadAt 26 (.pointer ((some a14)))) H87 (.agg #[(.int .u64 n82), (.slice A83 l83 c83), (.slice A84 l84 c84)]) ∧
 HCall Tryd.prog base 33 #[(.agg #[(.int .u64 n88), (.slice A89 l89 c89), (.slice A90 l90 c90)]), (.agg #[(.int .u64 n82), (.slice A83 l83 c83), (.slice A84 l84 c84)]), (.agg #[(.slice A85 l85 c85)])] H87 fun v91 H92 =>
 ∃ b93 : Bool, v91 = (.bool b93) ∧ if (!b93) = true then
 ∃ n94 : Int, ∃ (A95 : Option Addr) (l95 c95 : Nat), ∃ (A96 : Option Addr) (l96 c96 : Nat), AQ Tryd.prog (Instr.build 26 #[(0, (.int .u64 31))]) (.agg #[(.int .u64 n94), (.slice A95 l95 c95), (.slice A96 l96 c96)]) ∧
 ∃ n97 : Int, ∃ (A98 : Option Addr) (l98 c98 : Nat), ∃ (A99 : Option Addr) (l99 c99 : Nat), AQ Tryd.prog (Instr.build 26 #[(0, (.int .u64 31))]) (.agg #[(.int .u64 n97), (.slice A98 l98 c98), (.slice A99 l99 c99)]) ∧
 ∃ (A100 : Option Addr) (l100 c100 : Nat), AQ Tryd.prog (Instr.build 46 #[]) (.agg #[(.slice A100 l100 c100)]) ∧
 HCall Tryd.prog base 33 #[(.agg #[(.int .u64 n94), (.slice A95 l95 c95), (.slice A96 l96 c96)]), (.agg #[(.int .u64 n97), (.slice A98 l98 c98), (.slice A99 l99 c99)]), (.agg #[(.slice A100 l100 c100)])] H92 fun v101 H102 =>
 ∃ b103 : Bool, v101 = (.bool b103) ∧ K (.bool b103) H102
 else
 K (.bool false) H92
 else
 K (.bool false) H80
 else
 K (.bool false) H68
 else
 K (.bool false) H60
theorem privitylaw36_awake.spec {base : Nat}  {H0 : HH} {K : Value → HH → Prop} (h : privitylaw36_awake.sh base  H0 K) : HCall Tryd.prog base 28 #[] H0 K := spec_of_wpC (n := 44) (ann := privitylaw36_awake.ann) mix Tryd.func28 (by kernel_rfl) (cast (show privitylaw36_awake.sh base  H0 K = wpC Tryd.prog base 44 privitylaw36_awake.ann (bodyOf Tryd.f28) (ofL []) H0 (retQ Tryd.prog 44 Tryd.f28 K) by kernel_rfl) h)
def privitylaw36_few.ann : Ann := ⟨fun k => [], fun k => false, fun k => []⟩
def privitylaw36_few.sh (base : Nat) (x0_0 : Int) (Ax0_1 : Option Addr) (lx0_1 cx0_1 : Nat) (Ax0_2 : Option Addr) (lx0_2 cx0_2 : Nat) (H0 : HH) (K : Value → HH → Prop) : Prop :=
 HRun Tryd.prog base (Instr.box 26 (.agg #[(.int .u64 x0_0), (.slice Ax0_1 lx0_1 cx0_1), (.slice Ax0_2 lx0_2 cx0_2)])) H0 fun v1 H2 =>
 ∃ a3 : Addr, v1 = (.pointer ((some a3))) ∧ ∃ a4 : Addr, AQ Tryd.prog (Instr.fieldAt 26 (.pointer ((some a3))) 1) (.pointer ((some a4))) ∧
 ∃ (A5 : Option Addr) (l5 c5 : Nat), QRun Tryd.prog (Instr.loadAt 23 (.pointer ((some a4)))) H2 (.slice A5 l5 c5) ∧
 if (decide ((((l5 : Nat) : Int) : Int) ≤ 60)) = true then
 ∃ a6 : Addr, AQ Tryd.prog (Instr.fieldAt 26 (.pointer ((some a3))) 2) (.pointer ((some a6))) ∧
 ∃ (A7 : Option Addr) (l7 c7 : Nat), QRun Tryd.prog (Instr.loadAt 24 (.pointer ((some a6)))) H2 (.slice A7 l7 c7) ∧
 K (.bool ((decide ((((l7 : Nat) : Int) : Int) ≤ 60)))) H2
 else
 K (.bool false) H2
theorem privitylaw36_few.spec {base : Nat} {x0_0 : Int} {Ax0_1 : Option Addr} {lx0_1 cx0_1 : Nat} {Ax0_2 : Option Addr} {lx0_2 cx0_2 : Nat} {H0 : HH} {K : Value → HH → Prop} (h : privitylaw36_few.sh base x0_0 Ax0_1 lx0_1 cx0_1 Ax0_2 lx0_2 cx0_2 H0 K) : HCall Tryd.prog base 27 #[(.agg #[(.int .u64 x0_0), (.slice Ax0_1 lx0_1 cx0_1), (.slice Ax0_2 lx0_2 cx0_2)])] H0 K := spec_of_wpC (n := 13) (ann := privitylaw36_few.ann) mix Tryd.func27 (by kernel_rfl) (cast (show privitylaw36_few.sh base x0_0 Ax0_1 lx0_1 cx0_1 Ax0_2 lx0_2 cx0_2 H0 K = wpC Tryd.prog base 13 privitylaw36_few.ann (bodyOf Tryd.f27) (ofL [(.agg #[(.int .u64 x0_0), (.slice Ax0_1 lx0_1 cx0_1), (.slice Ax0_2 lx0_2 cx0_2)])]) H0 (retQ Tryd.prog 13 Tryd.f27 K) by kernel_rfl) h)
def privitylaw36_OptimizeResult.ann : Ann := ⟨fun k => [], fun k => false, fun k => []⟩
def privitylaw36_OptimizeCertificateValid.ann : Ann := ⟨fun k => [], fun k => false, fun k => []⟩
def privitylaw36_OptimizeCheckCertificate.ann : Ann := ⟨fun k => bif Nat.beq k 3 then [0, 5, 9] else [], fun k => false, fun k => []⟩
def privitylaw36_OptimizeIdempotent.ann : Ann := ⟨fun k => bif Nat.beq k 10 then [1, 3] else [], fun k => false, fun k => bif Nat.beq k 6 then [1, 3, 5, 6, 7] else []⟩
def privitylaw36_products.ann : Ann := ⟨fun k => [], fun k => false, fun k => bif Nat.beq k 3 then [1, 3, 4] else []⟩
def privitylaw36_OptimizeDuplicates.ann : Ann := ⟨fun k => bif Nat.beq k 4 then [2, 5, 6, 9, 11, 12] else bif Nat.beq k 21 then [10, 11, 13] else bif Nat.beq k 26 then [0, 3, 6, 8] else [], fun k => bif Nat.beq k 5 then true else bif Nat.beq k 14 then true else bif Nat.beq k 16 then true else false, fun k => bif Nat.beq k 5 then [1, 3, 4] else bif Nat.beq k 7 then [1, 3, 4, 5, 6] else bif Nat.beq k 14 then [1, 3, 4, 5, 6, 7] else bif Nat.beq k 16 then [1, 3, 4, 5, 6, 7] else bif Nat.beq k 19 then [1, 4, 5, 8] else []⟩
def privitylaw36_OptimizeDuplicates.P0 (base : Nat) (l : List Value) (H0 : HH) (K : Value → HH → Prop) : Prop := HCodeL Tryd.prog base 149 (codeAt [.r, .r, .r, .r, .r, .l, .r, .b] (bodyOf Tryd.f14)) [1, 3, 4, 5, 6] l H0 (qAt Tryd.prog base 149 privitylaw36_OptimizeDuplicates.ann [.r, .r, .r, .r, .r, .l, .r, .b] [] (bodyOf Tryd.f14) (retQ Tryd.prog 149 Tryd.f14 K))
def privitylaw36_OptimizeDuplicates.P1 (base : Nat) (l : List Value) (H0 : HH) (K : Value → HH → Prop) : Prop := HCodeL Tryd.prog base 149 (codeAt [.r, .r, .r, .r, .r, .r, .l, .r, .b] (bodyOf Tryd.f14)) [1, 4, 5, 8] l H0 (qAt Tryd.prog base 149 privitylaw36_OptimizeDuplicates.ann [.r, .r, .r, .r, .r, .r, .l, .r, .b] [] (bodyOf Tryd.f14) (retQ Tryd.prog 149 Tryd.f14 K))
def privitylaw36_OptimizeDuplicates.R0 (base : Nat) (l : List Value) (H0 : HH) (K : Value → HH → Prop) : Prop := HCodeL Tryd.prog base 149 (codeAt [.r, .r, .r, .r] (bodyOf Tryd.f14)) [1, 3, 4] l H0 (qAt Tryd.prog base 149 privitylaw36_OptimizeDuplicates.ann [.r, .r, .r, .r] [] (bodyOf Tryd.f14) (retQ Tryd.prog 149 Tryd.f14 K))
def privitylaw36_OptimizeDuplicates.R1 (base : Nat) (N0 : Value → HH → Prop) (l : List Value) (H0 : HH) (K : Value → HH → Prop) : Prop := HCodeL Tryd.prog base 149 (codeAt [.r, .r, .r, .r, .r, .l, .r, .b, .lp, .r, .l, .b, .r, .r, .r] (bodyOf Tryd.f14)) [1, 3, 4, 5, 6, 7] l H0 (qAt Tryd.prog base 149 privitylaw36_OptimizeDuplicates.ann [.r, .r, .r, .r, .r, .l, .r, .b, .lp, .r, .l, .b, .r, .r, .r] [fun fr H => N0 (fr 6) H] (bodyOf Tryd.f14) (retQ Tryd.prog 149 Tryd.f14 K))
def privitylaw36_OptimizeDuplicates.R2 (base : Nat) (N0 : Value → HH → Prop) (l : List Value) (H0 : HH) (K : Value → HH → Prop) : Prop := HCodeL Tryd.prog base 149 (codeAt [.r, .r, .r, .r, .r, .l, .r, .b, .lp, .r, .l, .b, .r, .r, .r, .r] (bodyOf Tryd.f14)) [1, 3, 4, 5, 6, 7] l H0 (qAt Tryd.prog base 149 privitylaw36_OptimizeDuplicates.ann [.r, .r, .r, .r, .r, .l, .r, .b, .lp, .r, .l, .b, .r, .r, .r, .r] [fun fr H => N0 (fr 6) H] (bodyOf Tryd.f14) (retQ Tryd.prog 149 Tryd.f14 K))
def privitylaw36_OptimizeDuplicates.S0 (base : Nat) (x1 : Addr) (x3 : Int) (x4 : Addr) (H0 : HH) (K : Value → HH → Prop) : Prop :=
 HRun Tryd.prog base (Instr.makeSlice 24 (.int .i64 x3) (.int .i64 x3)) H0 fun v363 H364 =>
 ∃ (A365 : Option Addr) (l365 c365 : Nat), v363 = (.slice A365 l365 c365) ∧ privitylaw36_OptimizeDuplicates.P0 base [(.pointer ((some x1))), (.int .i64 x3), (.pointer ((some x4))), (.slice A365 l365 c365), (.int .i64 0)] H364 K
def privitylaw36_OptimizeDuplicates.T0 (base : Nat) (x1 : Addr) (x3 : Int) (x4 : Addr) (H0 : HH) (K : Value → HH → Prop) : Prop := privitylaw36_OptimizeDuplicates.S0 base x1 x3 x4 H0 K
theorem privitylaw36_OptimizeDuplicates.rest0 {base : Nat} {x1 : Addr} {x3 : Int} {x4 : Addr} {H0 : HH} {K : Value → HH → Prop} (h : privitylaw36_OptimizeDuplicates.S0 base x1 x3 x4 H0 K) : privitylaw36_OptimizeDuplicates.R0 base [(.pointer ((some x1))), (.int .i64 x3), (.pointer ((some x4)))] H0 K := by
  refine wpCL_sound (ann := privitylaw36_OptimizeDuplicates.ann) mix (fun fr ⟨e1, e3, e4, _⟩ => ?_)
  rw [← ov_eq (g := fr) [(1, (.pointer ((some x1)))), (3, (.int .i64 x3)), (4, (.pointer ((some x4))))] (by simp only [List.mem_cons, List.not_mem_nil, or_false, forall_eq_or_imp, forall_eq, false_implies, implies_true]; exact ⟨e1, e3, e4⟩)]
  exact cast (show privitylaw36_OptimizeDuplicates.S0 base x1 x3 x4 H0 K = wpC Tryd.prog base 149 privitylaw36_OptimizeDuplicates.ann (codeAt [.r, .r, .r, .r] (bodyOf Tryd.f14)) (ov fr [(1, (.pointer ((some x1)))), (3, (.int .i64 x3)), (4, (.pointer ((some x4))))]) H0 (qAt Tryd.prog base 149 privitylaw36_OptimizeDuplicates.ann [.r, .r, .r, .r] [] (bodyOf Tryd.f14) (retQ Tryd.prog 149 Tryd.f14 K)) by kernel_rfl) h
theorem privitylaw36_OptimizeDuplicates.cut0 {base : Nat} {x1 : Addr} {x3 : Int} {x4 : Addr} {H0 : HH} {K : Value → HH → Prop} (h : privitylaw36_OptimizeDuplicates.T0 base x1 x3 x4 H0 K) : privitylaw36_OptimizeDuplicates.R0 base [(.pointer ((some x1))), (.int .i64 x3), (.pointer ((some x4)))] H0 K := privitylaw36_OptimizeDuplicates.rest0 h
def privitylaw36_OptimizeDuplicates.S1 (base : Nat) (N0 : Value → HH → Prop) (x1 : Addr) (x3 : Int) (x4 : Addr) (Ax5 : Option Addr) (lx5 cx5 : Nat) (x6 : Int) (x7 : Addr) (H0 : HH) (K : Value → HH → Prop) : Prop :=
 ∃ a366 : Addr, AQ Tryd.prog (Instr.fieldAt 37 (.pointer ((some x7))) 0) (.pointer ((some a366))) ∧
 ∃ n367 : Int, QRun Tryd.prog (Instr.loadAt 3 (.pointer ((some a366)))) H0 (.int .i64 n367) ∧
 if ((n367 : Int) == 3) = false then
 ∃ a368 : Addr, AQ Tryd.prog (Instr.fieldAt 37 (.pointer ((some x7))) 0) (.pointer ((some a368))) ∧
 ∃ n369 : Int, QRun Tryd.prog (Instr.loadAt 3 (.pointer ((some a368)))) H0 (.int .i64 n369) ∧
 if ((n369 : Int) == 4) = false then
 ∃ a370 : Addr, AQ Tryd.prog (Instr.fieldAt 37 (.pointer ((some x7))) 0) (.pointer ((some a370))) ∧
 ∃ n371 : Int, QRun Tryd.prog (Instr.loadAt 3 (.pointer ((some a370)))) H0 (.int .i64 n371) ∧
 if ((n371 : Int) == 6) = true then
 ∃ a372 : Addr, AQ Tryd.prog (Instr.fieldAt 37 (.pointer ((some x7))) 3) (.pointer ((some a372))) ∧
 ∃ n373 : Int, QRun Tryd.prog (Instr.loadAt 3 (.pointer ((some a372)))) H0 (.int .i64 n373) ∧
 ∃ a374 : Addr, AQ Tryd.prog (Instr.indexAt 24 (.slice Ax5 lx5 cx5) (.int .i64 n373)) (.pointer ((some a374))) ∧
 ∃ n375 : Int, QRun Tryd.prog (Instr.loadAt 3 (.pointer ((some a374)))) H0 (.int .i64 n375) ∧
 ∃ a376 : Addr, AQ Tryd.prog (Instr.fieldAt 37 (.pointer ((some x7))) 3) (.pointer ((some a376))) ∧
 HRun Tryd.prog base (Instr.storeAt 3 (.pointer ((some a376))) (.int .i64 n375)) H0 fun _ H377 =>
 privitylaw36_OptimizeDuplicates.R2 base N0 [(.pointer ((some x1))), (.int .i64 x3), (.pointer ((some x4))), (.slice Ax5 lx5 cx5), (.int .i64 x6), (.pointer ((some x7)))] H377 K
 else
 privitylaw36_OptimizeDuplicates.R2 base N0 [(.pointer ((some x1))), (.int .i64 x3), (.pointer ((some x4))), (.slice Ax5 lx5 cx5), (.int .i64 x6), (.pointer ((some x7)))] H0 K
 else
 ∃ a378 : Addr, AQ Tryd.prog (Instr.fieldAt 37 (.pointer ((some x7))) 3) (.pointer ((some a378))) ∧
 ∃ n379 : Int, QRun Tryd.prog (Instr.loadAt 3 (.pointer ((some a378)))) H0 (.int .i64 n379) ∧
 ∃ a380 : Addr, AQ Tryd.prog (Instr.indexAt 24 (.slice Ax5 lx5 cx5) (.int .i64 n379)) (.pointer ((some a380))) ∧
 ∃ n381 : Int, QRun Tryd.prog (Instr.loadAt 3 (.pointer ((some a380)))) H0 (.int .i64 n381) ∧
 ∃ a382 : Addr, AQ Tryd.prog (Instr.fieldAt 37 (.pointer ((some x7))) 3) (.pointer ((some a382))) ∧
 HRun Tryd.prog base (Instr.storeAt 3 (.pointer ((some a382))) (.int .i64 n381)) H0 fun _ H383 =>
 privitylaw36_OptimizeDuplicates.R2 base N0 [(.pointer ((some x1))), (.int .i64 x3), (.pointer ((some x4))), (.slice Ax5 lx5 cx5), (.int .i64 x6), (.pointer ((some x7)))] H383 K
 else
 ∃ a384 : Addr, AQ Tryd.prog (Instr.fieldAt 37 (.pointer ((some x7))) 3) (.pointer ((some a384))) ∧
 ∃ n385 : Int, QRun Tryd.prog (Instr.loadAt 3 (.pointer ((some a384)))) H0 (.int .i64 n385) ∧
 ∃ a386 : Addr, AQ Tryd.prog (Instr.indexAt 24 (.slice Ax5 lx5 cx5) (.int .i64 n385)) (.pointer ((some a386))) ∧
 ∃ n387 : Int, QRun Tryd.prog (Instr.loadAt 3 (.pointer ((some a386)))) H0 (.int .i64 n387) ∧
 ∃ a388 : Addr, AQ Tryd.prog (Instr.fieldAt 37 (.pointer ((some x7))) 3) (.pointer ((some a388))) ∧
 HRun Tryd.prog base (Instr.storeAt 3 (.pointer ((some a388))) (.int .i64 n387)) H0 fun _ H389 =>
 privitylaw36_OptimizeDuplicates.R2 base N0 [(.pointer ((some x1))), (.int .i64 x3), (.pointer ((some x4))), (.slice Ax5 lx5 cx5), (.int .i64 x6), (.pointer ((some x7)))] H389 K
def privitylaw36_OptimizeDuplicates.T1 (base : Nat) (N0 : Value → HH → Prop) (x1 : Addr) (x3 : Int) (x4 : Addr) (Ax5 : Option Addr) (lx5 cx5 : Nat) (x6 : Int) (x7 : Addr) (H0 : HH) (K : Value → HH → Prop) : Prop := privitylaw36_OptimizeDuplicates.S1 base N0 x1 x3 x4 Ax5 lx5 cx5 x6 x7 H0 K
theorem privitylaw36_OptimizeDuplicates.rest1 {base : Nat} {N0 : Value → HH → Prop} {x1 : Addr} {x3 : Int} {x4 : Addr} {Ax5 : Option Addr} {lx5 cx5 : Nat} {x6 : Int} {x7 : Addr} {H0 : HH} {K : Value → HH → Prop} (h : privitylaw36_OptimizeDuplicates.S1 base N0 x1 x3 x4 Ax5 lx5 cx5 x6 x7 H0 K) : privitylaw36_OptimizeDuplicates.R1 base N0 [(.pointer ((some x1))), (.int .i64 x3), (.pointer ((some x4))), (.slice Ax5 lx5 cx5), (.int .i64 x6), (.pointer ((some x7)))] H0 K := by
  refine wpCL_sound (ann := privitylaw36_OptimizeDuplicates.ann) mix (fun fr ⟨e1, e3, e4, e5, e6, e7, _⟩ => ?_)
  rw [← ov_eq (g := fr) [(1, (.pointer ((some x1)))), (3, (.int .i64 x3)), (4, (.pointer ((some x4)))), (5, (.slice Ax5 lx5 cx5)), (6, (.int .i64 x6)), (7, (.pointer ((some x7))))] (by simp only [List.mem_cons, List.not_mem_nil, or_false, forall_eq_or_imp, forall_eq, false_implies, implies_true]; exact ⟨e1, e3, e4, e5, e6, e7⟩)]
  exact cast (show privitylaw36_OptimizeDuplicates.S1 base N0 x1 x3 x4 Ax5 lx5 cx5 x6 x7 H0 K = wpC Tryd.prog base 149 privitylaw36_OptimizeDuplicates.ann (codeAt [.r, .r, .r, .r, .r, .l, .r, .b, .lp, .r, .l, .b, .r, .r, .r] (bodyOf Tryd.f14)) (ov fr [(1, (.pointer ((some x1)))), (3, (.int .i64 x3)), (4, (.pointer ((some x4)))), (5, (.slice Ax5 lx5 cx5)), (6, (.int .i64 x6)), (7, (.pointer ((some x7))))]) H0 (qAt Tryd.prog base 149 privitylaw36_OptimizeDuplicates.ann [.r, .r, .r, .r, .r, .l, .r, .b, .lp, .r, .l, .b, .r, .r, .r] [fun fr H => N0 (fr 6) H] (bodyOf Tryd.f14) (retQ Tryd.prog 149 Tryd.f14 K)) by kernel_rfl) h
theorem privitylaw36_OptimizeDuplicates.cut1 {base : Nat} {N0 : Value → HH → Prop} {x1 : Addr} {x3 : Int} {x4 : Addr} {Ax5 : Option Addr} {lx5 cx5 : Nat} {x6 : Int} {x7 : Addr} {H0 : HH} {K : Value → HH → Prop} (h : privitylaw36_OptimizeDuplicates.T1 base N0 x1 x3 x4 Ax5 lx5 cx5 x6 x7 H0 K) : privitylaw36_OptimizeDuplicates.R1 base N0 [(.pointer ((some x1))), (.int .i64 x3), (.pointer ((some x4))), (.slice Ax5 lx5 cx5), (.int .i64 x6), (.pointer ((some x7)))] H0 K := privitylaw36_OptimizeDuplicates.rest1 h
def privitylaw36_OptimizeDuplicates.S2 (base : Nat) (N0 : Value → HH → Prop) (x1 : Addr) (x3 : Int) (x4 : Addr) (Ax5 : Option Addr) (lx5 cx5 : Nat) (x6 : Int) (x7 : Addr) (H0 : HH) (K : Value → HH → Prop) : Prop :=
 ∃ a390 : Addr, AQ Tryd.prog (Instr.fieldAt 26 (.pointer ((some x4))) 1) (.pointer ((some a390))) ∧
 ∃ (A391 : Option Addr) (l391 c391 : Nat), QRun Tryd.prog (Instr.loadAt 23 (.pointer ((some a390)))) H0 (.slice A391 l391 c391) ∧
 ∃ a392 : Addr, AQ Tryd.prog (Instr.indexAt 24 (.slice Ax5 lx5 cx5) (.int .i64 x6)) (.pointer ((some a392))) ∧
 HRun Tryd.prog base (Instr.storeAt 3 (.pointer ((some a392))) (.int .i64 (((l391 : Nat) : Int)))) H0 fun _ H393 =>
 ∃ a394 : Addr, AQ Tryd.prog (Instr.fieldAt 26 (.pointer ((some x4))) 1) (.pointer ((some a394))) ∧
 ∃ (A395 : Option Addr) (l395 c395 : Nat), QRun Tryd.prog (Instr.loadAt 23 (.pointer ((some a394)))) H393 (.slice A395 l395 c395) ∧
 ∃ n396 : Int, ∃ n397 : Int, ∃ n398 : Int, ∃ n399 : Int, ∃ n400 : Int, QRun Tryd.prog (Instr.loadAt 37 (.pointer ((some x7)))) H393 (.agg #[(.int .i64 n396), (.int .i64 n397), (.int .i64 n398), (.int .i64 n399), (.int .u64 n400)]) ∧
 HRun Tryd.prog base (Instr.buildSlice 23 1 #[(0, (.agg #[(.int .i64 n396), (.int .i64 n397), (.int .i64 n398), (.int .i64 n399), (.int .u64 n400)]))]) H393 fun v401 H402 =>
 ∃ (A403 : Option Addr) (l403 c403 : Nat), v401 = (.slice A403 l403 c403) ∧ HRun Tryd.prog base (Builtin.append_ #[23, 23] 23 #[(.slice A395 l395 c395), (.slice A403 l403 c403)]) H402 fun v404 H405 =>
 ∃ (A406 : Option Addr) (l406 c406 : Nat), v404 = (.slice A406 l406 c406) ∧ ∃ a407 : Addr, AQ Tryd.prog (Instr.fieldAt 26 (.pointer ((some x4))) 1) (.pointer ((some a407))) ∧
 HRun Tryd.prog base (Instr.storeAt 23 (.pointer ((some a407))) (.slice A406 l406 c406)) H405 fun _ H408 =>
 N0 (.int .i64 ((IntKind.i64.wrap (x6 + 1)))) H408
def privitylaw36_OptimizeDuplicates.T2 (base : Nat) (N0 : Value → HH → Prop) (x1 : Addr) (x3 : Int) (x4 : Addr) (Ax5 : Option Addr) (lx5 cx5 : Nat) (x6 : Int) (x7 : Addr) (H0 : HH) (K : Value → HH → Prop) : Prop := privitylaw36_OptimizeDuplicates.S2 base N0 x1 x3 x4 Ax5 lx5 cx5 x6 x7 H0 K
theorem privitylaw36_OptimizeDuplicates.rest2 {base : Nat} {N0 : Value → HH → Prop} {x1 : Addr} {x3 : Int} {x4 : Addr} {Ax5 : Option Addr} {lx5 cx5 : Nat} {x6 : Int} {x7 : Addr} {H0 : HH} {K : Value → HH → Prop} (h : privitylaw36_OptimizeDuplicates.S2 base N0 x1 x3 x4 Ax5 lx5 cx5 x6 x7 H0 K) : privitylaw36_OptimizeDuplicates.R2 base N0 [(.pointer ((some x1))), (.int .i64 x3), (.pointer ((some x4))), (.slice Ax5 lx5 cx5), (.int .i64 x6), (.pointer ((some x7)))] H0 K := by
  refine wpCL_sound (ann := privitylaw36_OptimizeDuplicates.ann) mix (fun fr ⟨e1, e3, e4, e5, e6, e7, _⟩ => ?_)
  rw [← ov_eq (g := fr) [(1, (.pointer ((some x1)))), (3, (.int .i64 x3)), (4, (.pointer ((some x4)))), (5, (.slice Ax5 lx5 cx5)), (6, (.int .i64 x6)), (7, (.pointer ((some x7))))] (by simp only [List.mem_cons, List.not_mem_nil, or_false, forall_eq_or_imp, forall_eq, false_implies, implies_true]; exact ⟨e1, e3, e4, e5, e6, e7⟩)]
  exact cast (show privitylaw36_OptimizeDuplicates.S2 base N0 x1 x3 x4 Ax5 lx5 cx5 x6 x7 H0 K = wpC Tryd.prog base 149 privitylaw36_OptimizeDuplicates.ann (codeAt [.r, .r, .r, .r, .r, .l, .r, .b, .lp, .r, .l, .b, .r, .r, .r, .r] (bodyOf Tryd.f14)) (ov fr [(1, (.pointer ((some x1)))), (3, (.int .i64 x3)), (4, (.pointer ((some x4)))), (5, (.slice Ax5 lx5 cx5)), (6, (.int .i64 x6)), (7, (.pointer ((some x7))))]) H0 (qAt Tryd.prog base 149 privitylaw36_OptimizeDuplicates.ann [.r, .r, .r, .r, .r, .l, .r, .b, .lp, .r, .l, .b, .r, .r, .r, .r] [fun fr H => N0 (fr 6) H] (bodyOf Tryd.f14) (retQ Tryd.prog 149 Tryd.f14 K)) by kernel_rfl) h
theorem privitylaw36_OptimizeDuplicates.cut2 {base : Nat} {N0 : Value → HH → Prop} {x1 : Addr} {x3 : Int} {x4 : Addr} {Ax5 : Option Addr} {lx5 cx5 : Nat} {x6 : Int} {x7 : Addr} {H0 : HH} {K : Value → HH → Prop} (h : privitylaw36_OptimizeDuplicates.T2 base N0 x1 x3 x4 Ax5 lx5 cx5 x6 x7 H0 K) : privitylaw36_OptimizeDuplicates.R2 base N0 [(.pointer ((some x1))), (.int .i64 x3), (.pointer ((some x4))), (.slice Ax5 lx5 cx5), (.int .i64 x6), (.pointer ((some x7)))] H0 K := privitylaw36_OptimizeDuplicates.rest2 h
def privitylaw36_OptimizeDuplicates.sh (base : Nat) (x0_0 : Int) (Ax0_1 : Option Addr) (lx0_1 cx0_1 : Nat) (Ax0_2 : Option Addr) (lx0_2 cx0_2 : Nat) (H0 : HH) (K : Value → HH → Prop) : Prop :=
 HRun Tryd.prog base (Instr.box 26 (.agg #[(.int .u64 x0_0), (.slice Ax0_1 lx0_1 cx0_1), (.slice Ax0_2 lx0_2 cx0_2)])) H0 fun v1 H2 =>
 ∃ a3 : Addr, v1 = (.pointer ((some a3))) ∧ ∃ n4 : Int, ∃ (A5 : Option Addr) (l5 c5 : Nat), ∃ (A6 : Option Addr) (l6 c6 : Nat), QRun Tryd.prog (Instr.loadAt 26 (.pointer ((some a3)))) H2 (.agg #[(.int .u64 n4), (.slice A5 l5 c5), (.slice A6 l6 c6)]) ∧
 HCall Tryd.prog base 27 #[(.agg #[(.int .u64 n4), (.slice A5 l5 c5), (.slice A6 l6 c6)])] H2 fun v7 H8 =>
 ∃ b9 : Bool, v7 = (.bool b9) ∧ if (!b9) = false then
 ∃ a10 : Addr, AQ Tryd.prog (Instr.fieldAt 26 (.pointer ((some a3))) 1) (.pointer ((some a10))) ∧
 ∃ (A11 : Option Addr) (l11 c11 : Nat), QRun Tryd.prog (Instr.loadAt 23 (.pointer ((some a10)))) H8 (.slice A11 l11 c11) ∧
 if (decide ((((l11 : Nat) : Int) : Int) > 30)) = false then
 ∃ n12 : Int, ∃ (A13 : Option Addr) (l13 c13 : Nat), ∃ (A14 : Option Addr) (l14 c14 : Nat), QRun Tryd.prog (Instr.loadAt 26 (.pointer ((some a3)))) H8 (.agg #[(.int .u64 n12), (.slice A13 l13 c13), (.slice A14 l14 c14)]) ∧
 HCall Tryd.prog base 25 #[(.agg #[(.int .u64 n12), (.slice A13 l13 c13), (.slice A14 l14 c14)])] H8 fun v15 H16 =>
 ∃ b17 : Bool, v15 = (.bool b17) ∧ if (!b17) = true then
 HCall Tryd.prog base 28 #[] H16 fun v18 H19 =>
 ∃ b20 : Bool, v18 = (.bool b20) ∧ K (.bool b20) H19
 else
 ∃ a21 : Addr, AQ Tryd.prog (Instr.fieldAt 26 (.pointer ((some a3))) 1) (.pointer ((some a21))) ∧
 ∃ (A22 : Option Addr) (l22 c22 : Nat), QRun Tryd.prog (Instr.loadAt 23 (.pointer ((some a21)))) H16 (.slice A22 l22 c22) ∧
 ∃ a23 : Addr, AQ Tryd.prog (Instr.fieldAt 26 (.pointer ((some a3))) 0) (.pointer ((some a23))) ∧
 ∃ n24 : Int, QRun Tryd.prog (Instr.loadAt 22 (.pointer ((some a23)))) H16 (.int .u64 n24) ∧
 ∃ a25 : Addr, AQ Tryd.prog (Instr.fieldAt 26 (.pointer ((some a3))) 1) (.pointer ((some a25))) ∧
 ∃ (A26 : Option Addr) (l26 c26 : Nat), QRun Tryd.prog (Instr.loadAt 23 (.pointer ((some a25)))) H16 (.slice A26 l26 c26) ∧
 ∃ a27 : Addr, AQ Tryd.prog (Instr.fieldAt 26 (.pointer ((some a3))) 2) (.pointer ((some a27))) ∧
 ∃ (A28 : Option Addr) (l28 c28 : Nat), QRun Tryd.prog (Instr.loadAt 24 (.pointer ((some a27)))) H16 (.slice A28 l28 c28) ∧
 (HRun Tryd.prog base (Instr.buildSlice 23 0 #[]) H16 fun v29 H30 =>
 ∃ (A31 : Option Addr) (l31 c31 : Nat), v29 = (.slice A31 l31 c31) ∧ QRun Tryd.prog (Instr.loadAt 24 (.pointer ((some a27)))) H30 (.slice A28 l28 c28) ∧
 QRun Tryd.prog (Instr.loadAt 23 (.pointer ((some a25)))) H30 (.slice A26 l26 c26) ∧
 QRun Tryd.prog (Instr.loadAt 22 (.pointer ((some a23)))) H30 (.int .u64 n24) ∧
 (HRun Tryd.prog base (Builtin.append_ #[23, 23] 23 #[(.slice A31 l31 c31), (.slice A26 l26 c26)]) H30 fun v32 H33 =>
 ∃ (A34 : Option Addr) (l34 c34 : Nat), v32 = (.slice A34 l34 c34) ∧ QRun Tryd.prog (Instr.loadAt 24 (.pointer ((some a27)))) H33 (.slice A28 l28 c28) ∧
 QRun Tryd.prog (Instr.loadAt 22 (.pointer ((some a23)))) H33 (.int .u64 n24) ∧
 (HRun Tryd.prog base (Instr.buildSlice 24 0 #[]) H33 fun v35 H36 =>
 ∃ (A37 : Option Addr) (l37 c37 : Nat), v35 = (.slice A37 l37 c37) ∧ QRun Tryd.prog (Instr.loadAt 24 (.pointer ((some a27)))) H36 (.slice A28 l28 c28) ∧
 QRun Tryd.prog (Instr.loadAt 22 (.pointer ((some a23)))) H36 (.int .u64 n24) ∧
 (HRun Tryd.prog base (Builtin.append_ #[24, 24] 24 #[(.slice A37 l37 c37), (.slice A28 l28 c28)]) H36 fun v38 H39 =>
 ∃ (A40 : Option Addr) (l40 c40 : Nat), v38 = (.slice A40 l40 c40) ∧ QRun Tryd.prog (Instr.loadAt 22 (.pointer ((some a23)))) H39 (.int .u64 n24) ∧
 ∃ n41 : Int, ∃ (A42 : Option Addr) (l42 c42 : Nat), ∃ (A43 : Option Addr) (l43 c43 : Nat), AQ Tryd.prog (Instr.build 26 #[(0, (.int .u64 n24)), (1, (.slice A34 l34 c34)), (2, (.slice A40 l40 c40))]) (.agg #[(.int .u64 n41), (.slice A42 l42 c42), (.slice A43 l43 c43)]) ∧
 HRun Tryd.prog base (Instr.alloc 26 true (.tuple #[])) H39 fun v44 H45 =>
 ∃ a46 : Addr, v44 = (.pointer ((some a46))) ∧ QRun Tryd.prog (Instr.loadAt 22 (.pointer ((some a23)))) H45 (.int .u64 n24) ∧
 HRun Tryd.prog base (Instr.storeAt 26 (.pointer ((some a46))) (.agg #[(.int .u64 n41), (.slice A42 l42 c42), (.slice A43 l43 c43)])) H45 fun _ H47 =>
 privitylaw36_OptimizeDuplicates.R0 base [(.pointer ((some a3))), (.int .i64 (((l22 : Nat) : Int))), (.pointer ((some a46)))] H47 K) ∧
 (HRun Tryd.prog base (Instr.alloc 26 true (.tuple #[])) H36 fun v48 H49 =>
 ∃ a50 : Addr, v48 = (.pointer ((some a50))) ∧ QRun Tryd.prog (Instr.loadAt 24 (.pointer ((some a27)))) H49 (.slice A28 l28 c28) ∧
 QRun Tryd.prog (Instr.loadAt 22 (.pointer ((some a23)))) H49 (.int .u64 n24) ∧
 HRun Tryd.prog base (Builtin.append_ #[24, 24] 24 #[(.slice A37 l37 c37), (.slice A28 l28 c28)]) H49 fun v51 H52 =>
 ∃ (A53 : Option Addr) (l53 c53 : Nat), v51 = (.slice A53 l53 c53) ∧ QRun Tryd.prog (Instr.loadAt 22 (.pointer ((some a23)))) H52 (.int .u64 n24) ∧
 ∃ n54 : Int, ∃ (A55 : Option Addr) (l55 c55 : Nat), ∃ (A56 : Option Addr) (l56 c56 : Nat), AQ Tryd.prog (Instr.build 26 #[(0, (.int .u64 n24)), (1, (.slice A34 l34 c34)), (2, (.slice A53 l53 c53))]) (.agg #[(.int .u64 n54), (.slice A55 l55 c55), (.slice A56 l56 c56)]) ∧
 HRun Tryd.prog base (Instr.storeAt 26 (.pointer ((some a50))) (.agg #[(.int .u64 n54), (.slice A55 l55 c55), (.slice A56 l56 c56)])) H52 fun _ H57 =>
 privitylaw36_OptimizeDuplicates.R0 base [(.pointer ((some a3))), (.int .i64 (((l22 : Nat) : Int))), (.pointer ((some a50)))] H57 K)) ∧
 (HRun Tryd.prog base (Instr.alloc 26 true (.tuple #[])) H33 fun v58 H59 =>
 ∃ a60 : Addr, v58 = (.pointer ((some a60))) ∧ QRun Tryd.prog (Instr.loadAt 24 (.pointer ((some a27)))) H59 (.slice A28 l28 c28) ∧
 QRun Tryd.prog (Instr.loadAt 22 (.pointer ((some a23)))) H59 (.int .u64 n24) ∧
 HRun Tryd.prog base (Instr.buildSlice 24 0 #[]) H59 fun v61 H62 =>
 ∃ (A63 : Option Addr) (l63 c63 : Nat), v61 = (.slice A63 l63 c63) ∧ QRun Tryd.prog (Instr.loadAt 24 (.pointer ((some a27)))) H62 (.slice A28 l28 c28) ∧
 QRun Tryd.prog (Instr.loadAt 22 (.pointer ((some a23)))) H62 (.int .u64 n24) ∧
 HRun Tryd.prog base (Builtin.append_ #[24, 24] 24 #[(.slice A63 l63 c63), (.slice A28 l28 c28)]) H62 fun v64 H65 =>
 ∃ (A66 : Option Addr) (l66 c66 : Nat), v64 = (.slice A66 l66 c66) ∧ QRun Tryd.prog (Instr.loadAt 22 (.pointer ((some a23)))) H65 (.int .u64 n24) ∧
 ∃ n67 : Int, ∃ (A68 : Option Addr) (l68 c68 : Nat), ∃ (A69 : Option Addr) (l69 c69 : Nat), AQ Tryd.prog (Instr.build 26 #[(0, (.int .u64 n24)), (1, (.slice A34 l34 c34)), (2, (.slice A66 l66 c66))]) (.agg #[(.int .u64 n67), (.slice A68 l68 c68), (.slice A69 l69 c69)]) ∧
 HRun Tryd.prog base (Instr.storeAt 26 (.pointer ((some a60))) (.agg #[(.int .u64 n67), (.slice A68 l68 c68), (.slice A69 l69 c69)])) H65 fun _ H70 =>
 privitylaw36_OptimizeDuplicates.R0 base [(.pointer ((some a3))), (.int .i64 (((l22 : Nat) : Int))), (.pointer ((some a60)))] H70 K)) ∧
 (HRun Tryd.prog base (Instr.buildSlice 24 0 #[]) H30 fun v71 H72 =>
 ∃ (A73 : Option Addr) (l73 c73 : Nat), v71 = (.slice A73 l73 c73) ∧ QRun Tryd.prog (Instr.loadAt 24 (.pointer ((some a27)))) H72 (.slice A28 l28 c28) ∧
 QRun Tryd.prog (Instr.loadAt 23 (.pointer ((some a25)))) H72 (.slice A26 l26 c26) ∧
 QRun Tryd.prog (Instr.loadAt 22 (.pointer ((some a23)))) H72 (.int .u64 n24) ∧
 (HRun Tryd.prog base (Builtin.append_ #[23, 23] 23 #[(.slice A31 l31 c31), (.slice A26 l26 c26)]) H72 fun v74 H75 =>
 ∃ (A76 : Option Addr) (l76 c76 : Nat), v74 = (.slice A76 l76 c76) ∧ QRun Tryd.prog (Instr.loadAt 24 (.pointer ((some a27)))) H75 (.slice A28 l28 c28) ∧
 QRun Tryd.prog (Instr.loadAt 22 (.pointer ((some a23)))) H75 (.int .u64 n24) ∧
 (HRun Tryd.prog base (Builtin.append_ #[24, 24] 24 #[(.slice A73 l73 c73), (.slice A28 l28 c28)]) H75 fun v77 H78 =>
 ∃ (A79 : Option Addr) (l79 c79 : Nat), v77 = (.slice A79 l79 c79) ∧ QRun Tryd.prog (Instr.loadAt 22 (.pointer ((some a23)))) H78 (.int .u64 n24) ∧
 ∃ n80 : Int, ∃ (A81 : Option Addr) (l81 c81 : Nat), ∃ (A82 : Option Addr) (l82 c82 : Nat), AQ Tryd.prog (Instr.build 26 #[(0, (.int .u64 n24)), (1, (.slice A76 l76 c76)), (2, (.slice A79 l79 c79))]) (.agg #[(.int .u64 n80), (.slice A81 l81 c81), (.slice A82 l82 c82)]) ∧
 HRun Tryd.prog base (Instr.alloc 26 true (.tuple #[])) H78 fun v83 H84 =>
 ∃ a85 : Addr, v83 = (.pointer ((some a85))) ∧ QRun Tryd.prog (Instr.loadAt 22 (.pointer ((some a23)))) H84 (.int .u64 n24) ∧
 HRun Tryd.prog base (Instr.storeAt 26 (.pointer ((some a85))) (.agg #[(.int .u64 n80), (.slice A81 l81 c81), (.slice A82 l82 c82)])) H84 fun _ H86 =>
 privitylaw36_OptimizeDuplicates.R0 base [(.pointer ((some a3))), (.int .i64 (((l22 : Nat) : Int))), (.pointer ((some a85)))] H86 K) ∧
 (HRun Tryd.prog base (Instr.alloc 26 true (.tuple #[])) H75 fun v87 H88 =>
 ∃ a89 : Addr, v87 = (.pointer ((some a89))) ∧ QRun Tryd.prog (Instr.loadAt 24 (.pointer ((some a27)))) H88 (.slice A28 l28 c28) ∧
 QRun Tryd.prog (Instr.loadAt 22 (.pointer ((some a23)))) H88 (.int .u64 n24) ∧
 HRun Tryd.prog base (Builtin.append_ #[24, 24] 24 #[(.slice A73 l73 c73), (.slice A28 l28 c28)]) H88 fun v90 H91 =>
 ∃ (A92 : Option Addr) (l92 c92 : Nat), v90 = (.slice A92 l92 c92) ∧ QRun Tryd.prog (Instr.loadAt 22 (.pointer ((some a23)))) H91 (.int .u64 n24) ∧
 ∃ n93 : Int, ∃ (A94 : Option Addr) (l94 c94 : Nat), ∃ (A95 : Option Addr) (l95 c95 : Nat), AQ Tryd.prog (Instr.build 26 #[(0, (.int .u64 n24)), (1, (.slice A76 l76 c76)), (2, (.slice A92 l92 c92))]) (.agg #[(.int .u64 n93), (.slice A94 l94 c94), (.slice A95 l95 c95)]) ∧
 HRun Tryd.prog base (Instr.storeAt 26 (.pointer ((some a89))) (.agg #[(.int .u64 n93), (.slice A94 l94 c94), (.slice A95 l95 c95)])) H91 fun _ H96 =>
 privitylaw36_OptimizeDuplicates.R0 base [(.pointer ((some a3))), (.int .i64 (((l22 : Nat) : Int))), (.pointer ((some a89)))] H96 K)) ∧
 (HRun Tryd.prog base (Instr.alloc 26 true (.tuple #[])) H72 fun v97 H98 =>
 ∃ a99 : Addr, v97 = (.pointer ((some a99))) ∧ QRun Tryd.prog (Instr.loadAt 24 (.pointer ((some a27)))) H98 (.slice A28 l28 c28) ∧
 QRun Tryd.prog (Instr.loadAt 23 (.pointer ((some a25)))) H98 (.slice A26 l26 c26) ∧
 QRun Tryd.prog (Instr.loadAt 22 (.pointer ((some a23)))) H98 (.int .u64 n24) ∧
 HRun Tryd.prog base (Builtin.append_ #[23, 23] 23 #[(.slice A31 l31 c31), (.slice A26 l26 c26)]) H98 fun v100 H101 =>
 ∃ (A102 : Option Addr) (l102 c102 : Nat), v100 = (.slice A102 l102 c102) ∧ QRun Tryd.prog (Instr.loadAt 24 (.pointer ((some a27)))) H101 (.slice A28 l28 c28) ∧
 QRun Tryd.prog (Instr.loadAt 22 (.pointer ((some a23)))) H101 (.int .u64 n24) ∧
 HRun Tryd.prog base (Builtin.append_ #[24, 24] 24 #[(.slice A73 l73 c73), (.slice A28 l28 c28)]) H101 fun v103 H104 =>
 ∃ (A105 : Option Addr) (l105 c105 : Nat), v103 = (.slice A105 l105 c105) ∧ QRun Tryd.prog (Instr.loadAt 22 (.pointer ((some a23)))) H104 (.int .u64 n24) ∧
 ∃ n106 : Int, ∃ (A107 : Option Addr) (l107 c107 : Nat), ∃ (A108 : Option Addr) (l108 c108 : Nat), AQ Tryd.prog (Instr.build 26 #[(0, (.int .u64 n24)), (1, (.slice A102 l102 c102)), (2, (.slice A105 l105 c105))]) (.agg #[(.int .u64 n106), (.slice A107 l107 c107), (.slice A108 l108 c108)]) ∧
 HRun Tryd.prog base (Instr.storeAt 26 (.pointer ((some a99))) (.agg #[(.int .u64 n106), (.slice A107 l107 c107), (.slice A108 l108 c108)])) H104 fun _ H109 =>
 privitylaw36_OptimizeDuplicates.R0 base [(.pointer ((some a3))), (.int .i64 (((l22 : Nat) : Int))), (.pointer ((some a99)))] H109 K)) ∧
 (HRun Tryd.prog base (Instr.alloc 26 true (.tuple #[])) H30 fun v110 H111 =>
 ∃ a112 : Addr, v110 = (.pointer ((some a112))) ∧ QRun Tryd.prog (Instr.loadAt 24 (.pointer ((some a27)))) H111 (.slice A28 l28 c28) ∧
 QRun Tryd.prog (Instr.loadAt 23 (.pointer ((some a25)))) H111 (.slice A26 l26 c26) ∧
 QRun Tryd.prog (Instr.loadAt 22 (.pointer ((some a23)))) H111 (.int .u64 n24) ∧
 (HRun Tryd.prog base (Builtin.append_ #[23, 23] 23 #[(.slice A31 l31 c31), (.slice A26 l26 c26)]) H111 fun v113 H114 =>
 ∃ (A115 : Option Addr) (l115 c115 : Nat), v113 = (.slice A115 l115 c115) ∧ QRun Tryd.prog (Instr.loadAt 24 (.pointer ((some a27)))) H114 (.slice A28 l28 c28) ∧
 QRun Tryd.prog (Instr.loadAt 22 (.pointer ((some a23)))) H114 (.int .u64 n24) ∧
 HRun Tryd.prog base (Instr.buildSlice 24 0 #[]) H114 fun v116 H117 =>
 ∃ (A118 : Option Addr) (l118 c118 : Nat), v116 = (.slice A118 l118 c118) ∧ QRun Tryd.prog (Instr.loadAt 24 (.pointer ((some a27)))) H117 (.slice A28 l28 c28) ∧
 QRun Tryd.prog (Instr.loadAt 22 (.pointer ((some a23)))) H117 (.int .u64 n24) ∧
 HRun Tryd.prog base (Builtin.append_ #[24, 24] 24 #[(.slice A118 l118 c118), (.slice A28 l28 c28)]) H117 fun v119 H120 =>
 ∃ (A121 : Option Addr) (l121 c121 : Nat), v119 = (.slice A121 l121 c121) ∧ QRun Tryd.prog (Instr.loadAt 22 (.pointer ((some a23)))) H120 (.int .u64 n24) ∧
 ∃ n122 : Int, ∃ (A123 : Option Addr) (l123 c123 : Nat), ∃ (A124 : Option Addr) (l124 c124 : Nat), AQ Tryd.prog (Instr.build 26 #[(0, (.int .u64 n24)), (1, (.slice A115 l115 c115)), (2, (.slice A121 l121 c121))]) (.agg #[(.int .u64 n122), (.slice A123 l123 c123), (.slice A124 l124 c124)]) ∧
 HRun Tryd.prog base (Instr.storeAt 26 (.pointer ((some a112))) (.agg #[(.int .u64 n122), (.slice A123 l123 c123), (.slice A124 l124 c124)])) H120 fun _ H125 =>
 privitylaw36_OptimizeDuplicates.R0 base [(.pointer ((some a3))), (.int .i64 (((l22 : Nat) : Int))), (.pointer ((some a112)))] H125 K) ∧
 (HRun Tryd.prog base (Instr.buildSlice 24 0 #[]) H111 fun v126 H127 =>
 ∃ (A128 : Option Addr) (l128 c128 : Nat), v126 = (.slice A128 l128 c128) ∧ QRun Tryd.prog (Instr.loadAt 24 (.pointer ((some a27)))) H127 (.slice A28 l28 c28) ∧
 QRun Tryd.prog (Instr.loadAt 23 (.pointer ((some a25)))) H127 (.slice A26 l26 c26) ∧
 QRun Tryd.prog (Instr.loadAt 22 (.pointer ((some a23)))) H127 (.int .u64 n24) ∧
 HRun Tryd.prog base (Builtin.append_ #[23, 23] 23 #[(.slice A31 l31 c31), (.slice A26 l26 c26)]) H127 fun v129 H130 =>
 ∃ (A131 : Option Addr) (l131 c131 : Nat), v129 = (.slice A131 l131 c131) ∧ QRun Tryd.prog (Instr.loadAt 24 (.pointer ((some a27)))) H130 (.slice A28 l28 c28) ∧
 QRun Tryd.prog (Instr.loadAt 22 (.pointer ((some a23)))) H130 (.int .u64 n24) ∧
 HRun Tryd.prog base (Builtin.append_ #[24, 24] 24 #[(.slice A128 l128 c128), (.slice A28 l28 c28)]) H130 fun v132 H133 =>
 ∃ (A134 : Option Addr) (l134 c134 : Nat), v132 = (.slice A134 l134 c134) ∧ QRun Tryd.prog (Instr.loadAt 22 (.pointer ((some a23)))) H133 (.int .u64 n24) ∧
 ∃ n135 : Int, ∃ (A136 : Option Addr) (l136 c136 : Nat), ∃ (A137 : Option Addr) (l137 c137 : Nat), AQ Tryd.prog (Instr.build 26 #[(0, (.int .u64 n24)), (1, (.slice A131 l131 c131)), (2, (.slice A134 l134 c134))]) (.agg #[(.int .u64 n135), (.slice A136 l136 c136), (.slice A137 l137 c137)]) ∧
 HRun Tryd.prog base (Instr.storeAt 26 (.pointer ((some a112))) (.agg #[(.int .u64 n135), (.slice A136 l136 c136), (.slice A137 l137 c137)])) H133 fun _ H138 =>
 privitylaw36_OptimizeDuplicates.R0 base [(.pointer ((some a3))), (.int .i64 (((l22 : Nat) : Int))), (.pointer ((some a112)))] H138 K))) ∧
 (HRun Tryd.prog base (Instr.buildSlice 24 0 #[]) H16 fun v139 H140 =>
 ∃ (A141 : Option Addr) (l141 c141 : Nat), v139 = (.slice A141 l141 c141) ∧ QRun Tryd.prog (Instr.loadAt 24 (.pointer ((some a27)))) H140 (.slice A28 l28 c28) ∧
 QRun Tryd.prog (Instr.loadAt 23 (.pointer ((some a25)))) H140 (.slice A26 l26 c26) ∧
 QRun Tryd.prog (Instr.loadAt 22 (.pointer ((some a23)))) H140 (.int .u64 n24) ∧
 (HRun Tryd.prog base (Instr.buildSlice 23 0 #[]) H140 fun v142 H143 =>
 ∃ (A144 : Option Addr) (l144 c144 : Nat), v142 = (.slice A144 l144 c144) ∧ QRun Tryd.prog (Instr.loadAt 24 (.pointer ((some a27)))) H143 (.slice A28 l28 c28) ∧
 QRun Tryd.prog (Instr.loadAt 23 (.pointer ((some a25)))) H143 (.slice A26 l26 c26) ∧
 QRun Tryd.prog (Instr.loadAt 22 (.pointer ((some a23)))) H143 (.int .u64 n24) ∧
 (HRun Tryd.prog base (Builtin.append_ #[23, 23] 23 #[(.slice A144 l144 c144), (.slice A26 l26 c26)]) H143 fun v145 H146 =>
 ∃ (A147 : Option Addr) (l147 c147 : Nat), v145 = (.slice A147 l147 c147) ∧ QRun Tryd.prog (Instr.loadAt 24 (.pointer ((some a27)))) H146 (.slice A28 l28 c28) ∧
 QRun Tryd.prog (Instr.loadAt 22 (.pointer ((some a23)))) H146 (.int .u64 n24) ∧
 (HRun Tryd.prog base (Builtin.append_ #[24, 24] 24 #[(.slice A141 l141 c141), (.slice A28 l28 c28)]) H146 fun v148 H149 =>
 ∃ (A150 : Option Addr) (l150 c150 : Nat), v148 = (.slice A150 l150 c150) ∧ QRun Tryd.prog (Instr.loadAt 22 (.pointer ((some a23)))) H149 (.int .u64 n24) ∧
 ∃ n151 : Int, ∃ (A152 : Option Addr) (l152 c152 : Nat), ∃ (A153 : Option Addr) (l153 c153 : Nat), AQ Tryd.prog (Instr.build 26 #[(0, (.int .u64 n24)), (1, (.slice A147 l147 c147)), (2, (.slice A150 l150 c150))]) (.agg #[(.int .u64 n151), (.slice A152 l152 c152), (.slice A153 l153 c153)]) ∧
 HRun Tryd.prog base (Instr.alloc 26 true (.tuple #[])) H149 fun v154 H155 =>
 ∃ a156 : Addr, v154 = (.pointer ((some a156))) ∧ QRun Tryd.prog (Instr.loadAt 22 (.pointer ((some a23)))) H155 (.int .u64 n24) ∧
 HRun Tryd.prog base (Instr.storeAt 26 (.pointer ((some a156))) (.agg #[(.int .u64 n151), (.slice A152 l152 c152), (.slice A153 l153 c153)])) H155 fun _ H157 =>
 privitylaw36_OptimizeDuplicates.R0 base [(.pointer ((some a3))), (.int .i64 (((l22 : Nat) : Int))), (.pointer ((some a156)))] H157 K) ∧
 (HRun Tryd.prog base (Instr.alloc 26 true (.tuple #[])) H146 fun v158 H159 =>
 ∃ a160 : Addr, v158 = (.pointer ((some a160))) ∧ QRun Tryd.prog (Instr.loadAt 24 (.pointer ((some a27)))) H159 (.slice A28 l28 c28) ∧
 QRun Tryd.prog (Instr.loadAt 22 (.pointer ((some a23)))) H159 (.int .u64 n24) ∧
 HRun Tryd.prog base (Builtin.append_ #[24, 24] 24 #[(.slice A141 l141 c141), (.slice A28 l28 c28)]) H159 fun v161 H162 =>
 ∃ (A163 : Option Addr) (l163 c163 : Nat), v161 = (.slice A163 l163 c163) ∧ QRun Tryd.prog (Instr.loadAt 22 (.pointer ((some a23)))) H162 (.int .u64 n24) ∧
 ∃ n164 : Int, ∃ (A165 : Option Addr) (l165 c165 : Nat), ∃ (A166 : Option Addr) (l166 c166 : Nat), AQ Tryd.prog (Instr.build 26 #[(0, (.int .u64 n24)), (1, (.slice A147 l147 c147)), (2, (.slice A163 l163 c163))]) (.agg #[(.int .u64 n164), (.slice A165 l165 c165), (.slice A166 l166 c166)]) ∧
 HRun Tryd.prog base (Instr.storeAt 26 (.pointer ((some a160))) (.agg #[(.int .u64 n164), (.slice A165 l165 c165), (.slice A166 l166 c166)])) H162 fun _ H167 =>
 privitylaw36_OptimizeDuplicates.R0 base [(.pointer ((some a3))), (.int .i64 (((l22 : Nat) : Int))), (.pointer ((some a160)))] H167 K)) ∧
 (HRun Tryd.prog base (Instr.alloc 26 true (.tuple #[])) H143 fun v168 H169 =>
 ∃ a170 : Addr, v168 = (.pointer ((some a170))) ∧ QRun Tryd.prog (Instr.loadAt 24 (.pointer ((some a27)))) H169 (.slice A28 l28 c28) ∧
 QRun Tryd.prog (Instr.loadAt 23 (.pointer ((some a25)))) H169 (.slice A26 l26 c26) ∧
 QRun Tryd.prog (Instr.loadAt 22 (.pointer ((some a23)))) H169 (.int .u64 n24) ∧
 HRun Tryd.prog base (Builtin.append_ #[23, 23] 23 #[(.slice A144 l144 c144), (.slice A26 l26 c26)]) H169 fun v171 H172 =>
 ∃ (A173 : Option Addr) (l173 c173 : Nat), v171 = (.slice A173 l173 c173) ∧ QRun Tryd.prog (Instr.loadAt 24 (.pointer ((some a27)))) H172 (.slice A28 l28 c28) ∧
 QRun Tryd.prog (Instr.loadAt 22 (.pointer ((some a23)))) H172 (.int .u64 n24) ∧
 HRun Tryd.prog base (Builtin.append_ #[24, 24] 24 #[(.slice A141 l141 c141), (.slice A28 l28 c28)]) H172 fun v174 H175 =>
 ∃ (A176 : Option Addr) (l176 c176 : Nat), v174 = (.slice A176 l176 c176) ∧ QRun Tryd.prog (Instr.loadAt 22 (.pointer ((some a23)))) H175 (.int .u64 n24) ∧
 ∃ n177 : Int, ∃ (A178 : Option Addr) (l178 c178 : Nat), ∃ (A179 : Option Addr) (l179 c179 : Nat), AQ Tryd.prog (Instr.build 26 #[(0, (.int .u64 n24)), (1, (.slice A173 l173 c173)), (2, (.slice A176 l176 c176))]) (.agg #[(.int .u64 n177), (.slice A178 l178 c178), (.slice A179 l179 c179)]) ∧
 HRun Tryd.prog base (Instr.storeAt 26 (.pointer ((some a170))) (.agg #[(.int .u64 n177), (.slice A178 l178 c178), (.slice A179 l179 c179)])) H175 fun _ H180 =>
 privitylaw36_OptimizeDuplicates.R0 base [(.pointer ((some a3))), (.int .i64 (((l22 : Nat) : Int))), (.pointer ((some a170)))] H180 K)) ∧
 (HRun Tryd.prog base (Instr.alloc 26 true (.tuple #[])) H140 fun v181 H182 =>
 ∃ a183 : Addr, v181 = (.pointer ((some a183))) ∧ QRun Tryd.prog (Instr.loadAt 24 (.pointer ((some a27)))) H182 (.slice A28 l28 c28) ∧
 QRun Tryd.prog (Instr.loadAt 23 (.pointer ((some a25)))) H182 (.slice A26 l26 c26) ∧
 QRun Tryd.prog (Instr.loadAt 22 (.pointer ((some a23)))) H182 (.int .u64 n24) ∧
 HRun Tryd.prog base (Instr.buildSlice 23 0 #[]) H182 fun v184 H185 =>
 ∃ (A186 : Option Addr) (l186 c186 : Nat), v184 = (.slice A186 l186 c186) ∧ QRun Tryd.prog (Instr.loadAt 24 (.pointer ((some a27)))) H185 (.slice A28 l28 c28) ∧
 QRun Tryd.prog (Instr.loadAt 23 (.pointer ((some a25)))) H185 (.slice A26 l26 c26) ∧
 QRun Tryd.prog (Instr.loadAt 22 (.pointer ((some a23)))) H185 (.int .u64 n24) ∧
 HRun Tryd.prog base (Builtin.append_ #[23, 23] 23 #[(.slice A186 l186 c186), (.slice A26 l26 c26)]) H185 fun v187 H188 =>
 ∃ (A189 : Option Addr) (l189 c189 : Nat), v187 = (.slice A189 l189 c189) ∧ QRun Tryd.prog (Instr.loadAt 24 (.pointer ((some a27)))) H188 (.slice A28 l28 c28) ∧
 QRun Tryd.prog (Instr.loadAt 22 (.pointer ((some a23)))) H188 (.int .u64 n24) ∧
 HRun Tryd.prog base (Builtin.append_ #[24, 24] 24 #[(.slice A141 l141 c141), (.slice A28 l28 c28)]) H188 fun v190 H191 =>
 ∃ (A192 : Option Addr) (l192 c192 : Nat), v190 = (.slice A192 l192 c192) ∧ QRun Tryd.prog (Instr.loadAt 22 (.pointer ((some a23)))) H191 (.int .u64 n24) ∧
 ∃ n193 : Int, ∃ (A194 : Option Addr) (l194 c194 : Nat), ∃ (A195 : Option Addr) (l195 c195 : Nat), AQ Tryd.prog (Instr.build 26 #[(0, (.int .u64 n24)), (1, (.slice A189 l189 c189)), (2, (.slice A192 l192 c192))]) (.agg #[(.int .u64 n193), (.slice A194 l194 c194), (.slice A195 l195 c195)]) ∧
 HRun Tryd.prog base (Instr.storeAt 26 (.pointer ((some a183))) (.agg #[(.int .u64 n193), (.slice A194 l194 c194), (.slice A195 l195 c195)])) H191 fun _ H196 =>
 privitylaw36_OptimizeDuplicates.R0 base [(.pointer ((some a3))), (.int .i64 (((l22 : Nat) : Int))), (.pointer ((some a183)))] H196 K)) ∧
 (HRun Tryd.prog base (Instr.alloc 26 true (.tuple #[])) H16 fun v197 H198 =>
 ∃ a199 : Addr, v197 = (.pointer ((some a199))) ∧ QRun Tryd.prog (Instr.loadAt 24 (.pointer ((some a27)))) H198 (.slice A28 l28 c28) ∧
 QRun Tryd.prog (Instr.loadAt 23 (.pointer ((some a25)))) H198 (.slice A26 l26 c26) ∧
 QRun Tryd.prog (Instr.loadAt 22 (.pointer ((some a23)))) H198 (.int .u64 n24) ∧
 (HRun Tryd.prog base (Instr.buildSlice 23 0 #[]) H198 fun v200 H201 =>
 ∃ (A202 : Option Addr) (l202 c202 : Nat), v200 = (.slice A202 l202 c202) ∧ QRun Tryd.prog (Instr.loadAt 24 (.pointer ((some a27)))) H201 (.slice A28 l28 c28) ∧
 QRun Tryd.prog (Instr.loadAt 23 (.pointer ((some a25)))) H201 (.slice A26 l26 c26) ∧
 QRun Tryd.prog (Instr.loadAt 22 (.pointer ((some a23)))) H201 (.int .u64 n24) ∧
 (HRun Tryd.prog base (Builtin.append_ #[23, 23] 23 #[(.slice A202 l202 c202), (.slice A26 l26 c26)]) H201 fun v203 H204 =>
 ∃ (A205 : Option Addr) (l205 c205 : Nat), v203 = (.slice A205 l205 c205) ∧ QRun Tryd.prog (Instr.loadAt 24 (.pointer ((some a27)))) H204 (.slice A28 l28 c28) ∧
 QRun Tryd.prog (Instr.loadAt 22 (.pointer ((some a23)))) H204 (.int .u64 n24) ∧
 HRun Tryd.prog base (Instr.buildSlice 24 0 #[]) H204 fun v206 H207 =>
 ∃ (A208 : Option Addr) (l208 c208 : Nat), v206 = (.slice A208 l208 c208) ∧ QRun Tryd.prog (Instr.loadAt 24 (.pointer ((some a27)))) H207 (.slice A28 l28 c28) ∧
 QRun Tryd.prog (Instr.loadAt 22 (.pointer ((some a23)))) H207 (.int .u64 n24) ∧
 HRun Tryd.prog base (Builtin.append_ #[24, 24] 24 #[(.slice A208 l208 c208), (.slice A28 l28 c28)]) H207 fun v209 H210 =>
 ∃ (A211 : Option Addr) (l211 c211 : Nat), v209 = (.slice A211 l211 c211) ∧ QRun Tryd.prog (Instr.loadAt 22 (.pointer ((some a23)))) H210 (.int .u64 n24) ∧
 ∃ n212 : Int, ∃ (A213 : Option Addr) (l213 c213 : Nat), ∃ (A214 : Option Addr) (l214 c214 : Nat), AQ Tryd.prog (Instr.build 26 #[(0, (.int .u64 n24)), (1, (.slice A205 l205 c205)), (2, (.slice A211 l211 c211))]) (.agg #[(.int .u64 n212), (.slice A213 l213 c213), (.slice A214 l214 c214)]) ∧
 HRun Tryd.prog base (Instr.storeAt 26 (.pointer ((some a199))) (.agg #[(.int .u64 n212), (.slice A213 l213 c213), (.slice A214 l214 c214)])) H210 fun _ H215 =>
 privitylaw36_OptimizeDuplicates.R0 base [(.pointer ((some a3))), (.int .i64 (((l22 : Nat) : Int))), (.pointer ((some a199)))] H215 K) ∧
 (HRun Tryd.prog base (Instr.buildSlice 24 0 #[]) H201 fun v216 H217 =>
 ∃ (A218 : Option Addr) (l218 c218 : Nat), v216 = (.slice A218 l218 c218) ∧ QRun Tryd.prog (Instr.loadAt 24 (.pointer ((some a27)))) H217 (.slice A28 l28 c28) ∧
 QRun Tryd.prog (Instr.loadAt 23 (.pointer ((some a25)))) H217 (.slice A26 l26 c26) ∧
 QRun Tryd.prog (Instr.loadAt 22 (.pointer ((some a23)))) H217 (.int .u64 n24) ∧
 HRun Tryd.prog base (Builtin.append_ #[23, 23] 23 #[(.slice A202 l202 c202), (.slice A26 l26 c26)]) H217 fun v219 H220 =>
 ∃ (A221 : Option Addr) (l221 c221 : Nat), v219 = (.slice A221 l221 c221) ∧ QRun Tryd.prog (Instr.loadAt 24 (.pointer ((some a27)))) H220 (.slice A28 l28 c28) ∧
 QRun Tryd.prog (Instr.loadAt 22 (.pointer ((some a23)))) H220 (.int .u64 n24) ∧
 HRun Tryd.prog base (Builtin.append_ #[24, 24] 24 #[(.slice A218 l218 c218), (.slice A28 l28 c28)]) H220 fun v222 H223 =>
 ∃ (A224 : Option Addr) (l224 c224 : Nat), v222 = (.slice A224 l224 c224) ∧ QRun Tryd.prog (Instr.loadAt 22 (.pointer ((some a23)))) H223 (.int .u64 n24) ∧
 ∃ n225 : Int, ∃ (A226 : Option Addr) (l226 c226 : Nat), ∃ (A227 : Option Addr) (l227 c227 : Nat), AQ Tryd.prog (Instr.build 26 #[(0, (.int .u64 n24)), (1, (.slice A221 l221 c221)), (2, (.slice A224 l224 c224))]) (.agg #[(.int .u64 n225), (.slice A226 l226 c226), (.slice A227 l227 c227)]) ∧
 HRun Tryd.prog base (Instr.storeAt 26 (.pointer ((some a199))) (.agg #[(.int .u64 n225), (.slice A226 l226 c226), (.slice A227 l227 c227)])) H223 fun _ H228 =>
 privitylaw36_OptimizeDuplicates.R0 base [(.pointer ((some a3))), (.int .i64 (((l22 : Nat) : Int))), (.pointer ((some a199)))] H228 K)) ∧
 (HRun Tryd.prog base (Instr.buildSlice 24 0 #[]) H198 fun v229 H230 =>
 ∃ (A231 : Option Addr) (l231 c231 : Nat), v229 = (.slice A231 l231 c231) ∧ QRun Tryd.prog (Instr.loadAt 24 (.pointer ((some a27)))) H230 (.slice A28 l28 c28) ∧
 QRun Tryd.prog (Instr.loadAt 23 (.pointer ((some a25)))) H230 (.slice A26 l26 c26) ∧
 QRun Tryd.prog (Instr.loadAt 22 (.pointer ((some a23)))) H230 (.int .u64 n24) ∧
 HRun Tryd.prog base (Instr.buildSlice 23 0 #[]) H230 fun v232 H233 =>
 ∃ (A234 : Option Addr) (l234 c234 : Nat), v232 = (.slice A234 l234 c234) ∧ QRun Tryd.prog (Instr.loadAt 24 (.pointer ((some a27)))) H233 (.slice A28 l28 c28) ∧
 QRun Tryd.prog (Instr.loadAt 23 (.pointer ((some a25)))) H233 (.slice A26 l26 c26) ∧
 QRun Tryd.prog (Instr.loadAt 22 (.pointer ((some a23)))) H233 (.int .u64 n24) ∧
 HRun Tryd.prog base (Builtin.append_ #[23, 23] 23 #[(.slice A234 l234 c234), (.slice A26 l26 c26)]) H233 fun v235 H236 =>
 ∃ (A237 : Option Addr) (l237 c237 : Nat), v235 = (.slice A237 l237 c237) ∧ QRun Tryd.prog (Instr.loadAt 24 (.pointer ((some a27)))) H236 (.slice A28 l28 c28) ∧
 QRun Tryd.prog (Instr.loadAt 22 (.pointer ((some a23)))) H236 (.int .u64 n24) ∧
 HRun Tryd.prog base (Builtin.append_ #[24, 24] 24 #[(.slice A231 l231 c231), (.slice A28 l28 c28)]) H236 fun v238 H239 =>
 ∃ (A240 : Option Addr) (l240 c240 : Nat), v238 = (.slice A240 l240 c240) ∧ QRun Tryd.prog (Instr.loadAt 22 (.pointer ((some a23)))) H239 (.int .u64 n24) ∧
 ∃ n241 : Int, ∃ (A242 : Option Addr) (l242 c242 : Nat), ∃ (A243 : Option Addr) (l243 c243 : Nat), AQ Tryd.prog (Instr.build 26 #[(0, (.int .u64 n24)), (1, (.slice A237 l237 c237)), (2, (.slice A240 l240 c240))]) (.agg #[(.int .u64 n241), (.slice A242 l242 c242), (.slice A243 l243 c243)]) ∧
 HRun Tryd.prog base (Instr.storeAt 26 (.pointer ((some a199))) (.agg #[(.int .u64 n241), (.slice A242 l242 c242), (.slice A243 l243 c243)])) H239 fun _ H244 =>
 privitylaw36_OptimizeDuplicates.R0 base [(.pointer ((some a3))), (.int .i64 (((l22 : Nat) : Int))), (.pointer ((some a199)))] H244 K))
 else
 HCall Tryd.prog base 28 #[] H8 fun v245 H246 =>
 ∃ b247 : Bool, v245 = (.bool b247) ∧ K (.bool b247) H246
 else
 HCall Tryd.prog base 28 #[] H8 fun v248 H249 =>
 ∃ b250 : Bool, v248 = (.bool b250) ∧ K (.bool b250) H249
theorem privitylaw36_OptimizeDuplicates.spec {base : Nat} {x0_0 : Int} {Ax0_1 : Option Addr} {lx0_1 cx0_1 : Nat} {Ax0_2 : Option Addr} {lx0_2 cx0_2 : Nat} {H0 : HH} {K : Value → HH → Prop} (h : privitylaw36_OptimizeDuplicates.sh base x0_0 Ax0_1 lx0_1 cx0_1 Ax0_2 lx0_2 cx0_2 H0 K) : HCall Tryd.prog base 14 #[(.agg #[(.int .u64 x0_0), (.slice Ax0_1 lx0_1 cx0_1), (.slice Ax0_2 lx0_2 cx0_2)])] H0 K := spec_of_wpC (n := 149) (ann := privitylaw36_OptimizeDuplicates.ann) mix Tryd.func14 (by kernel_rfl) (cast (show privitylaw36_OptimizeDuplicates.sh base x0_0 Ax0_1 lx0_1 cx0_1 Ax0_2 lx0_2 cx0_2 H0 K = wpC Tryd.prog base 149 privitylaw36_OptimizeDuplicates.ann (bodyOf Tryd.f14) (ofL [(.agg #[(.int .u64 x0_0), (.slice Ax0_1 lx0_1 cx0_1), (.slice Ax0_2 lx0_2 cx0_2)])]) H0 (retQ Tryd.prog 149 Tryd.f14 K) by kernel_rfl) h)
def privitylaw36_OptimizeDuplicates.B0 (base : Nat) (x1 : Addr) (x3 : Int) (x4 : Addr) (Ax5 : Option Addr) (lx5 cx5 : Nat) (y6 : Int) (g : Fr) (N0 : Value → HH → Prop) (H0 : HH) (K : Value → HH → Prop) : Prop :=
 if (decide ((y6 : Int) < x3)) = true then
 ∃ a251 : Addr, AQ Tryd.prog (Instr.fieldAt 26 (.pointer ((some x1))) 1) (.pointer ((some a251))) ∧
 ∃ (A252 : Option Addr) (l252 c252 : Nat), QRun Tryd.prog (Instr.loadAt 23 (.pointer ((some a251)))) H0 (.slice A252 l252 c252) ∧
 ∃ a253 : Addr, AQ Tryd.prog (Instr.indexAt 23 (.slice A252 l252 c252) (.int .i64 y6)) (.pointer ((some a253))) ∧
 ∃ n254 : Int, ∃ n255 : Int, ∃ n256 : Int, ∃ n257 : Int, ∃ n258 : Int, QRun Tryd.prog (Instr.loadAt 37 (.pointer ((some a253)))) H0 (.agg #[(.int .i64 n254), (.int .i64 n255), (.int .i64 n256), (.int .i64 n257), (.int .u64 n258)]) ∧
 HRun Tryd.prog base (Instr.alloc 37 true (.tuple #[])) H0 fun v259 H260 =>
 ∃ a261 : Addr, v259 = (.pointer ((some a261))) ∧ HRun Tryd.prog base (Instr.storeAt 37 (.pointer ((some a261))) (.agg #[(.int .i64 n254), (.int .i64 n255), (.int .i64 n256), (.int .i64 n257), (.int .u64 n258)])) H260 fun _ H262 =>
 ∃ a263 : Addr, AQ Tryd.prog (Instr.fieldAt 37 (.pointer ((some a261))) 0) (.pointer ((some a263))) ∧
 ∃ n264 : Int, QRun Tryd.prog (Instr.loadAt 3 (.pointer ((some a263)))) H262 (.int .i64 n264) ∧
 if ((n264 : Int) == 1) = true then
 ∃ a265 : Addr, AQ Tryd.prog (Instr.indexAt 24 (.slice Ax5 lx5 cx5) (.int .i64 y6)) (.pointer ((some a265))) ∧
 HRun Tryd.prog base (Instr.storeAt 3 (.pointer ((some a265))) (.int .i64 y6)) H262 fun _ H266 =>
 N0 (.int .i64 ((IntKind.i64.wrap (y6 + 1)))) H266
 else
 ∃ a267 : Addr, AQ Tryd.prog (Instr.fieldAt 37 (.pointer ((some a261))) 0) (.pointer ((some a267))) ∧
 ∃ n268 : Int, QRun Tryd.prog (Instr.loadAt 3 (.pointer ((some a267)))) H262 (.int .i64 n268) ∧
 if ((n268 : Int) != 2) = true then
 ∃ a269 : Addr, AQ Tryd.prog (Instr.fieldAt 37 (.pointer ((some a261))) 2) (.pointer ((some a269))) ∧
 ∃ n270 : Int, QRun Tryd.prog (Instr.loadAt 3 (.pointer ((some a269)))) H262 (.int .i64 n270) ∧
 ∃ a271 : Addr, AQ Tryd.prog (Instr.indexAt 24 (.slice Ax5 lx5 cx5) (.int .i64 n270)) (.pointer ((some a271))) ∧
 ∃ n272 : Int, QRun Tryd.prog (Instr.loadAt 3 (.pointer ((some a271)))) H262 (.int .i64 n272) ∧
 ∃ a273 : Addr, AQ Tryd.prog (Instr.fieldAt 37 (.pointer ((some a261))) 2) (.pointer ((some a273))) ∧
 HRun Tryd.prog base (Instr.storeAt 3 (.pointer ((some a273))) (.int .i64 n272)) H262 fun _ H274 =>
 privitylaw36_OptimizeDuplicates.R1 base N0 [(.pointer ((some x1))), (.int .i64 x3), (.pointer ((some x4))), (.slice Ax5 lx5 cx5), (.int .i64 y6), (.pointer ((some a261)))] H274 K
 else
 privitylaw36_OptimizeDuplicates.R1 base N0 [(.pointer ((some x1))), (.int .i64 x3), (.pointer ((some x4))), (.slice Ax5 lx5 cx5), (.int .i64 y6), (.pointer ((some a261)))] H262 K
 else
 privitylaw36_OptimizeDuplicates.P1 base [(.pointer ((some x1))), (.pointer ((some x4))), (.slice Ax5 lx5 cx5), (.int .i64 0)] H0 K
theorem privitylaw36_OptimizeDuplicates.loop0 {base : Nat} {x1 : Addr} {x3 : Int} {x4 : Addr} {Ax5 : Option Addr} {lx5 cx5 : Nat} {y6_i : Int} {H0 : HH} {K : Value → HH → Prop} (J : Nat → Int → HH → Prop) (n : Nat) (h0 : J n y6_i H0)
    (hs : ∀ (n : Nat) (y6 : Int) (g : Fr) (H0 : HH), J n y6 H0 → privitylaw36_OptimizeDuplicates.B0 base x1 x3 x4 Ax5 lx5 cx5 y6 g (fun w6 H => ∃ n', n' < n ∧ ∃ (y6' : Int), w6 = (.int .i64 y6') ∧ J n' y6' H) H0 K) : privitylaw36_OptimizeDuplicates.P0 base [(.pointer ((some x1))), (.int .i64 x3), (.pointer ((some x4))), (.slice Ax5 lx5 cx5), (.int .i64 y6_i)] H0 K := by
  refine loop_rule (ann := privitylaw36_OptimizeDuplicates.ann) (body := codeAt [.r, .r, .r, .r, .r, .l, .r, .b, .lp] (bodyOf Tryd.f14)) mix (by kernel_rfl) 2535301200456458785401220366528 (by kernel_rfl) [1, 3, 4, 5] [(.pointer ((some x1))), (.int .i64 x3), (.pointer ((some x4))), (.slice Ax5 lx5 cx5)] (by kernel_rfl) (fun fr ⟨e1, e3, e4, e5, e6, _⟩ => ⟨e1, e3, e4, e5, trivial⟩) (fun n g H => ∃ (y6 : Int), g 6 = (.int .i64 y6) ∧ J n y6 H) n (fun fr ⟨e1, e3, e4, e5, e6, _⟩ => ⟨y6_i, e6, h0⟩) ?_
  rintro n g H0 ⟨e1, e3, e4, e5, _⟩ ⟨y6, e6, hJ⟩
  rw [← ov_eq (g := g) [(1, (.pointer ((some x1)))), (3, (.int .i64 x3)), (4, (.pointer ((some x4)))), (5, (.slice Ax5 lx5 cx5)), (6, (.int .i64 y6))] (by simp only [List.mem_cons, List.not_mem_nil, or_false, forall_eq_or_imp, forall_eq, false_implies, implies_true]; exact ⟨e1, e3, e4, e5, e6⟩)]
  have key : ∀ NN : Value → HH → Prop, privitylaw36_OptimizeDuplicates.B0 base x1 x3 x4 Ax5 lx5 cx5 y6 g NN H0 K = wpC Tryd.prog base 149 privitylaw36_OptimizeDuplicates.ann (codeAt [.r, .r, .r, .r, .r, .l, .r, .b, .lp] (bodyOf Tryd.f14)) (ov g [(1, (.pointer ((some x1)))), (3, (.int .i64 x3)), (4, (.pointer ((some x4)))), (5, (.slice Ax5 lx5 cx5)), (6, (.int .i64 y6))]) H0 (thenQ (fun fr H => NN (fr 6) H) (qAt Tryd.prog base 149 privitylaw36_OptimizeDuplicates.ann [.r, .r, .r, .r, .r, .l, .r, .b] [] (bodyOf Tryd.f14) (retQ Tryd.prog 149 Tryd.f14 K))) := fun NN => by kernel_rfl
  refine cast ?_ (hs n y6 g H0 hJ)
  refine (key (fun w6 H => ∃ n', n' < n ∧ ∃ (y6' : Int), w6 = (.int .i64 y6') ∧ J n' y6' H)).trans ?_
  kernel_rfl
def privitylaw36_OptimizeDuplicates.B1 (base : Nat) (x1 x4 : Addr) (Ax5 : Option Addr) (lx5 cx5 : Nat) (y8 : Int) (g : Fr) (N1 : Value → HH → Prop) (H0 : HH) (K : Value → HH → Prop) : Prop :=
 ∃ a275 : Addr, AQ Tryd.prog (Instr.fieldAt 26 (.pointer ((some x1))) 2) (.pointer ((some a275))) ∧
 ∃ (A276 : Option Addr) (l276 c276 : Nat), QRun Tryd.prog (Instr.loadAt 24 (.pointer ((some a275)))) H0 (.slice A276 l276 c276) ∧
 if (decide ((y8 : Int) < (((l276 : Nat) : Int)))) = true then
 ∃ a277 : Addr, AQ Tryd.prog (Instr.fieldAt 26 (.pointer ((some x4))) 2) (.pointer ((some a277))) ∧
 ∃ (A278 : Option Addr) (l278 c278 : Nat), QRun Tryd.prog (Instr.loadAt 24 (.pointer ((some a277)))) H0 (.slice A278 l278 c278) ∧
 ∃ a279 : Addr, AQ Tryd.prog (Instr.fieldAt 26 (.pointer ((some x1))) 2) (.pointer ((some a279))) ∧
 ∃ (A280 : Option Addr) (l280 c280 : Nat), QRun Tryd.prog (Instr.loadAt 24 (.pointer ((some a279)))) H0 (.slice A280 l280 c280) ∧
 ∃ a281 : Addr, AQ Tryd.prog (Instr.indexAt 24 (.slice A280 l280 c280) (.int .i64 y8)) (.pointer ((some a281))) ∧
 ∃ n282 : Int, QRun Tryd.prog (Instr.loadAt 3 (.pointer ((some a281)))) H0 (.int .i64 n282) ∧
 ∃ a283 : Addr, AQ Tryd.prog (Instr.indexAt 24 (.slice Ax5 lx5 cx5) (.int .i64 n282)) (.pointer ((some a283))) ∧
 ∃ n284 : Int, QRun Tryd.prog (Instr.loadAt 3 (.pointer ((some a283)))) H0 (.int .i64 n284) ∧
 HRun Tryd.prog base (Instr.buildSlice 24 1 #[(0, (.int .i64 n284))]) H0 fun v285 H286 =>
 ∃ (A287 : Option Addr) (l287 c287 : Nat), v285 = (.slice A287 l287 c287) ∧ QRun Tryd.prog (Instr.loadAt 24 (.pointer ((some a277)))) H286 (.slice A278 l278 c278) ∧
 HRun Tryd.prog base (Builtin.append_ #[24, 24] 24 #[(.slice A278 l278 c278), (.slice A287 l287 c287)]) H286 fun v288 H289 =>
 ∃ (A290 : Option Addr) (l290 c290 : Nat), v288 = (.slice A290 l290 c290) ∧ ∃ a291 : Addr, AQ Tryd.prog (Instr.fieldAt 26 (.pointer ((some x4))) 2) (.pointer ((some a291))) ∧
 HRun Tryd.prog base (Instr.storeAt 24 (.pointer ((some a291))) (.slice A290 l290 c290)) H289 fun _ H292 =>
 N1 (.int .i64 ((IntKind.i64.wrap (y8 + 1)))) H292
 else
 ∃ n293 : Int, ∃ (A294 : Option Addr) (l294 c294 : Nat), ∃ (A295 : Option Addr) (l295 c295 : Nat), QRun Tryd.prog (Instr.loadAt 26 (.pointer ((some x4)))) H0 (.agg #[(.int .u64 n293), (.slice A294 l294 c294), (.slice A295 l295 c295)]) ∧
 HCall Tryd.prog base 25 #[(.agg #[(.int .u64 n293), (.slice A294 l294 c294), (.slice A295 l295 c295)])] H0 fun v296 H297 =>
 ∃ b298 : Bool, v296 = (.bool b298) ∧ if (!b298) = true then
 HCall Tryd.prog base 28 #[] H297 fun v299 H300 =>
 ∃ b301 : Bool, v299 = (.bool b301) ∧ K (.bool b301) H300
 else
 ∃ n302 : Int, ∃ (A303 : Option Addr) (l303 c303 : Nat), ∃ (A304 : Option Addr) (l304 c304 : Nat), QRun Tryd.prog (Instr.loadAt 26 (.pointer ((some x1)))) H297 (.agg #[(.int .u64 n302), (.slice A303 l303 c303), (.slice A304 l304 c304)]) ∧
 HCall Tryd.prog base 29 #[(.agg #[(.int .u64 n302), (.slice A303 l303 c303), (.slice A304 l304 c304)])] H297 fun v305 H306 =>
 ∃ n307 : Int, ∃ (A308 : Option Addr) (l308 c308 : Nat), ∃ (A309 : Option Addr) (l309 c309 : Nat), ∃ (A310 : Option Addr) (l310 c310 : Nat), v305 = (.tuple #[(.agg #[(.int .u64 n307), (.slice A308 l308 c308), (.slice A309 l309 c309)]), (.agg #[(.slice A310 l310 c310)])]) ∧ HRun Tryd.prog base (Instr.alloc 26 true (.tuple #[])) H306 fun v311 H312 =>
 ∃ a313 : Addr, v311 = (.pointer ((some a313))) ∧ HRun Tryd.prog base (Instr.alloc 46 true (.tuple #[])) H312 fun v314 H315 =>
 ∃ a316 : Addr, v314 = (.pointer ((some a316))) ∧ HRun Tryd.prog base (Instr.storeAt 26 (.pointer ((some a313))) (.agg #[(.int .u64 n307), (.slice A308 l308 c308), (.slice A309 l309 c309)])) H315 fun _ H317 =>
 HRun Tryd.prog base (Instr.storeAt 46 (.pointer ((some a316))) (.agg #[(.slice A310 l310 c310)])) H317 fun _ H318 =>
 ∃ n319 : Int, ∃ (A320 : Option Addr) (l320 c320 : Nat), ∃ (A321 : Option Addr) (l321 c321 : Nat), QRun Tryd.prog (Instr.loadAt 26 (.pointer ((some x4)))) H318 (.agg #[(.int .u64 n319), (.slice A320 l320 c320), (.slice A321 l321 c321)]) ∧
 HCall Tryd.prog base 29 #[(.agg #[(.int .u64 n319), (.slice A320 l320 c320), (.slice A321 l321 c321)])] H318 fun v322 H323 =>
 ∃ n324 : Int, ∃ (A325 : Option Addr) (l325 c325 : Nat), ∃ (A326 : Option Addr) (l326 c326 : Nat), ∃ (A327 : Option Addr) (l327 c327 : Nat), v322 = (.tuple #[(.agg #[(.int .u64 n324), (.slice A325 l325 c325), (.slice A326 l326 c326)]), (.agg #[(.slice A327 l327 c327)])]) ∧ HRun Tryd.prog base (Instr.alloc 26 true (.tuple #[])) H323 fun v328 H329 =>
 ∃ a330 : Addr, v328 = (.pointer ((some a330))) ∧ HRun Tryd.prog base (Instr.alloc 46 true (.tuple #[])) H329 fun v331 H332 =>
 ∃ a333 : Addr, v331 = (.pointer ((some a333))) ∧ HRun Tryd.prog base (Instr.storeAt 26 (.pointer ((some a330))) (.agg #[(.int .u64 n324), (.slice A325 l325 c325), (.slice A326 l326 c326)])) H332 fun _ H334 =>
 HRun Tryd.prog base (Instr.storeAt 46 (.pointer ((some a333))) (.agg #[(.slice A327 l327 c327)])) H334 fun _ H335 =>
 ∃ a336 : Addr, AQ Tryd.prog (Instr.fieldAt 26 (.pointer ((some a313))) 2) (.pointer ((some a336))) ∧
 ∃ (A337 : Option Addr) (l337 c337 : Nat), QRun Tryd.prog (Instr.loadAt 24 (.pointer ((some a336)))) H335 (.slice A337 l337 c337) ∧
 ∃ a338 : Addr, AQ Tryd.prog (Instr.fieldAt 26 (.pointer ((some a313))) 2) (.pointer ((some a338))) ∧
 ∃ (A339 : Option Addr) (l339 c339 : Nat), QRun Tryd.prog (Instr.loadAt 24 (.pointer ((some a338)))) H335 (.slice A339 l339 c339) ∧
 HRun Tryd.prog base (Instr.buildSlice 24 0 #[]) H335 fun v340 H341 =>
 ∃ (A342 : Option Addr) (l342 c342 : Nat), v340 = (.slice A342 l342 c342) ∧ QRun Tryd.prog (Instr.loadAt 24 (.pointer ((some a338)))) H341 (.slice A339 l339 c339) ∧
 QRun Tryd.prog (Instr.loadAt 24 (.pointer ((some a336)))) H341 (.slice A337 l337 c337) ∧
 HRun Tryd.prog base (Builtin.append_ #[24, 24] 24 #[(.slice A342 l342 c342), (.slice A337 l337 c337)]) H341 fun v343 H344 =>
 ∃ (A345 : Option Addr) (l345 c345 : Nat), v343 = (.slice A345 l345 c345) ∧ QRun Tryd.prog (Instr.loadAt 24 (.pointer ((some a338)))) H344 (.slice A339 l339 c339) ∧
 HRun Tryd.prog base (Builtin.append_ #[24, 24] 24 #[(.slice A345 l345 c345), (.slice A339 l339 c339)]) H344 fun v346 H347 =>
 ∃ (A348 : Option Addr) (l348 c348 : Nat), v346 = (.slice A348 l348 c348) ∧ ∃ a349 : Addr, AQ Tryd.prog (Instr.fieldAt 26 (.pointer ((some a313))) 2) (.pointer ((some a349))) ∧
 HRun Tryd.prog base (Instr.storeAt 24 (.pointer ((some a349))) (.slice A348 l348 c348)) H347 fun _ H350 =>
 HCall Tryd.prog base 28 #[] H350 fun v351 H352 =>
 ∃ b353 : Bool, v351 = (.bool b353) ∧ if b353 = true then
 ∃ n354 : Int, ∃ (A355 : Option Addr) (l355 c355 : Nat), ∃ (A356 : Option Addr) (l356 c356 : Nat), QRun Tryd.prog (Instr.loadAt 26 (.pointer ((some a313)))) H352 (.agg #[(.int .u64 n354), (.slice A355 l355 c355), (.slice A356 l356 c356)]) ∧
 ∃ n357 : Int, ∃ (A358 : Option Addr) (l358 c358 : Nat), ∃ (A359 : Option Addr) (l359 c359 : Nat), QRun Tryd.prog (Instr.loadAt 26 (.pointer ((some a330)))) H352 (.agg #[(.int .u64 n357), (.slice A358 l358 c358), (.slice A359 l359 c359)]) ∧
 HCall Tryd.prog base 31 #[(.agg #[(.int .u64 n354), (.slice A355 l355 c355), (.slice A356 l356 c356)]), (.agg #[(.int .u64 n357), (.slice A358 l358 c358), (.slice A359 l359 c359)])] H352 fun v360 H361 =>
 ∃ b362 : Bool, v360 = (.bool b362) ∧ K (.bool b362) H361
 else
 K (.bool false) H352
theorem privitylaw36_OptimizeDuplicates.loop1 {base : Nat} {x1 x4 : Addr} {Ax5 : Option Addr} {lx5 cx5 : Nat} {y8_i : Int} {H0 : HH} {K : Value → HH → Prop} (J : Nat → Int → HH → Prop) (n : Nat) (h0 : J n y8_i H0)
    (hs : ∀ (n : Nat) (y8 : Int) (g : Fr) (H0 : HH), J n y8 H0 → privitylaw36_OptimizeDuplicates.B1 base x1 x4 Ax5 lx5 cx5 y8 g (fun w8 H => ∃ n', n' < n ∧ ∃ (y8' : Int), w8 = (.int .i64 y8') ∧ J n' y8' H) H0 K) : privitylaw36_OptimizeDuplicates.P1 base [(.pointer ((some x1))), (.pointer ((some x4))), (.slice Ax5 lx5 cx5), (.int .i64 y8_i)] H0 K := by
  refine loop_rule (ann := privitylaw36_OptimizeDuplicates.ann) (body := codeAt [.r, .r, .r, .r, .r, .r, .l, .r, .b, .lp] (bodyOf Tryd.f14)) mix (by kernel_rfl) 2658453456268631289348811127154278656 (by kernel_rfl) [1, 4, 5] [(.pointer ((some x1))), (.pointer ((some x4))), (.slice Ax5 lx5 cx5)] (by kernel_rfl) (fun fr ⟨e1, e4, e5, e8, _⟩ => ⟨e1, e4, e5, trivial⟩) (fun n g H => ∃ (y8 : Int), g 8 = (.int .i64 y8) ∧ J n y8 H) n (fun fr ⟨e1, e4, e5, e8, _⟩ => ⟨y8_i, e8, h0⟩) ?_
  rintro n g H0 ⟨e1, e4, e5, _⟩ ⟨y8, e8, hJ⟩
  rw [← ov_eq (g := g) [(1, (.pointer ((some x1)))), (4, (.pointer ((some x4)))), (5, (.slice Ax5 lx5 cx5)), (8, (.int .i64 y8))] (by simp only [List.mem_cons, List.not_mem_nil, or_false, forall_eq_or_imp, forall_eq, false_implies, implies_true]; exact ⟨e1, e4, e5, e8⟩)]
  have key : ∀ NN : Value → HH → Prop, privitylaw36_OptimizeDuplicates.B1 base x1 x4 Ax5 lx5 cx5 y8 g NN H0 K = wpC Tryd.prog base 149 privitylaw36_OptimizeDuplicates.ann (codeAt [.r, .r, .r, .r, .r, .r, .l, .r, .b, .lp] (bodyOf Tryd.f14)) (ov g [(1, (.pointer ((some x1)))), (4, (.pointer ((some x4)))), (5, (.slice Ax5 lx5 cx5)), (8, (.int .i64 y8))]) H0 (thenQ (fun fr H => NN (fr 8) H) (qAt Tryd.prog base 149 privitylaw36_OptimizeDuplicates.ann [.r, .r, .r, .r, .r, .r, .l, .r, .b] [] (bodyOf Tryd.f14) (retQ Tryd.prog 149 Tryd.f14 K))) := fun NN => by kernel_rfl
  refine cast ?_ (hs n y8 g H0 hJ)
  refine (key (fun w8 H => ∃ n', n' < n ∧ ∃ (y8' : Int), w8 = (.int .i64 y8') ∧ J n' y8' H)).trans ?_
  kernel_rfl
end Go.Proofs.YtjpaichcaaacbaaDoor.HL
end
section
set_option linter.unusedVariables false
set_option linter.unusedSimpArgs false
set_option linter.unusedSectionVars false
set_option maxHeartbeats 8000000
namespace Go.Proofs.YtjpaichcaaacbaaDoor.HL
open Go Go.Proofs.YtjpaichcaaacbaaDoorNum Go.Proofs.YtjpaichcaaacbaaDoor.FEv
def sA (k : Int) : Bool := k == 3 || (k == 4 || (k == 6 || k == 5))
def sB (k : Int) : Bool := k == 3 || (k == 4 || k == 6)
def cm (k : Int) : Bool := k == 3 || k == 6
section
variable {base : Nat} {H : HH} {K : Value → HH → Prop}
theorem h_sides (k : Int) (hk : K (.tuple #[.bool (sA k), .bool (sB k)]) H) : HCall Tryd.prog base 49 #[.int .i64 k] H K := by
  refine optimize_sides.spec ?_
  unfold optimize_sides.sh
  unfold sA sB at hk
  by_cases h3 : k = 3
  · subst h3; simpa using hk
  by_cases h4 : k = 4
  · subst h4; simpa using hk
  by_cases h6 : k = 6
  · subst h6; simpa using hk
  by_cases h5 : k = 5
  · subst h5; simpa using hk
  have e3 : (k == 3) = false := by simpa using h3
  have e4 : (k == 4) = false := by simpa using h4
  have e5 : (k == 5) = false := by simpa using h5
  have e6 : (k == 6) = false := by simpa using h6
  rw [e3, e4, e5, e6] at hk
  simpa [h3, h4, h5, h6] using hk
theorem h_either (k : Int) (hk : K (.bool (cm k)) H) : HCall Tryd.prog base 65 #[.int .i64 k] H K := by
  refine optimize_either.spec ?_
  unfold optimize_either.sh
  unfold cm at hk
  by_cases h3 : k = 3
  · subst h3; simpa using hk
  · rw [show (k == 3) = false from by simpa using h3] at hk
    simpa [h3] using hk
end
def OwnZ (base : Nat) (F H : HH) (A : Option Addr) (n c : Nat) (l : List Int) : Prop := Own base H 3 1 (.slice A n c) n (is l) ∧ Frz F H (.slice A n c)
section
variable {base : Nat} {F H H' : HH} {A A' : Option Addr} {n n' c c' : Nat} {l l' : List Int} {K : Value → HH → Prop}
theorem is_len (l : List Int) : (is l).length = l.length := by simp [is]
theorem OwnZ.len (h : OwnZ base F H A n c l) : n = l.length := by have := h.1.1; rw [is_len] at this; omega
theorem OwnZ.row (h : OwnZ base F H A n c l) : Outs H A n l := by
  obtain ⟨A', c', e, _, h2⟩ := h.1.slice
  cases e
  exact ⟨h.len, h2⟩
theorem OwnZ.ext (h : OwnZ base F H A n c l) : Ext F H := h.2.ext
theorem OwnZ.nil (base : Nat) (H : HH) : OwnZ base H H none 0 0 [] := ⟨Own.nil _ _ _ _, Frz.nil _⟩
theorem OwnZ.more (h : OwnZ base F H A n c l) (X : Ext H H') : OwnZ base F H' A n c l := ⟨h.1.ext X, h.2.more X⟩
theorem OwnZ.push (h : OwnZ base F H A n c l) (hl : n ≤ 100000) (x : Int) {C : Option Addr → Nat → Nat → HH → Prop} (hk : ∀ A' c' H', OwnZ base F H' A' (n + 1) c' (l ++ [x]) → Grows H H' (.slice A n c) (.slice A' (n + 1) c') → C A' (n + 1) c' H') {ty : Nat} :
    HRun Tryd.prog base (Instr.buildSlice tInts 1 #[(0, .int .i64 x)]) H fun v1 H1 => ∃ (A1 : Option Addr) (l1 c1 : Nat), v1 = .slice A1 l1 c1 ∧ HRun Tryd.prog base (Builtin.append_ #[tInts, tInts] ty #[.slice A n c, .slice A1 l1 c1]) H1 fun v2 H2 => ∃ (A' : Option Addr) (l' c' : Nat), v2 = .slice A' l' c' ∧ C A' l' c' H2 :=
  h_push unInts inf3 rfl (by decide) rfl h.1 (by omega) (fun A3 c3 H3 ho3 g3 => hk A3 c3 H3 ⟨by simpa [is] using ho3, h.2.grow g3⟩ g3)
theorem Outs.ix (h : Outs H A n l) (c : Nat) {x : Int} (h0 : 0 ≤ x) (h1 : x < n) : ∃ a, AQ Tryd.prog (Instr.indexAt tInts (.slice A n c) (.int .i64 x)) (.pointer (some a)) ∧ QRun Tryd.prog (Instr.loadAt 3 (.pointer (some a))) H (.int .i64 (l.getD x.toNat 0)) := by
  have := h.at c (i := x.toNat) (by omega)
  rwa [Int.toNat_of_nonneg h0] at this
theorem Gs.ix {gs : List Gate} (h : Gs H A n gs) (c : Nat) {x : Int} (h0 : 0 ≤ x) (h1 : x < n) : ∃ a, AQ Tryd.prog (Instr.indexAt tGates (.slice A n c) (.int .i64 x)) (.pointer (some a)) ∧ GAt H a (gs.getD x.toNat gate0) := by
  have := h.at c (i := x.toNat) (by omega)
  rwa [Int.toNat_of_nonneg h0] at this
/-- Two rows of numbers are compared. -/
theorem h_ints (h : Outs H A n l) (h' : Outs H A' n' l') (hl : l.length ≤ 1000) (hk : K (.bool (decide (l = l'))) H) : HCall Tryd.prog base 32 #[.slice A n c, .slice A' n' c'] H K := by
  refine privityref36_Ints.spec ?_
  unfold privityref36_Ints.sh
  have e1 := h.1
  have e2 := h'.1
  by_cases e : n = n'
  rotate_left
  · rw [if_pos (by rw [bne_iff_ne]; omega)]
    have : l ≠ l' := fun hl => e (by rw [e1, e2, hl])
    simpa [this] using hk
  · subst e
    rw [if_neg (by simp)]
    refine privityref36_Ints.loop0 (fun m y H' => H' = H ∧ ∃ j : Nat, y = j ∧ j ≤ n ∧ m = n - j ∧ ∀ t, t < j → l.getD t 0 = l'.getD t 0) n ⟨rfl, 0, rfl, Nat.zero_le _, by omega, fun t h => by omega⟩ ?_
    rintro m y g H' ⟨rfl, j, rfl, hj, hm', ht⟩
    unfold privityref36_Ints.B0
    by_cases hlt : j < n
    · rw [if_pos (decide_eq_true (by omega))]
      obtain ⟨a, q1, q2⟩ := h.at c (i := j) hlt
      obtain ⟨a', q3, q4⟩ := h'.at c' (i := j) hlt
      refine ⟨a, q1, _, q2, a', q3, _, q4, ?_⟩
      by_cases e3 : l.getD j 0 = l'.getD j 0
      · rw [if_neg (by simpa using e3)]
        exact ⟨m - 1, by omega, _, rfl, rfl, j + 1, nxt (n := 1000000) (by omega) (by decide), by omega, by omega, fun t h => by
          rcases Nat.lt_or_ge t j with h1 | h1
          · exact ht t h1
          · obtain rfl : t = j := by omega
            exact e3⟩
      · rw [if_pos (by simpa using e3)]
        have : l ≠ l' := fun hl => e3 (by rw [hl])
        simpa [this] using hk
    · rw [if_neg (fun h => hlt (by have := of_decide_eq_true h; omega))]
      have : l = l' := by
        apply List.ext_getElem (by omega)
        intro t h1 h2
        have := ht t (by omega)
        simpa [h1, h2] using this
      simpa [this] using hk
end
abbrev tCert : Nat := 46
def TB (H : HH) (b : Nat) (A : Option Addr) (n c : Nat) : Prop := H b = some (.cells #[.slice A n c] tCert (0, 0))
theorem ft0 (b : Nat) : AQ Tryd.prog (Instr.fieldAt tCert (.pointer (some ⟨b, 0, none⟩)) 0) (.pointer (some ⟨b, 0, none⟩)) := by
  have := aq_fld (P := Tryd.prog) (s := tCert) (f := 0) (off := 0) (sz := 1) (by kernel_rfl) (by decide) ⟨b, 0, none⟩
  rwa [add0] at this
section
variable {base : Nat} {H H' : HH} {K : Value → HH → Prop} {A : Option Addr} {n c b : Nat}
theorem TB.ext (h : TB H b A n c) (he : Ext H H') : TB H' b A n c := he _ _ h
theorem TB.to (h : TB H b A n c) : QRun Tryd.prog (Instr.loadAt tInts (.pointer (some ⟨b, 0, none⟩))) H (.slice A n c) := q_ld scInts (by rw [cellH_blk h]; rfl)
theorem TB.all (h : TB H b A n c) : QRun Tryd.prog (Instr.loadAt tCert (.pointer (some ⟨b, 0, none⟩))) H (.agg #[.slice A n c]) :=
  q_lda (cs := [.slice A n c]) (by kernel_rfl) (by kernel_rfl) (fun j u hu => by
    rw [add0, cellH_blk h, ← Array.getElem?_toList]
    exact hu)
theorem h_tbox (hk : ∀ b H', Ext H H' → TB H' b A n c → K (.pointer (some ⟨b, 0, none⟩)) H') : HRun Tryd.prog base (Instr.box tCert (.agg #[.slice A n c])) H K :=
  h_box (fun b hb hbase => hk b _ (Ext.upd hb _) (upd_self _ _ _))
end
theorem aq_neqg (g g' : Gate) {x y : Operand} : AQ Tryd.prog (binSem .neq tGate x y (.agg (gv g).toArray) (.agg (gv g').toArray)) (.bool (decide (g ≠ g'))) := fun W => by
  have h1 := run_eqGuard_agg (P := Tryd.prog) (w := W) .neq tGate x y (gv g).toArray (gv g').toArray (by kernel_rfl)
  have h2 := run_neq_struct (P := Tryd.prog) (w := W) tGate (gv g).toArray (gv g').toArray
  rw [eq_gate g g' W, gate_eq] at h2
  unfold binSem
  simp [h1, h2]
end Go.Proofs.YtjpaichcaaacbaaDoor.HL
end
section
set_option linter.unusedVariables false
set_option linter.unusedSimpArgs false
set_option linter.unusedSectionVars false
set_option maxHeartbeats 8000000
namespace Go.Proofs.YtjpaichcaaacbaaDoor.HL
open Go Go.Proofs.YtjpaichcaaacbaaDoorNum Go.Proofs.YtjpaichcaaacbaaDoor.FEv
def inG (gs : List Gate) (n : Nat) : List Nat := (List.range n).filter fun i => (gs.getD i gate0).kind == 1
theorem inG_succ (gs : List Gate) (n : Nat) : inG gs (n + 1) = if (gs.getD n gate0).kind = 1 then inG gs n ++ [n] else inG gs n := by
  unfold inG
  rw [List.range_succ, List.filter_append]
  by_cases h : (gs.getD n gate0).kind = 1
  · rw [if_pos h, List.filter_cons, if_pos (by rw [h]; rfl), List.filter_nil]
  · rw [if_neg h, List.filter_cons, if_neg (by simpa using h), List.filter_nil, List.append_nil]
theorem inG_le (gs : List Gate) (n : Nat) : (inG gs n).length ≤ n := by
  unfold inG
  have := List.length_filter_le (fun i => (gs.getD i gate0).kind == 1) (List.range n)
  simpa using this
theorem inG_mem {gs : List Gate} {n i : Nat} (h : i ∈ inG gs n) : i < n ∧ (gs.getD i gate0).kind = 1 := by
  unfold inG at h
  rw [List.mem_filter] at h
  exact ⟨List.mem_range.1 h.1, by simpa using h.2⟩
def zs (l : List Nat) : List Int := l.map fun (k : Nat) => (k : Int)
theorem zs_get (l : List Nat) (i : Nat) : (zs l).getD i 0 = ((l.getD i 0 : Nat) : Int) := by
  unfold zs
  rw [List.getD_eq_getElem?_getD, List.getD_eq_getElem?_getD, List.getElem?_map]
  cases l[i]? <;> rfl
theorem zs_snoc (l : List Nat) (k : Nat) : zs (l ++ [k]) = zs l ++ [(k : Int)] := by simp [zs]
section
variable {base : Nat} {H : HH} {K : Value → HH → Prop} {A A' : Option Addr} {n n' c c' : Nat} {P : Int} {gs : List Gate}
theorem h_inputs (hg : Gs H A n gs) (hz : gs.length ≤ 100000) (hk : ∀ A1 c1 H', Ext H H' → Outs H' A1 (inG gs gs.length).length (zs (inG gs gs.length)) → K (.slice A1 (inG gs gs.length).length c1) H') : HCall Tryd.prog base 53 #[.agg #[.int .u64 P, .slice A n c, .slice A' n' c']] H K := by
  refine optimize_inputs.spec ?_
  unfold optimize_inputs.sh
  obtain rfl := hg.1
  refine h_cbox (fun xb H1 X1 cb => ⟨_, rfl, _, fc1 xb, _, _, _, cb.qgs, ?_⟩)
  refine optimize_inputs.loop0 (fun r A1 l1 c1 y H' => ∃ j : Nat, y = j ∧ j ≤ gs.length ∧ r = gs.length - j ∧ l1 = (inG gs j).length ∧ ∃ F, Ext H F ∧ OwnZ base F H' A1 l1 c1 (zs (inG gs j))) gs.length ⟨0, rfl, Nat.zero_le _, rfl, rfl, H1, X1, OwnZ.nil _ _⟩ ?_
  rintro r A1 l1 c1 y fr H2 ⟨j, rfl, hj, rfl, hl1, F, XF, o2⟩
  unfold optimize_inputs.B0
  have hle := inG_le gs j
  by_cases hlt : j < gs.length
  · rw [if_pos (decide_eq_true (by omega))]
    obtain ⟨a, q1, q2⟩ := (hg.ext (XF.trans o2.ext)).at c (i := j) hlt
    have nx : IntKind.i64.wrap ((j : Int) + 1) = ((j + 1 : Nat) : Int) := nxt (n := 1000000) (by omega) (by decide)
    refine ⟨a, q1, _, _, _, _, _, q2.all, h_gvar (fun ad H3 X3 ga => ⟨_, fg0 ad, _, ga.kind, ?_⟩)⟩
    have is := inG_succ gs j
    by_cases k1 : (gs.getD j gate0).kind = 1
    · rw [if_pos (by simpa using k1)]
      rw [if_pos k1] at is
      refine (o2.more X3).push (by omega) _ (fun A4 c4 H4 o4 g4 => ?_)
      refine ⟨gs.length - j - 1, by omega, _, _, _, _, rfl, rfl, j + 1, nx, by omega, by omega, by rw [is, List.length_append]; simp [hl1], F, XF, ?_⟩
      rw [is, zs_snoc]; exact o4
    · rw [if_neg (by simpa using k1)]
      rw [if_neg k1] at is
      exact ⟨gs.length - j - 1, by omega, _, _, _, _, rfl, rfl, j + 1, nx, by omega, by omega, by rw [is]; exact hl1, F, XF, by rw [is]; exact o2.more X3⟩
  · rw [if_neg (fun h => hlt (by have := of_decide_eq_true h; omega))]
    obtain rfl : j = gs.length := by omega
    subst hl1
    exact hk _ _ _ (XF.trans o2.ext) o2.row
end
def corrB (g h : Gate) (tt : List Int) : Bool :=
  h.kind == g.kind && (h.k == g.k && (!sA g.kind || (decide (0 ≤ tt.getD g.a.toNat 0) && (if sB g.kind = true then decide (0 ≤ tt.getD g.b.toNat 0) && ((h.a == tt.getD g.a.toNat 0 && h.b == tt.getD g.b.toNat 0) || (cm g.kind && (h.a == tt.getD g.b.toNat 0 && h.b == tt.getD g.a.toNat 0))) else h.a == tt.getD g.a.toNat 0))))
theorem sB_sA {k : Int} (h : sB k = true) : sA k = true := by
  unfold sB at h; unfold sA
  simp only [Bool.or_eq_true, beq_iff_eq] at h ⊢
  omega
theorem cm_sB {k : Int} (h : cm k = true) : sB k = true := by
  unfold cm at h; unfold sB
  simp only [Bool.or_eq_true, beq_iff_eq] at h ⊢
  omega
section
variable {base : Nat} {H : HH} {K : Value → HH → Prop} {A : Option Addr} {n c : Nat} {tt : List Int} {g h : Gate}
theorem h_alike (ht : Outs H A n tt) (ha : sA g.kind = true → 0 ≤ g.a ∧ g.a < n) (hb : sB g.kind = true → 0 ≤ g.b ∧ g.b < n) (hk : ∀ H', Ext H H' → K (.bool (corrB g h tt)) H') : HCall Tryd.prog base 54 #[.agg (gv g).toArray, .agg (gv h).toArray, .slice A n c] H K := by
  refine optimize_alike.spec ?_
  unfold optimize_alike.sh
  refine h_gbox (g := g) (fun a H1 X1 ga => ⟨_, rfl, h_gbox (g := h) (fun b H2 X2 gb => ⟨_, rfl, ?_⟩)⟩)
  have ga := ga.ext X2
  have X := X1.trans X2
  have ht := ht.ext X
  have hkv : ∀ v, corrB g h tt = v → K (.bool v) H2 := fun v e => e ▸ hk H2 X
  refine ⟨_, fg0 b, _, gb.kind, _, fg0 a, _, ga.kind, ?_⟩
  cases b1 : (h.kind == g.kind) with
  | false =>
    rw [if_neg (by simpa [bne] using b1)]
    exact hkv _ (by unfold corrB; simp only [b1, Bool.true_and, Bool.false_and, Bool.and_true, Bool.and_false, Bool.true_or, Bool.false_or, Bool.or_false, Bool.or_true, Bool.not_true, Bool.not_false, Bool.false_eq_true, ↓reduceIte])
  | true =>
  rw [if_pos (by simpa [bne] using b1)]
  refine ⟨_, fg4 b, _, gb.k, _, fg4 a, _, ga.k, ?_⟩
  cases b2 : (h.k == g.k) with
  | false =>
    rw [if_pos (by simpa [bne] using b2)]
    exact hkv _ (by unfold corrB; simp only [b1, b2, Bool.true_and, Bool.false_and, Bool.and_true, Bool.and_false, Bool.true_or, Bool.false_or, Bool.or_false, Bool.or_true, Bool.not_true, Bool.not_false, Bool.false_eq_true, ↓reduceIte])
  | true =>
  rw [if_neg (by simpa [bne] using b2)]
  refine ⟨_, fg0 a, _, ga.kind, h_sides g.kind ⟨_, _, rfl, ?_⟩⟩
  cases sa : sA g.kind with
  | false =>
    rw [if_pos (by decide)]
    exact hkv _ (by unfold corrB; simp only [b1, b2, sa, Bool.true_and, Bool.false_and, Bool.and_true, Bool.and_false, Bool.true_or, Bool.false_or, Bool.or_false, Bool.or_true, Bool.not_true, Bool.not_false, Bool.false_eq_true, ↓reduceIte])
  | true =>
  rw [if_neg (by decide)]
  obtain ⟨x0, x1⟩ := ha sa
  obtain ⟨a5, t1, t2⟩ := ht.ix c x0 x1
  refine ⟨_, fg2 a, _, ga.sa, a5, t1, _, t2, ?_⟩
  cases sb : sB g.kind with
  | false =>
    rw [if_pos (by decide)]
    cases b3 : decide (0 ≤ tt.getD g.a.toNat 0) with
    | true =>
      rw [if_pos rfl]
      refine ⟨_, fg2 b, _, gb.sa, ?_⟩
      exact hkv _ (by unfold corrB; simp only [b1, b2, sa, sb, b3, Bool.true_and, Bool.false_and, Bool.and_true, Bool.and_false, Bool.true_or, Bool.false_or, Bool.or_false, Bool.or_true, Bool.not_true, Bool.not_false, Bool.false_eq_true, ↓reduceIte])
    | false =>
      rw [if_neg (by decide)]
      exact hkv _ (by unfold corrB; simp only [b1, b2, sa, sb, b3, Bool.true_and, Bool.false_and, Bool.and_true, Bool.and_false, Bool.true_or, Bool.false_or, Bool.or_false, Bool.or_true, Bool.not_true, Bool.not_false, Bool.false_eq_true, ↓reduceIte])
  | true =>
  rw [if_neg (by decide)]
  obtain ⟨y0, y1⟩ := hb sb
  obtain ⟨a6, t3, t4⟩ := ht.ix c y0 y1
  refine ⟨_, fg3 a, _, ga.sb, a6, t3, _, t4, ?_⟩
  have hkv : ∀ v, (h.kind == g.kind && (h.k == g.k && (!sA g.kind || (decide (0 ≤ tt.getD g.a.toNat 0) && (if sB g.kind = true then decide (0 ≤ tt.getD g.b.toNat 0) && ((h.a == tt.getD g.a.toNat 0 && h.b == tt.getD g.b.toNat 0) || (cm g.kind && (h.a == tt.getD g.b.toNat 0 && h.b == tt.getD g.a.toNat 0))) else h.a == tt.getD g.a.toNat 0))))) = v → K (.bool v) H2 := hkv
  generalize tt.getD g.a.toNat 0 = x at *
  generalize tt.getD g.b.toNat 0 = y at *
  rw [b1, b2, sa, sb] at hkv
  simp only [Bool.true_and, Bool.false_and, Bool.and_true, Bool.and_false, Bool.true_or, Bool.false_or, Bool.or_false, Bool.or_true, Bool.not_true, Bool.not_false, Bool.false_eq_true, ↓reduceIte] at hkv
  by_cases e3 : x < 0
  · rw [if_neg (by simpa using e3)]
    exact hkv _ (by rw [decide_eq_false (by omega : ¬ 0 ≤ x)]; rfl)
  rw [if_pos (by simpa using e3)]
  rw [decide_eq_true (by omega : 0 ≤ x), Bool.true_and] at hkv
  by_cases e4 : y < 0
  · rw [if_pos (by simpa using e4)]
    exact hkv _ (by rw [decide_eq_false (by omega : ¬ 0 ≤ y)]; rfl)
  rw [if_neg (by simpa using e4)]
  rw [decide_eq_true (by omega : 0 ≤ y), Bool.true_and] at hkv
  have last : (h.a == x && h.b == y) = false → HCall Tryd.prog base 65 #[.int .i64 g.kind] H2 (fun v37 H38 => ∃ b39 : Bool, v37 = .bool b39 ∧ if b39 = true then ∃ a40 : Addr, AQ Tryd.prog (Instr.fieldAt tGate (.pointer (some b)) 2) (.pointer (some a40)) ∧ ∃ n41 : Int, QRun Tryd.prog (Instr.loadAt 3 (.pointer (some a40))) H38 (.int .i64 n41) ∧ if (n41 == y) = true then ∃ a42 : Addr, AQ Tryd.prog (Instr.fieldAt tGate (.pointer (some b)) 3) (.pointer (some a42)) ∧ ∃ n43 : Int, QRun Tryd.prog (Instr.loadAt 3 (.pointer (some a42))) H38 (.int .i64 n43) ∧ K (.bool (n43 == x)) H38 else K (.bool false) H38 else K (.bool false) H38) := fun e5 => by
    rw [e5, Bool.false_or] at hkv
    refine h_either g.kind ⟨_, rfl, ?_⟩
    cases hc : cm g.kind with
    | false =>
      rw [if_neg (by decide)]
      exact hkv _ (by rw [hc]; rfl)
    | true =>
      rw [if_pos rfl]
      rw [hc, Bool.true_and] at hkv
      refine ⟨_, fg2 b, _, gb.sa, ?_⟩
      cases e7 : (h.a == y) with
      | true =>
        rw [if_pos rfl]
        exact ⟨_, fg3 b, _, gb.sb, hkv _ (by rw [e7]; rfl)⟩
      | false =>
        rw [if_neg (by decide)]
        exact hkv _ (by rw [e7]; rfl)
  refine ⟨_, fg2 b, _, gb.sa, ?_⟩
  cases e5 : (h.a == x) with
  | true =>
    rw [if_pos rfl]
    refine ⟨_, fg3 b, _, gb.sb, ?_⟩
    cases e6 : (h.b == y) with
    | true =>
      rw [if_neg (by decide)]
      exact hkv _ (by rw [e5, e6]; rfl)
    | false =>
      rw [if_pos rfl]
      exact ⟨_, fg0 a, _, ga.kind, last (by rw [e5, e6]; rfl)⟩
  | false =>
    rw [if_neg (by decide)]
    exact ⟨_, fg0 a, _, ga.kind, last (by rw [e5]; rfl)⟩
end
end Go.Proofs.YtjpaichcaaacbaaDoor.HL
end

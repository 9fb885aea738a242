/- Part K of: The statement OptimizeCertificateSound: the law answers true whatever its arguments; no condition. -/
import Derived.Test.YtjpaichcaaacbabDoorZOptimizeCertificateSoundJ
import Derived.KernelRfl
import Derived.Test.YtjpaichcaaacbabDoorProg
section
set_option linter.unusedVariables false
set_option linter.unusedSimpArgs false
set_option maxRecDepth 100000
namespace Go.Proofs.YtjpaichcaaacbabDoor.HL
open Go
def optimize_sides.ann : Ann := ⟨fun k => [], fun k => false, fun k => []⟩
def optimize_sides.sh (base : Nat) (x0 : Int) (H0 : HH) (K : Value → HH → Prop) : Prop :=
 if ((x0 : Int) == 3) = true then
 if ((x0 : Int) == 3) = true then
 K (.tuple #[(.bool true), (.bool true)]) H0
 else
 if ((x0 : Int) == 5) = true then
 K (.tuple #[(.bool true), (.bool false)]) H0
 else
 K (.tuple #[(.bool false), (.bool false)]) H0
 else
 if ((x0 : Int) == 4) = true then
 if ((x0 : Int) == 4) = true then
 K (.tuple #[(.bool true), (.bool true)]) H0
 else
 if ((x0 : Int) == 5) = true then
 K (.tuple #[(.bool true), (.bool false)]) H0
 else
 K (.tuple #[(.bool false), (.bool false)]) H0
 else
 if ((x0 : Int) == 6) = true then
 K (.tuple #[(.bool true), (.bool true)]) H0
 else
 if ((x0 : Int) == 5) = true then
 K (.tuple #[(.bool true), (.bool false)]) H0
 else
 K (.tuple #[(.bool false), (.bool false)]) H0
theorem optimize_sides.spec {base : Nat} {x0 : Int} {H0 : HH} {K : Value → HH → Prop} (h : optimize_sides.sh base x0 H0 K) : HCall Tryd.prog base 24 #[(.int .i64 x0)] H0 K := spec_of_wpC (n := 11) (ann := optimize_sides.ann) mix Tryd.func24 (by kernel_rfl) (cast (show optimize_sides.sh base x0 H0 K = wpC Tryd.prog base 11 optimize_sides.ann (bodyOf Tryd.f24) (ofL [(.int .i64 x0)]) H0 (retQ Tryd.prog 11 Tryd.f24 K) by kernel_rfl) h)
def optimize_either.ann : Ann := ⟨fun k => [], fun k => false, fun k => []⟩
def optimize_either.sh (base : Nat) (x0 : Int) (H0 : HH) (K : Value → HH → Prop) : Prop :=
 if ((x0 : Int) == 3) = false then
 K (.bool (((x0 : Int) == 6))) H0
 else
 K (.bool true) H0
theorem optimize_either.spec {base : Nat} {x0 : Int} {H0 : HH} {K : Value → HH → Prop} (h : optimize_either.sh base x0 H0 K) : HCall Tryd.prog base 30 #[(.int .i64 x0)] H0 K := spec_of_wpC (n := 9) (ann := optimize_either.ann) mix Tryd.func30 (by kernel_rfl) (cast (show optimize_either.sh base x0 H0 K = wpC Tryd.prog base 9 optimize_either.ann (bodyOf Tryd.f30) (ofL [(.int .i64 x0)]) H0 (retQ Tryd.prog 9 Tryd.f30 K) by kernel_rfl) h)
def optimize_firsts.ann : Ann := ⟨fun k => [], fun k => bif Nat.beq k 12 then true else bif Nat.beq k 14 then true else bif Nat.beq k 16 then true else bif Nat.beq k 20 then true else false, fun k => bif Nat.beq k 4 then [3, 4, 14, 15, 16] else bif Nat.beq k 12 then [3, 4, 5, 6, 7, 9, 14, 15, 16] else bif Nat.beq k 14 then [3, 4, 5, 6, 7, 14, 15, 16] else bif Nat.beq k 16 then [3, 4, 5, 7, 14, 15, 16] else bif Nat.beq k 20 then [3, 4, 10, 14, 15, 16] else []⟩
def optimize_firsts.P0 (base : Nat) (l : List Value) (H0 : HH) (K : Value → HH → Prop) : Prop := HCodeL Tryd.prog base 87 (codeAt [.r, .r, .r, .l, .r, .b] (bodyOf Tryd.f23)) [3, 4, 14, 15, 16] l H0 (qAt Tryd.prog base 87 optimize_firsts.ann [.r, .r, .r, .l, .r, .b] [] (bodyOf Tryd.f23) (retQ Tryd.prog 87 Tryd.f23 K))
def optimize_firsts.R0 (base : Nat) (N0 : Value → Value → HH → Prop) (l : List Value) (H0 : HH) (K : Value → HH → Prop) : Prop := HCodeL Tryd.prog base 87 (codeAt [.r, .r, .r, .l, .r, .b, .lp, .r, .r, .l, .b, .r, .r, .r, .r, .r] (bodyOf Tryd.f23)) [3, 4, 5, 6, 7, 9, 14, 15, 16] l H0 (qAt Tryd.prog base 87 optimize_firsts.ann [.r, .r, .r, .l, .r, .b, .lp, .r, .r, .l, .b, .r, .r, .r, .r, .r] [fun fr H => N0 (fr 4) (fr 16) H] (bodyOf Tryd.f23) (retQ Tryd.prog 87 Tryd.f23 K))
def optimize_firsts.R1 (base : Nat) (N0 : Value → Value → HH → Prop) (l : List Value) (H0 : HH) (K : Value → HH → Prop) : Prop := HCodeL Tryd.prog base 87 (codeAt [.r, .r, .r, .l, .r, .b, .lp, .r, .r, .l, .b, .r, .r, .r, .r, .r, .r] (bodyOf Tryd.f23)) [3, 4, 5, 6, 7, 14, 15, 16] l H0 (qAt Tryd.prog base 87 optimize_firsts.ann [.r, .r, .r, .l, .r, .b, .lp, .r, .r, .l, .b, .r, .r, .r, .r, .r, .r] [fun fr H => N0 (fr 4) (fr 16) H] (bodyOf Tryd.f23) (retQ Tryd.prog 87 Tryd.f23 K))
def optimize_firsts.R2 (base : Nat) (N0 : Value → Value → HH → Prop) (l : List Value) (H0 : HH) (K : Value → HH → Prop) : Prop := HCodeL Tryd.prog base 87 (codeAt [.r, .r, .r, .l, .r, .b, .lp, .r, .r, .l, .b, .r, .r, .r, .r, .r, .r, .r] (bodyOf Tryd.f23)) [3, 4, 5, 7, 14, 15, 16] l H0 (qAt Tryd.prog base 87 optimize_firsts.ann [.r, .r, .r, .l, .r, .b, .lp, .r, .r, .l, .b, .r, .r, .r, .r, .r, .r, .r] [fun fr H => N0 (fr 4) (fr 16) H] (bodyOf Tryd.f23) (retQ Tryd.prog 87 Tryd.f23 K))
def optimize_firsts.R3 (base : Nat) (N0 : Value → Value → HH → Prop) (l : List Value) (H0 : HH) (K : Value → HH → Prop) : Prop := HCodeL Tryd.prog base 87 (codeAt [.r, .r, .r, .l, .r, .b, .lp, .r, .r, .l, .b, .r, .r, .r, .r, .r, .r, .r, .r, .r] (bodyOf Tryd.f23)) [3, 4, 10, 14, 15, 16] l H0 (qAt Tryd.prog base 87 optimize_firsts.ann [.r, .r, .r, .l, .r, .b, .lp, .r, .r, .l, .b, .r, .r, .r, .r, .r, .r, .r, .r, .r] [fun fr H => N0 (fr 4) (fr 16) H] (bodyOf Tryd.f23) (retQ Tryd.prog 87 Tryd.f23 K))
def optimize_firsts.S0 (base : Nat) (N0 : Value → Value → HH → Prop) (x3 : Option Nat) (Ax4 : Option Addr) (lx4 cx4 : Nat) (x5 : Int) (x6 x7 : Addr) (x9 : Bool) (Ax14 : Option Addr) (lx14 cx14 : Nat) (x15 x16 : Int) (H0 : HH) (K : Value → HH → Prop) : Prop :=
 if x9 = true then
 ∃ a51 : Addr, AQ Tryd.prog (Instr.fieldAt 50 (.pointer ((some x6))) 3) (.pointer ((some a51))) ∧
 ∃ n52 : Int, QRun Tryd.prog (Instr.loadAt 3 (.pointer ((some a51)))) H0 (.int .i64 n52) ∧
 ∃ a53 : Addr, AQ Tryd.prog (Instr.indexAt 24 (.slice Ax4 lx4 cx4) (.int .i64 n52)) (.pointer ((some a53))) ∧
 ∃ n54 : Int, QRun Tryd.prog (Instr.loadAt 3 (.pointer ((some a53)))) H0 (.int .i64 n54) ∧
 ∃ a55 : Addr, AQ Tryd.prog (Instr.fieldAt 73 (.pointer ((some x7))) 2) (.pointer ((some a55))) ∧
 HRun Tryd.prog base (Instr.storeAt 3 (.pointer ((some a55))) (.int .i64 n54)) H0 fun _ H56 =>
 optimize_firsts.R1 base N0 [(.map x3), (.slice Ax4 lx4 cx4), (.int .i64 x5), (.pointer ((some x6))), (.pointer ((some x7))), (.slice Ax14 lx14 cx14), (.int .i64 x15), (.int .i64 x16)] H56 K
 else
 optimize_firsts.R1 base N0 [(.map x3), (.slice Ax4 lx4 cx4), (.int .i64 x5), (.pointer ((some x6))), (.pointer ((some x7))), (.slice Ax14 lx14 cx14), (.int .i64 x15), (.int .i64 x16)] H0 K
def optimize_firsts.T0 (base : Nat) (N0 : Value → Value → HH → Prop) (x3 : Option Nat) (Ax4 : Option Addr) (lx4 cx4 : Nat) (x5 : Int) (x6 x7 : Addr) (x9 : Bool) (Ax14 : Option Addr) (lx14 cx14 : Nat) (x15 x16 : Int) (H0 : HH) (K : Value → HH → Prop) : Prop := optimize_firsts.S0 base N0 x3 Ax4 lx4 cx4 x5 x6 x7 x9 Ax14 lx14 cx14 x15 x16 H0 K
theorem optimize_firsts.rest0 {base : Nat} {N0 : Value → Value → HH → Prop} {x3 : Option Nat} {Ax4 : Option Addr} {lx4 cx4 : Nat} {x5 : Int} {x6 x7 : Addr} {x9 : Bool} {Ax14 : Option Addr} {lx14 cx14 : Nat} {x15 x16 : Int} {H0 : HH} {K : Value → HH → Prop} (h : optimize_firsts.S0 base N0 x3 Ax4 lx4 cx4 x5 x6 x7 x9 Ax14 lx14 cx14 x15 x16 H0 K) : optimize_firsts.R0 base N0 [(.map x3), (.slice Ax4 lx4 cx4), (.int .i64 x5), (.pointer ((some x6))), (.pointer ((some x7))), (.bool x9), (.slice Ax14 lx14 cx14), (.int .i64 x15), (.int .i64 x16)] H0 K := by
  refine wpCL_sound (ann := optimize_firsts.ann) mix (fun fr ⟨e3, e4, e5, e6, e7, e9, e14, e15, e16, _⟩ => ?_)
  rw [← ov_eq (g := fr) [(3, (.map x3)), (4, (.slice Ax4 lx4 cx4)), (5, (.int .i64 x5)), (6, (.pointer ((some x6)))), (7, (.pointer ((some x7)))), (9, (.bool x9)), (14, (.slice Ax14 lx14 cx14)), (15, (.int .i64 x15)), (16, (.int .i64 x16))] (by simp only [List.mem_cons, List.not_mem_nil, or_false, forall_eq_or_imp, forall_eq, false_implies, implies_true]; exact ⟨e3, e4, e5, e6, e7, e9, e14, e15, e16⟩)]
  exact cast (show optimize_firsts.S0 base N0 x3 Ax4 lx4 cx4 x5 x6 x7 x9 Ax14 lx14 cx14 x15 x16 H0 K = wpC Tryd.prog base 87 optimize_firsts.ann (codeAt [.r, .r, .r, .l, .r, .b, .lp, .r, .r, .l, .b, .r, .r, .r, .r, .r] (bodyOf Tryd.f23)) (ov fr [(3, (.map x3)), (4, (.slice Ax4 lx4 cx4)), (5, (.int .i64 x5)), (6, (.pointer ((some x6)))), (7, (.pointer ((some x7)))), (9, (.bool x9)), (14, (.slice Ax14 lx14 cx14)), (15, (.int .i64 x15)), (16, (.int .i64 x16))]) H0 (qAt Tryd.prog base 87 optimize_firsts.ann [.r, .r, .r, .l, .r, .b, .lp, .r, .r, .l, .b, .r, .r, .r, .r, .r] [fun fr H => N0 (fr 4) (fr 16) H] (bodyOf Tryd.f23) (retQ Tryd.prog 87 Tryd.f23 K)) by kernel_rfl) h
theorem optimize_firsts.cut0 {base : Nat} {N0 : Value → Value → HH → Prop} {x3 : Option Nat} {Ax4 : Option Addr} {lx4 cx4 : Nat} {x5 : Int} {x6 x7 : Addr} {x9 : Bool} {Ax14 : Option Addr} {lx14 cx14 : Nat} {x15 x16 : Int} {H0 : HH} {K : Value → HH → Prop} (h : optimize_firsts.T0 base N0 x3 Ax4 lx4 cx4 x5 x6 x7 x9 Ax14 lx14 cx14 x15 x16 H0 K) : optimize_firsts.R0 base N0 [(.map x3), (.slice Ax4 lx4 cx4), (.int .i64 x5), (.pointer ((some x6))), (.pointer ((some x7))), (.bool x9), (.slice Ax14 lx14 cx14), (.int .i64 x15), (.int .i64 x16)] H0 K := optimize_firsts.rest0 h
def optimize_firsts.S1 (base : Nat) (N0 : Value → Value → HH → Prop) (x3 : Option Nat) (Ax4 : Option Addr) (lx4 cx4 : Nat) (x5 : Int) (x6 x7 : Addr) (Ax14 : Option Addr) (lx14 cx14 : Nat) (x15 x16 : Int) (H0 : HH) (K : Value → HH → Prop) : Prop :=
 ∃ a57 : Addr, AQ Tryd.prog (Instr.fieldAt 50 (.pointer ((some x6))) 0) (.pointer ((some a57))) ∧
 ∃ n58 : Int, QRun Tryd.prog (Instr.loadAt 3 (.pointer ((some a57)))) H0 (.int .i64 n58) ∧
 HCall Tryd.prog base 30 #[(.int .i64 n58)] H0 fun v59 H60 =>
 ∃ b61 : Bool, v59 = (.bool b61) ∧ if b61 = true then
 ∃ a62 : Addr, AQ Tryd.prog (Instr.fieldAt 73 (.pointer ((some x7))) 1) (.pointer ((some a62))) ∧
 ∃ n63 : Int, QRun Tryd.prog (Instr.loadAt 3 (.pointer ((some a62)))) H60 (.int .i64 n63) ∧
 ∃ a64 : Addr, AQ Tryd.prog (Instr.fieldAt 73 (.pointer ((some x7))) 2) (.pointer ((some a64))) ∧
 ∃ n65 : Int, QRun Tryd.prog (Instr.loadAt 3 (.pointer ((some a64)))) H60 (.int .i64 n65) ∧
 if (decide ((n63 : Int) > n65)) = true then
 ∃ a66 : Addr, AQ Tryd.prog (Instr.fieldAt 73 (.pointer ((some x7))) 2) (.pointer ((some a66))) ∧
 ∃ n67 : Int, QRun Tryd.prog (Instr.loadAt 3 (.pointer ((some a66)))) H60 (.int .i64 n67) ∧
 ∃ a68 : Addr, AQ Tryd.prog (Instr.fieldAt 73 (.pointer ((some x7))) 1) (.pointer ((some a68))) ∧
 ∃ n69 : Int, QRun Tryd.prog (Instr.loadAt 3 (.pointer ((some a68)))) H60 (.int .i64 n69) ∧
 ∃ a70 : Addr, AQ Tryd.prog (Instr.fieldAt 73 (.pointer ((some x7))) 1) (.pointer ((some a70))) ∧
 HRun Tryd.prog base (Instr.storeAt 3 (.pointer ((some a70))) (.int .i64 n67)) H60 fun _ H71 =>
 ∃ a72 : Addr, AQ Tryd.prog (Instr.fieldAt 73 (.pointer ((some x7))) 2) (.pointer ((some a72))) ∧
 HRun Tryd.prog base (Instr.storeAt 3 (.pointer ((some a72))) (.int .i64 n69)) H71 fun _ H73 =>
 optimize_firsts.R2 base N0 [(.map x3), (.slice Ax4 lx4 cx4), (.int .i64 x5), (.pointer ((some x7))), (.slice Ax14 lx14 cx14), (.int .i64 x15), (.int .i64 x16)] H73 K
 else
 optimize_firsts.R2 base N0 [(.map x3), (.slice Ax4 lx4 cx4), (.int .i64 x5), (.pointer ((some x7))), (.slice Ax14 lx14 cx14), (.int .i64 x15), (.int .i64 x16)] H60 K
 else
 optimize_firsts.R2 base N0 [(.map x3), (.slice Ax4 lx4 cx4), (.int .i64 x5), (.pointer ((some x7))), (.slice Ax14 lx14 cx14), (.int .i64 x15), (.int .i64 x16)] H60 K
def optimize_firsts.T1 (base : Nat) (N0 : Value → Value → HH → Prop) (x3 : Option Nat) (Ax4 : Option Addr) (lx4 cx4 : Nat) (x5 : Int) (x6 x7 : Addr) (Ax14 : Option Addr) (lx14 cx14 : Nat) (x15 x16 : Int) (H0 : HH) (K : Value → HH → Prop) : Prop := optimize_firsts.S1 base N0 x3 Ax4 lx4 cx4 x5 x6 x7 Ax14 lx14 cx14 x15 x16 H0 K
theorem optimize_firsts.rest1 {base : Nat} {N0 : Value → Value → HH → Prop} {x3 : Option Nat} {Ax4 : Option Addr} {lx4 cx4 : Nat} {x5 : Int} {x6 x7 : Addr} {Ax14 : Option Addr} {lx14 cx14 : Nat} {x15 x16 : Int} {H0 : HH} {K : Value → HH → Prop} (h : optimize_firsts.S1 base N0 x3 Ax4 lx4 cx4 x5 x6 x7 Ax14 lx14 cx14 x15 x16 H0 K) : optimize_firsts.R1 base N0 [(.map x3), (.slice Ax4 lx4 cx4), (.int .i64 x5), (.pointer ((some x6))), (.pointer ((some x7))), (.slice Ax14 lx14 cx14), (.int .i64 x15), (.int .i64 x16)] H0 K := by
  refine wpCL_sound (ann := optimize_firsts.ann) mix (fun fr ⟨e3, e4, e5, e6, e7, e14, e15, e16, _⟩ => ?_)
  rw [← ov_eq (g := fr) [(3, (.map x3)), (4, (.slice Ax4 lx4 cx4)), (5, (.int .i64 x5)), (6, (.pointer ((some x6)))), (7, (.pointer ((some x7)))), (14, (.slice Ax14 lx14 cx14)), (15, (.int .i64 x15)), (16, (.int .i64 x16))] (by simp only [List.mem_cons, List.not_mem_nil, or_false, forall_eq_or_imp, forall_eq, false_implies, implies_true]; exact ⟨e3, e4, e5, e6, e7, e14, e15, e16⟩)]
  exact cast (show optimize_firsts.S1 base N0 x3 Ax4 lx4 cx4 x5 x6 x7 Ax14 lx14 cx14 x15 x16 H0 K = wpC Tryd.prog base 87 optimize_firsts.ann (codeAt [.r, .r, .r, .l, .r, .b, .lp, .r, .r, .l, .b, .r, .r, .r, .r, .r, .r] (bodyOf Tryd.f23)) (ov fr [(3, (.map x3)), (4, (.slice Ax4 lx4 cx4)), (5, (.int .i64 x5)), (6, (.pointer ((some x6)))), (7, (.pointer ((some x7)))), (14, (.slice Ax14 lx14 cx14)), (15, (.int .i64 x15)), (16, (.int .i64 x16))]) H0 (qAt Tryd.prog base 87 optimize_firsts.ann [.r, .r, .r, .l, .r, .b, .lp, .r, .r, .l, .b, .r, .r, .r, .r, .r, .r] [fun fr H => N0 (fr 4) (fr 16) H] (bodyOf Tryd.f23) (retQ Tryd.prog 87 Tryd.f23 K)) by kernel_rfl) h
theorem optimize_firsts.cut1 {base : Nat} {N0 : Value → Value → HH → Prop} {x3 : Option Nat} {Ax4 : Option Addr} {lx4 cx4 : Nat} {x5 : Int} {x6 x7 : Addr} {Ax14 : Option Addr} {lx14 cx14 : Nat} {x15 x16 : Int} {H0 : HH} {K : Value → HH → Prop} (h : optimize_firsts.T1 base N0 x3 Ax4 lx4 cx4 x5 x6 x7 Ax14 lx14 cx14 x15 x16 H0 K) : optimize_firsts.R1 base N0 [(.map x3), (.slice Ax4 lx4 cx4), (.int .i64 x5), (.pointer ((some x6))), (.pointer ((some x7))), (.slice Ax14 lx14 cx14), (.int .i64 x15), (.int .i64 x16)] H0 K := optimize_firsts.rest1 h
def optimize_firsts.S2 (base : Nat) (N0 : Value → Value → HH → Prop) (x3 : Option Nat) (Ax4 : Option Addr) (lx4 cx4 : Nat) (x5 : Int) (x7 : Addr) (Ax14 : Option Addr) (lx14 cx14 : Nat) (x15 x16 : Int) (H0 : HH) (K : Value → HH → Prop) : Prop :=
 ∃ n74 : Int, ∃ n75 : Int, ∃ n76 : Int, ∃ n77 : Int, QRun Tryd.prog (Instr.loadAt 73 (.pointer ((some x7)))) H0 (.agg #[(.int .i64 n74), (.int .i64 n75), (.int .i64 n76), (.int .u64 n77)]) ∧
 ∃ n78 : Int, ∃ b79 : Bool, QRun Tryd.prog (Instr.lookup 71 (.map x3) (.agg #[(.int .i64 n74), (.int .i64 n75), (.int .i64 n76), (.int .u64 n77)]) true) H0 (.tuple #[(.int .i64 n78), (.bool b79)]) ∧
 if (!b79) = true then
 ∃ n80 : Int, ∃ n81 : Int, ∃ n82 : Int, ∃ n83 : Int, QRun Tryd.prog (Instr.loadAt 73 (.pointer ((some x7)))) H0 (.agg #[(.int .i64 n80), (.int .i64 n81), (.int .i64 n82), (.int .u64 n83)]) ∧
 HRun Tryd.prog base (Instr.mapUpdate 71 (.map x3) (.agg #[(.int .i64 n80), (.int .i64 n81), (.int .i64 n82), (.int .u64 n83)]) (.int .i64 x5)) H0 fun _ H84 =>
 optimize_firsts.R3 base N0 [(.map x3), (.slice Ax4 lx4 cx4), (.int .i64 x5), (.slice Ax14 lx14 cx14), (.int .i64 x15), (.int .i64 x16)] H84 K
 else
 optimize_firsts.R3 base N0 [(.map x3), (.slice Ax4 lx4 cx4), (.int .i64 n78), (.slice Ax14 lx14 cx14), (.int .i64 x15), (.int .i64 x16)] H0 K
def optimize_firsts.T2 (base : Nat) (N0 : Value → Value → HH → Prop) (x3 : Option Nat) (Ax4 : Option Addr) (lx4 cx4 : Nat) (x5 : Int) (x7 : Addr) (Ax14 : Option Addr) (lx14 cx14 : Nat) (x15 x16 : Int) (H0 : HH) (K : Value → HH → Prop) : Prop := optimize_firsts.S2 base N0 x3 Ax4 lx4 cx4 x5 x7 Ax14 lx14 cx14 x15 x16 H0 K
theorem optimize_firsts.rest2 {base : Nat} {N0 : Value → Value → HH → Prop} {x3 : Option Nat} {Ax4 : Option Addr} {lx4 cx4 : Nat} {x5 : Int} {x7 : Addr} {Ax14 : Option Addr} {lx14 cx14 : Nat} {x15 x16 : Int} {H0 : HH} {K : Value → HH → Prop} (h : optimize_firsts.S2 base N0 x3 Ax4 lx4 cx4 x5 x7 Ax14 lx14 cx14 x15 x16 H0 K) : optimize_firsts.R2 base N0 [(.map x3), (.slice Ax4 lx4 cx4), (.int .i64 x5), (.pointer ((some x7))), (.slice Ax14 lx14 cx14), (.int .i64 x15), (.int .i64 x16)] H0 K := by
  refine wpCL_sound (ann := optimize_firsts.ann) mix (fun fr ⟨e3, e4, e5, e7, e14, e15, e16, _⟩ => ?_)
  rw [← ov_eq (g := fr) [(3, (.map x3)), (4, (.slice Ax4 lx4 cx4)), (5, (.int .i64 x5)), (7, (.pointer ((some x7)))), (14, (.slice Ax14 lx14 cx14)), (15, (.int .i64 x15)), (16, (.int .i64 x16))] (by simp only [List.mem_cons, List.not_mem_nil, or_false, forall_eq_or_imp, forall_eq, false_implies, implies_true]; exact ⟨e3, e4, e5, e7, e14, e15, e16⟩)]
  exact cast (show optimize_firsts.S2 base N0 x3 Ax4 lx4 cx4 x5 x7 Ax14 lx14 cx14 x15 x16 H0 K = wpC Tryd.prog base 87 optimize_firsts.ann (codeAt [.r, .r, .r, .l, .r, .b, .lp, .r, .r, .l, .b, .r, .r, .r, .r, .r, .r, .r] (bodyOf Tryd.f23)) (ov fr [(3, (.map x3)), (4, (.slice Ax4 lx4 cx4)), (5, (.int .i64 x5)), (7, (.pointer ((some x7)))), (14, (.slice Ax14 lx14 cx14)), (15, (.int .i64 x15)), (16, (.int .i64 x16))]) H0 (qAt Tryd.prog base 87 optimize_firsts.ann [.r, .r, .r, .l, .r, .b, .lp, .r, .r, .l, .b, .r, .r, .r, .r, .r, .r, .r] [fun fr H => N0 (fr 4) (fr 16) H] (bodyOf Tryd.f23) (retQ Tryd.prog 87 Tryd.f23 K)) by kernel_rfl) h
theorem optimize_firsts.cut2 {base : Nat} {N0 : Value → Value → HH → Prop} {x3 : Option Nat} {Ax4 : Option Addr} {lx4 cx4 : Nat} {x5 : Int} {x7 : Addr} {Ax14 : Option Addr} {lx14 cx14 : Nat} {x15 x16 : Int} {H0 : HH} {K : Value → HH → Prop} (h : optimize_firsts.T2 base N0 x3 Ax4 lx4 cx4 x5 x7 Ax14 lx14 cx14 x15 x16 H0 K) : optimize_firsts.R2 base N0 [(.map x3), (.slice Ax4 lx4 cx4), (.int .i64 x5), (.pointer ((some x7))), (.slice Ax14 lx14 cx14), (.int .i64 x15), (.int .i64 x16)] H0 K := optimize_firsts.rest2 h
def optimize_firsts.S3 (base : Nat) (N0 : Value → Value → HH → Prop) (x3 : Option Nat) (Ax4 : Option Addr) (lx4 cx4 : Nat) (x10 : Int) (Ax14 : Option Addr) (lx14 cx14 : Nat) (x15 x16 : Int) (H0 : HH) (K : Value → HH → Prop) : Prop :=
 HRun Tryd.prog base (Instr.buildSlice 24 1 #[(0, (.int .i64 x10))]) H0 fun v85 H86 =>
 ∃ (A87 : Option Addr) (l87 c87 : Nat), v85 = (.slice A87 l87 c87) ∧ HRun Tryd.prog base (Builtin.append_ #[24, 24] 24 #[(.slice Ax4 lx4 cx4), (.slice A87 l87 c87)]) H86 fun v88 H89 =>
 ∃ (A90 : Option Addr) (l90 c90 : Nat), v88 = (.slice A90 l90 c90) ∧ N0 (.slice A90 l90 c90) (.int .i64 ((IntKind.i64.wrap (x16 + 1)))) H89
def optimize_firsts.T3 (base : Nat) (N0 : Value → Value → HH → Prop) (x3 : Option Nat) (Ax4 : Option Addr) (lx4 cx4 : Nat) (x10 : Int) (Ax14 : Option Addr) (lx14 cx14 : Nat) (x15 x16 : Int) (H0 : HH) (K : Value → HH → Prop) : Prop := optimize_firsts.S3 base N0 x3 Ax4 lx4 cx4 x10 Ax14 lx14 cx14 x15 x16 H0 K
theorem optimize_firsts.rest3 {base : Nat} {N0 : Value → Value → HH → Prop} {x3 : Option Nat} {Ax4 : Option Addr} {lx4 cx4 : Nat} {x10 : Int} {Ax14 : Option Addr} {lx14 cx14 : Nat} {x15 x16 : Int} {H0 : HH} {K : Value → HH → Prop} (h : optimize_firsts.S3 base N0 x3 Ax4 lx4 cx4 x10 Ax14 lx14 cx14 x15 x16 H0 K) : optimize_firsts.R3 base N0 [(.map x3), (.slice Ax4 lx4 cx4), (.int .i64 x10), (.slice Ax14 lx14 cx14), (.int .i64 x15), (.int .i64 x16)] H0 K := by
  refine wpCL_sound (ann := optimize_firsts.ann) mix (fun fr ⟨e3, e4, e10, e14, e15, e16, _⟩ => ?_)
  rw [← ov_eq (g := fr) [(3, (.map x3)), (4, (.slice Ax4 lx4 cx4)), (10, (.int .i64 x10)), (14, (.slice Ax14 lx14 cx14)), (15, (.int .i64 x15)), (16, (.int .i64 x16))] (by simp only [List.mem_cons, List.not_mem_nil, or_false, forall_eq_or_imp, forall_eq, false_implies, implies_true]; exact ⟨e3, e4, e10, e14, e15, e16⟩)]
  exact cast (show optimize_firsts.S3 base N0 x3 Ax4 lx4 cx4 x10 Ax14 lx14 cx14 x15 x16 H0 K = wpC Tryd.prog base 87 optimize_firsts.ann (codeAt [.r, .r, .r, .l, .r, .b, .lp, .r, .r, .l, .b, .r, .r, .r, .r, .r, .r, .r, .r, .r] (bodyOf Tryd.f23)) (ov fr [(3, (.map x3)), (4, (.slice Ax4 lx4 cx4)), (10, (.int .i64 x10)), (14, (.slice Ax14 lx14 cx14)), (15, (.int .i64 x15)), (16, (.int .i64 x16))]) H0 (qAt Tryd.prog base 87 optimize_firsts.ann [.r, .r, .r, .l, .r, .b, .lp, .r, .r, .l, .b, .r, .r, .r, .r, .r, .r, .r, .r, .r] [fun fr H => N0 (fr 4) (fr 16) H] (bodyOf Tryd.f23) (retQ Tryd.prog 87 Tryd.f23 K)) by kernel_rfl) h
theorem optimize_firsts.cut3 {base : Nat} {N0 : Value → Value → HH → Prop} {x3 : Option Nat} {Ax4 : Option Addr} {lx4 cx4 : Nat} {x10 : Int} {Ax14 : Option Addr} {lx14 cx14 : Nat} {x15 x16 : Int} {H0 : HH} {K : Value → HH → Prop} (h : optimize_firsts.T3 base N0 x3 Ax4 lx4 cx4 x10 Ax14 lx14 cx14 x15 x16 H0 K) : optimize_firsts.R3 base N0 [(.map x3), (.slice Ax4 lx4 cx4), (.int .i64 x10), (.slice Ax14 lx14 cx14), (.int .i64 x15), (.int .i64 x16)] H0 K := optimize_firsts.rest3 h
def optimize_firsts.sh (base : Nat) (x0_0 : Int) (Ax0_1 : Option Addr) (lx0_1 cx0_1 : Nat) (Ax0_2 : Option Addr) (lx0_2 cx0_2 : Nat) (H0 : HH) (K : Value → HH → Prop) : Prop :=
 HRun Tryd.prog base (Instr.box 26 (.agg #[(.int .u64 x0_0), (.slice Ax0_1 lx0_1 cx0_1), (.slice Ax0_2 lx0_2 cx0_2)])) H0 fun v1 H2 =>
 ∃ a3 : Addr, v1 = (.pointer ((some a3))) ∧ HRun Tryd.prog base (Instr.makeMap 71 none) H2 fun v4 H5 =>
 ∃ r6 : Option Nat, v4 = (.map r6) ∧ ∃ a7 : Addr, AQ Tryd.prog (Instr.fieldAt 26 (.pointer ((some a3))) 1) (.pointer ((some a7))) ∧
 ∃ (A8 : Option Addr) (l8 c8 : Nat), QRun Tryd.prog (Instr.loadAt 23 (.pointer ((some a7)))) H5 (.slice A8 l8 c8) ∧
 optimize_firsts.P0 base [(.map r6), (.slice none 0 0), (.slice A8 l8 c8), (.int .i64 (((l8 : Nat) : Int))), (.int .i64 0)] H5 K
theorem optimize_firsts.spec {base : Nat} {x0_0 : Int} {Ax0_1 : Option Addr} {lx0_1 cx0_1 : Nat} {Ax0_2 : Option Addr} {lx0_2 cx0_2 : Nat} {H0 : HH} {K : Value → HH → Prop} (h : optimize_firsts.sh base x0_0 Ax0_1 lx0_1 cx0_1 Ax0_2 lx0_2 cx0_2 H0 K) : HCall Tryd.prog base 23 #[(.agg #[(.int .u64 x0_0), (.slice Ax0_1 lx0_1 cx0_1), (.slice Ax0_2 lx0_2 cx0_2)])] H0 K := spec_of_wpC (n := 87) (ann := optimize_firsts.ann) mix Tryd.func23 (by kernel_rfl) (cast (show optimize_firsts.sh base x0_0 Ax0_1 lx0_1 cx0_1 Ax0_2 lx0_2 cx0_2 H0 K = wpC Tryd.prog base 87 optimize_firsts.ann (bodyOf Tryd.f23) (ofL [(.agg #[(.int .u64 x0_0), (.slice Ax0_1 lx0_1 cx0_1), (.slice Ax0_2 lx0_2 cx0_2)])]) H0 (retQ Tryd.prog 87 Tryd.f23 K) by kernel_rfl) h)
def optimize_firsts.B0 (base : Nat) (x3 : Option Nat) (Ax14 : Option Addr) (lx14 cx14 : Nat) (x15 : Int) (Ay4 : Option Addr) (ly4 cy4 : Nat) (y16 : Int) (g : Fr) (N0 : Value → Value → HH → Prop) (H0 : HH) (K : Value → HH → Prop) : Prop :=
 if (decide ((y16 : Int) < x15)) = true then
 ∃ a9 : Addr, AQ Tryd.prog (Instr.indexAt 23 (.slice Ax14 lx14 cx14) (.int .i64 y16)) (.pointer ((some a9))) ∧
 ∃ n10 : Int, ∃ n11 : Int, ∃ n12 : Int, ∃ n13 : Int, ∃ n14 : Int, QRun Tryd.prog (Instr.loadAt 50 (.pointer ((some a9)))) H0 (.agg #[(.int .i64 n10), (.int .i64 n11), (.int .i64 n12), (.int .i64 n13), (.int .u64 n14)]) ∧
 HRun Tryd.prog base (Instr.alloc 50 true (.tuple #[])) H0 fun v15 H16 =>
 ∃ a17 : Addr, v15 = (.pointer ((some a17))) ∧ HRun Tryd.prog base (Instr.storeAt 50 (.pointer ((some a17))) (.agg #[(.int .i64 n10), (.int .i64 n11), (.int .i64 n12), (.int .i64 n13), (.int .u64 n14)])) H16 fun _ H18 =>
 ∃ a19 : Addr, AQ Tryd.prog (Instr.fieldAt 50 (.pointer ((some a17))) 0) (.pointer ((some a19))) ∧
 ∃ n20 : Int, QRun Tryd.prog (Instr.loadAt 3 (.pointer ((some a19)))) H18 (.int .i64 n20) ∧
 if ((n20 : Int) == 1) = true then
 HRun Tryd.prog base (Instr.buildSlice 24 1 #[(0, (.int .i64 y16))]) H18 fun v21 H22 =>
 ∃ (A23 : Option Addr) (l23 c23 : Nat), v21 = (.slice A23 l23 c23) ∧ HRun Tryd.prog base (Builtin.append_ #[24, 24] 24 #[(.slice Ay4 ly4 cy4), (.slice A23 l23 c23)]) H22 fun v24 H25 =>
 ∃ (A26 : Option Addr) (l26 c26 : Nat), v24 = (.slice A26 l26 c26) ∧ N0 (.slice A26 l26 c26) (.int .i64 ((IntKind.i64.wrap (y16 + 1)))) H25
 else
 ∃ a27 : Addr, AQ Tryd.prog (Instr.fieldAt 50 (.pointer ((some a17))) 0) (.pointer ((some a27))) ∧
 ∃ n28 : Int, QRun Tryd.prog (Instr.loadAt 3 (.pointer ((some a27)))) H18 (.int .i64 n28) ∧
 ∃ a29 : Addr, AQ Tryd.prog (Instr.fieldAt 50 (.pointer ((some a17))) 4) (.pointer ((some a29))) ∧
 ∃ n30 : Int, QRun Tryd.prog (Instr.loadAt 22 (.pointer ((some a29)))) H18 (.int .u64 n30) ∧
 ∃ n31 : Int, ∃ n32 : Int, ∃ n33 : Int, ∃ n34 : Int, AQ Tryd.prog (Instr.build 73 #[(0, (.int .i64 n28)), (3, (.int .u64 n30))]) (.agg #[(.int .i64 n31), (.int .i64 n32), (.int .i64 n33), (.int .u64 n34)]) ∧
 HRun Tryd.prog base (Instr.alloc 73 true (.tuple #[])) H18 fun v35 H36 =>
 ∃ a37 : Addr, v35 = (.pointer ((some a37))) ∧ HRun Tryd.prog base (Instr.storeAt 73 (.pointer ((some a37))) (.agg #[(.int .i64 n31), (.int .i64 n32), (.int .i64 n33), (.int .u64 n34)])) H36 fun _ H38 =>
 ∃ a39 : Addr, AQ Tryd.prog (Instr.fieldAt 50 (.pointer ((some a17))) 0) (.pointer ((some a39))) ∧
 ∃ n40 : Int, QRun Tryd.prog (Instr.loadAt 3 (.pointer ((some a39)))) H38 (.int .i64 n40) ∧
 HCall Tryd.prog base 24 #[(.int .i64 n40)] H38 fun v41 H42 =>
 ∃ b43 : Bool, ∃ b44 : Bool, v41 = (.tuple #[(.bool b43), (.bool b44)]) ∧ if b43 = true then
 ∃ a45 : Addr, AQ Tryd.prog (Instr.fieldAt 50 (.pointer ((some a17))) 2) (.pointer ((some a45))) ∧
 ∃ n46 : Int, QRun Tryd.prog (Instr.loadAt 3 (.pointer ((some a45)))) H42 (.int .i64 n46) ∧
 ∃ a47 : Addr, AQ Tryd.prog (Instr.indexAt 24 (.slice Ay4 ly4 cy4) (.int .i64 n46)) (.pointer ((some a47))) ∧
 ∃ n48 : Int, QRun Tryd.prog (Instr.loadAt 3 (.pointer ((some a47)))) H42 (.int .i64 n48) ∧
 ∃ a49 : Addr, AQ Tryd.prog (Instr.fieldAt 73 (.pointer ((some a37))) 1) (.pointer ((some a49))) ∧
 HRun Tryd.prog base (Instr.storeAt 3 (.pointer ((some a49))) (.int .i64 n48)) H42 fun _ H50 =>
 optimize_firsts.R0 base N0 [(.map x3), (.slice Ay4 ly4 cy4), (.int .i64 y16), (.pointer ((some a17))), (.pointer ((some a37))), (.bool b44), (.slice Ax14 lx14 cx14), (.int .i64 x15), (.int .i64 y16)] H50 K
 else
 optimize_firsts.R0 base N0 [(.map x3), (.slice Ay4 ly4 cy4), (.int .i64 y16), (.pointer ((some a17))), (.pointer ((some a37))), (.bool b44), (.slice Ax14 lx14 cx14), (.int .i64 x15), (.int .i64 y16)] H42 K
 else
 K (.slice Ay4 ly4 cy4) H0
theorem optimize_firsts.loop0 {base : Nat} {x3 : Option Nat} {Ax14 : Option Addr} {lx14 cx14 : Nat} {x15 : Int} {Ay4_i : Option Addr} {ly4_i cy4_i : Nat} {y16_i : Int} {H0 : HH} {K : Value → HH → Prop} (J : Nat → Option Addr → Nat → Nat → Int → HH → Prop) (n : Nat) (h0 : J n Ay4_i ly4_i cy4_i y16_i H0)
    (hs : ∀ (n : Nat) (Ay4 : Option Addr) (ly4 cy4 : Nat) (y16 : Int) (g : Fr) (H0 : HH), J n Ay4 ly4 cy4 y16 H0 → optimize_firsts.B0 base x3 Ax14 lx14 cx14 x15 Ay4 ly4 cy4 y16 g (fun w4 w16 H => ∃ n', n' < n ∧ ∃ (Ay4' : Option Addr) (ly4' cy4' : Nat) (y16' : Int), w4 = (.slice Ay4' ly4' cy4') ∧ w16 = (.int .i64 y16') ∧ J n' Ay4' ly4' cy4' y16' H) H0 K) : optimize_firsts.P0 base [(.map x3), (.slice Ay4_i ly4_i cy4_i), (.slice Ax14 lx14 cx14), (.int .i64 x15), (.int .i64 y16_i)] H0 K := by
  refine loop_rule (ann := optimize_firsts.ann) (body := codeAt [.r, .r, .r, .l, .r, .b, .lp] (bodyOf Tryd.f23)) mix (by kernel_rfl) 77371252455336267181133808 (by kernel_rfl) [3, 14, 15] [(.map x3), (.slice Ax14 lx14 cx14), (.int .i64 x15)] (by kernel_rfl) (fun fr ⟨e3, e4, e14, e15, e16, _⟩ => ⟨e3, e14, e15, trivial⟩) (fun n g H => ∃ (Ay4 : Option Addr) (ly4 cy4 : Nat) (y16 : Int), g 4 = (.slice Ay4 ly4 cy4) ∧ g 16 = (.int .i64 y16) ∧ J n Ay4 ly4 cy4 y16 H) n (fun fr ⟨e3, e4, e14, e15, e16, _⟩ => ⟨Ay4_i, ly4_i, cy4_i, y16_i, e4, e16, h0⟩) ?_
  rintro n g H0 ⟨e3, e14, e15, _⟩ ⟨Ay4, ly4, cy4, y16, e4, e16, hJ⟩
  rw [← ov_eq (g := g) [(3, (.map x3)), (4, (.slice Ay4 ly4 cy4)), (14, (.slice Ax14 lx14 cx14)), (15, (.int .i64 x15)), (16, (.int .i64 y16))] (by simp only [List.mem_cons, List.not_mem_nil, or_false, forall_eq_or_imp, forall_eq, false_implies, implies_true]; exact ⟨e3, e4, e14, e15, e16⟩)]
  have key : ∀ NN : Value → Value → HH → Prop, optimize_firsts.B0 base x3 Ax14 lx14 cx14 x15 Ay4 ly4 cy4 y16 g NN H0 K = wpC Tryd.prog base 87 optimize_firsts.ann (codeAt [.r, .r, .r, .l, .r, .b, .lp] (bodyOf Tryd.f23)) (ov g [(3, (.map x3)), (4, (.slice Ay4 ly4 cy4)), (14, (.slice Ax14 lx14 cx14)), (15, (.int .i64 x15)), (16, (.int .i64 y16))]) H0 (thenQ (fun fr H => NN (fr 4) (fr 16) H) (qAt Tryd.prog base 87 optimize_firsts.ann [.r, .r, .r, .l, .r, .b] [] (bodyOf Tryd.f23) (retQ Tryd.prog 87 Tryd.f23 K))) := fun NN => by kernel_rfl
  refine cast ?_ (hs n Ay4 ly4 cy4 y16 g H0 hJ)
  refine (key (fun w4 w16 H => ∃ n', n' < n ∧ ∃ (Ay4' : Option Addr) (ly4' cy4' : Nat) (y16' : Int), w4 = (.slice Ay4' ly4' cy4') ∧ w16 = (.int .i64 y16') ∧ J n' Ay4' ly4' cy4' y16' H)).trans ?_
  kernel_rfl
def optimize_Optimize.ann : Ann := ⟨fun k => bif Nat.beq k 28 then [12] else bif Nat.beq k 31 then [10] else bif Nat.beq k 33 then [10] else bif Nat.beq k 40 then [7, 8, 10] else bif Nat.beq k 42 then [2, 3] else [], fun k => bif Nat.beq k 14 then true else bif Nat.beq k 18 then true else bif Nat.beq k 32 then true else bif Nat.beq k 34 then true else false, fun k => bif Nat.beq k 4 then [1, 2, 3, 4, 5, 27, 28, 29] else bif Nat.beq k 9 then [1, 2, 3, 4, 5, 8] else bif Nat.beq k 14 then [1, 2, 3, 4, 5, 8, 9] else bif Nat.beq k 18 then [1, 2, 3, 4, 5, 8, 9, 11] else bif Nat.beq k 23 then [1, 2, 3, 4, 5, 12, 13, 95, 96, 97] else bif Nat.beq k 32 then [1, 2, 3, 4, 5, 12, 13, 14, 15, 17, 95, 96, 97] else bif Nat.beq k 34 then [1, 2, 3, 4, 5, 12, 13, 14, 15, 95, 96, 97] else bif Nat.beq k 38 then [2, 3, 12, 13, 175, 176, 177] else []⟩
def optimize_Optimize.P0 (base : Nat) (l : List Value) (H0 : HH) (K : Value → HH → Prop) : Prop := HCodeL Tryd.prog base 194 (codeAt [.r, .r, .r, .l, .r, .b] (bodyOf Tryd.f11)) [1, 2, 3, 4, 5, 27, 28, 29] l H0 (qAt Tryd.prog base 194 optimize_Optimize.ann [.r, .r, .r, .l, .r, .b] [] (bodyOf Tryd.f11) (retQ Tryd.prog 194 Tryd.f11 K))
def optimize_Optimize.P1 (base : Nat) (l : List Value) (H0 : HH) (K : Value → HH → Prop) : Prop := HCodeL Tryd.prog base 194 (codeAt [.r, .r, .r, .r, .l, .r, .b] (bodyOf Tryd.f11)) [1, 2, 3, 4, 5, 8] l H0 (qAt Tryd.prog base 194 optimize_Optimize.ann [.r, .r, .r, .r, .l, .r, .b] [] (bodyOf Tryd.f11) (retQ Tryd.prog 194 Tryd.f11 K))
def optimize_Optimize.P2 (base : Nat) (l : List Value) (H0 : HH) (K : Value → HH → Prop) : Prop := HCodeL Tryd.prog base 194 (codeAt [.r, .r, .r, .r, .r, .r, .r, .l, .r, .b] (bodyOf Tryd.f11)) [1, 2, 3, 4, 5, 12, 13, 95, 96, 97] l H0 (qAt Tryd.prog base 194 optimize_Optimize.ann [.r, .r, .r, .r, .r, .r, .r, .l, .r, .b] [] (bodyOf Tryd.f11) (retQ Tryd.prog 194 Tryd.f11 K))
def optimize_Optimize.P3 (base : Nat) (l : List Value) (H0 : HH) (K : Value → HH → Prop) : Prop := HCodeL Tryd.prog base 194 (codeAt [.r, .r, .r, .r, .r, .r, .r, .r, .l, .r, .b] (bodyOf Tryd.f11)) [2, 3, 12, 13, 175, 176, 177] l H0 (qAt Tryd.prog base 194 optimize_Optimize.ann [.r, .r, .r, .r, .r, .r, .r, .r, .l, .r, .b] [] (bodyOf Tryd.f11) (retQ Tryd.prog 194 Tryd.f11 K))
def optimize_Optimize.R0 (base : Nat) (N1 : Value → HH → Prop) (l : List Value) (H0 : HH) (K : Value → HH → Prop) : Prop := HCodeL Tryd.prog base 194 (codeAt [.r, .r, .r, .r, .l, .r, .b, .lp, .r, .l, .b, .r, .r] (bodyOf Tryd.f11)) [1, 2, 3, 4, 5, 8, 9] l H0 (qAt Tryd.prog base 194 optimize_Optimize.ann [.r, .r, .r, .r, .l, .r, .b, .lp, .r, .l, .b, .r, .r] [fun fr H => N1 (fr 8) H] (bodyOf Tryd.f11) (retQ Tryd.prog 194 Tryd.f11 K))
def optimize_Optimize.R1 (base : Nat) (N1 : Value → HH → Prop) (l : List Value) (H0 : HH) (K : Value → HH → Prop) : Prop := HCodeL Tryd.prog base 194 (codeAt [.r, .r, .r, .r, .l, .r, .b, .lp, .r, .l, .b, .r, .r, .r, .r, .r] (bodyOf Tryd.f11)) [1, 2, 3, 4, 5, 8, 9, 11] l H0 (qAt Tryd.prog base 194 optimize_Optimize.ann [.r, .r, .r, .r, .l, .r, .b, .lp, .r, .l, .b, .r, .r, .r, .r, .r] [fun fr H => N1 (fr 8) H] (bodyOf Tryd.f11) (retQ Tryd.prog 194 Tryd.f11 K))
def optimize_Optimize.R2 (base : Nat) (N2 : Value → HH → Prop) (l : List Value) (H0 : HH) (K : Value → HH → Prop) : Prop := HCodeL Tryd.prog base 194 (codeAt [.r, .r, .r, .r, .r, .r, .r, .l, .r, .b, .lp, .r, .r, .l, .b, .r, .r, .r, .r, .r, .r] (bodyOf Tryd.f11)) [1, 2, 3, 4, 5, 12, 13, 14, 15, 17, 95, 96, 97] l H0 (qAt Tryd.prog base 194 optimize_Optimize.ann [.r, .r, .r, .r, .r, .r, .r, .l, .r, .b, .lp, .r, .r, .l, .b, .r, .r, .r, .r, .r, .r] [fun fr H => N2 (fr 97) H] (bodyOf Tryd.f11) (retQ Tryd.prog 194 Tryd.f11 K))
def optimize_Optimize.R3 (base : Nat) (N2 : Value → HH → Prop) (l : List Value) (H0 : HH) (K : Value → HH → Prop) : Prop := HCodeL Tryd.prog base 194 (codeAt [.r, .r, .r, .r, .r, .r, .r, .l, .r, .b, .lp, .r, .r, .l, .b, .r, .r, .r, .r, .r, .r, .r] (bodyOf Tryd.f11)) [1, 2, 3, 4, 5, 12, 13, 14, 15, 95, 96, 97] l H0 (qAt Tryd.prog base 194 optimize_Optimize.ann [.r, .r, .r, .r, .r, .r, .r, .l, .r, .b, .lp, .r, .r, .l, .b, .r, .r, .r, .r, .r, .r, .r] [fun fr H => N2 (fr 97) H] (bodyOf Tryd.f11) (retQ Tryd.prog 194 Tryd.f11 K))
def optimize_Optimize.S0 (base : Nat) (N1 : Value → HH → Prop) (x1 x2 x3 : Addr) (Ax4 : Option Addr) (lx4 cx4 : Nat) (Ax5 : Option Addr) (lx5 cx5 : Nat) (x8 : Int) (x9 : Addr) (H0 : HH) (K : Value → HH → Prop) : Prop :=
 ∃ a138 : Addr, AQ Tryd.prog (Instr.indexAt 57 (.slice Ax5 lx5 cx5) (.int .i64 x8)) (.pointer ((some a138))) ∧
 ∃ b139 : Bool, QRun Tryd.prog (Instr.loadAt 4 (.pointer ((some a138)))) H0 (.bool b139) ∧
 if (!b139) = true then
 N1 (.int .i64 ((IntKind.i64.wrap (x8 - 1)))) H0
 else
 ∃ a140 : Addr, AQ Tryd.prog (Instr.fieldAt 50 (.pointer ((some x9))) 0) (.pointer ((some a140))) ∧
 ∃ n141 : Int, QRun Tryd.prog (Instr.loadAt 3 (.pointer ((some a140)))) H0 (.int .i64 n141) ∧
 HCall Tryd.prog base 24 #[(.int .i64 n141)] H0 fun v142 H143 =>
 ∃ b144 : Bool, ∃ b145 : Bool, v142 = (.tuple #[(.bool b144), (.bool b145)]) ∧ if b144 = true then
 ∃ a146 : Addr, AQ Tryd.prog (Instr.fieldAt 50 (.pointer ((some x9))) 2) (.pointer ((some a146))) ∧
 ∃ n147 : Int, QRun Tryd.prog (Instr.loadAt 3 (.pointer ((some a146)))) H143 (.int .i64 n147) ∧
 ∃ a148 : Addr, AQ Tryd.prog (Instr.indexAt 24 (.slice Ax4 lx4 cx4) (.int .i64 n147)) (.pointer ((some a148))) ∧
 ∃ n149 : Int, QRun Tryd.prog (Instr.loadAt 3 (.pointer ((some a148)))) H143 (.int .i64 n149) ∧
 ∃ a150 : Addr, AQ Tryd.prog (Instr.indexAt 57 (.slice Ax5 lx5 cx5) (.int .i64 n149)) (.pointer ((some a150))) ∧
 HRun Tryd.prog base (Instr.storeAt 4 (.pointer ((some a150))) (.bool true)) H143 fun _ H151 =>
 optimize_Optimize.R1 base N1 [(.pointer ((some x1))), (.pointer ((some x2))), (.pointer ((some x3))), (.slice Ax4 lx4 cx4), (.slice Ax5 lx5 cx5), (.int .i64 x8), (.pointer ((some x9))), (.bool b145)] H151 K
 else
 optimize_Optimize.R1 base N1 [(.pointer ((some x1))), (.pointer ((some x2))), (.pointer ((some x3))), (.slice Ax4 lx4 cx4), (.slice Ax5 lx5 cx5), (.int .i64 x8), (.pointer ((some x9))), (.bool b145)] H143 K
def optimize_Optimize.T0 (base : Nat) (N1 : Value → HH → Prop) (x1 x2 x3 : Addr) (Ax4 : Option Addr) (lx4 cx4 : Nat) (Ax5 : Option Addr) (lx5 cx5 : Nat) (x8 : Int) (x9 : Addr) (H0 : HH) (K : Value → HH → Prop) : Prop := optimize_Optimize.S0 base N1 x1 x2 x3 Ax4 lx4 cx4 Ax5 lx5 cx5 x8 x9 H0 K
theorem optimize_Optimize.rest0 {base : Nat} {N1 : Value → HH → Prop} {x1 x2 x3 : Addr} {Ax4 : Option Addr} {lx4 cx4 : Nat} {Ax5 : Option Addr} {lx5 cx5 : Nat} {x8 : Int} {x9 : Addr} {H0 : HH} {K : Value → HH → Prop} (h : optimize_Optimize.S0 base N1 x1 x2 x3 Ax4 lx4 cx4 Ax5 lx5 cx5 x8 x9 H0 K) : optimize_Optimize.R0 base N1 [(.pointer ((some x1))), (.pointer ((some x2))), (.pointer ((some x3))), (.slice Ax4 lx4 cx4), (.slice Ax5 lx5 cx5), (.int .i64 x8), (.pointer ((some x9)))] H0 K := by
  refine wpCL_sound (ann := optimize_Optimize.ann) mix (fun fr ⟨e1, e2, e3, e4, e5, e8, e9, _⟩ => ?_)
  rw [← ov_eq (g := fr) [(1, (.pointer ((some x1)))), (2, (.pointer ((some x2)))), (3, (.pointer ((some x3)))), (4, (.slice Ax4 lx4 cx4)), (5, (.slice Ax5 lx5 cx5)), (8, (.int .i64 x8)), (9, (.pointer ((some x9))))] (by simp only [List.mem_cons, List.not_mem_nil, or_false, forall_eq_or_imp, forall_eq, false_implies, implies_true]; exact ⟨e1, e2, e3, e4, e5, e8, e9⟩)]
  exact cast (show optimize_Optimize.S0 base N1 x1 x2 x3 Ax4 lx4 cx4 Ax5 lx5 cx5 x8 x9 H0 K = wpC Tryd.prog base 194 optimize_Optimize.ann (codeAt [.r, .r, .r, .r, .l, .r, .b, .lp, .r, .l, .b, .r, .r] (bodyOf Tryd.f11)) (ov fr [(1, (.pointer ((some x1)))), (2, (.pointer ((some x2)))), (3, (.pointer ((some x3)))), (4, (.slice Ax4 lx4 cx4)), (5, (.slice Ax5 lx5 cx5)), (8, (.int .i64 x8)), (9, (.pointer ((some x9))))]) H0 (qAt Tryd.prog base 194 optimize_Optimize.ann [.r, .r, .r, .r, .l, .r, .b, .lp, .r, .l, .b, .r, .r] [fun fr H => N1 (fr 8) H] (bodyOf Tryd.f11) (retQ Tryd.prog 194 Tryd.f11 K)) by kernel_rfl) h
theorem optimize_Optimize.cut0 {base : Nat} {N1 : Value → HH → Prop} {x1 x2 x3 : Addr} {Ax4 : Option Addr} {lx4 cx4 : Nat} {Ax5 : Option Addr} {lx5 cx5 : Nat} {x8 : Int} {x9 : Addr} {H0 : HH} {K : Value → HH → Prop} (h : optimize_Optimize.T0 base N1 x1 x2 x3 Ax4 lx4 cx4 Ax5 lx5 cx5 x8 x9 H0 K) : optimize_Optimize.R0 base N1 [(.pointer ((some x1))), (.pointer ((some x2))), (.pointer ((some x3))), (.slice Ax4 lx4 cx4), (.slice Ax5 lx5 cx5), (.int .i64 x8), (.pointer ((some x9)))] H0 K := optimize_Optimize.rest0 h
def optimize_Optimize.S1 (base : Nat) (N1 : Value → HH → Prop) (x1 x2 x3 : Addr) (Ax4 : Option Addr) (lx4 cx4 : Nat) (Ax5 : Option Addr) (lx5 cx5 : Nat) (x8 : Int) (x9 : Addr) (x11 : Bool) (H0 : HH) (K : Value → HH → Prop) : Prop :=
 if x11 = true then
 ∃ a152 : Addr, AQ Tryd.prog (Instr.fieldAt 50 (.pointer ((some x9))) 3) (.pointer ((some a152))) ∧
 ∃ n153 : Int, QRun Tryd.prog (Instr.loadAt 3 (.pointer ((some a152)))) H0 (.int .i64 n153) ∧
 ∃ a154 : Addr, AQ Tryd.prog (Instr.indexAt 24 (.slice Ax4 lx4 cx4) (.int .i64 n153)) (.pointer ((some a154))) ∧
 ∃ n155 : Int, QRun Tryd.prog (Instr.loadAt 3 (.pointer ((some a154)))) H0 (.int .i64 n155) ∧
 ∃ a156 : Addr, AQ Tryd.prog (Instr.indexAt 57 (.slice Ax5 lx5 cx5) (.int .i64 n155)) (.pointer ((some a156))) ∧
 HRun Tryd.prog base (Instr.storeAt 4 (.pointer ((some a156))) (.bool true)) H0 fun _ H157 =>
 N1 (.int .i64 ((IntKind.i64.wrap (x8 - 1)))) H157
 else
 N1 (.int .i64 ((IntKind.i64.wrap (x8 - 1)))) H0
def optimize_Optimize.T1 (base : Nat) (N1 : Value → HH → Prop) (x1 x2 x3 : Addr) (Ax4 : Option Addr) (lx4 cx4 : Nat) (Ax5 : Option Addr) (lx5 cx5 : Nat) (x8 : Int) (x9 : Addr) (x11 : Bool) (H0 : HH) (K : Value → HH → Prop) : Prop := optimize_Optimize.S1 base N1 x1 x2 x3 Ax4 lx4 cx4 Ax5 lx5 cx5 x8 x9 x11 H0 K
theorem optimize_Optimize.rest1 {base : Nat} {N1 : Value → HH → Prop} {x1 x2 x3 : Addr} {Ax4 : Option Addr} {lx4 cx4 : Nat} {Ax5 : Option Addr} {lx5 cx5 : Nat} {x8 : Int} {x9 : Addr} {x11 : Bool} {H0 : HH} {K : Value → HH → Prop} (h : optimize_Optimize.S1 base N1 x1 x2 x3 Ax4 lx4 cx4 Ax5 lx5 cx5 x8 x9 x11 H0 K) : optimize_Optimize.R1 base N1 [(.pointer ((some x1))), (.pointer ((some x2))), (.pointer ((some x3))), (.slice Ax4 lx4 cx4), (.slice Ax5 lx5 cx5), (.int .i64 x8), (.pointer ((some x9))), (.bool x11)] H0 K := by
  refine wpCL_sound (ann := optimize_Optimize.ann) mix (fun fr ⟨e1, e2, e3, e4, e5, e8, e9, e11, _⟩ => ?_)
  rw [← ov_eq (g := fr) [(1, (.pointer ((some x1)))), (2, (.pointer ((some x2)))), (3, (.pointer ((some x3)))), (4, (.slice Ax4 lx4 cx4)), (5, (.slice Ax5 lx5 cx5)), (8, (.int .i64 x8)), (9, (.pointer ((some x9)))), (11, (.bool x11))] (by simp only [List.mem_cons, List.not_mem_nil, or_false, forall_eq_or_imp, forall_eq, false_implies, implies_true]; exact ⟨e1, e2, e3, e4, e5, e8, e9, e11⟩)]
  exact cast (show optimize_Optimize.S1 base N1 x1 x2 x3 Ax4 lx4 cx4 Ax5 lx5 cx5 x8 x9 x11 H0 K = wpC Tryd.prog base 194 optimize_Optimize.ann (codeAt [.r, .r, .r, .r, .l, .r, .b, .lp, .r, .l, .b, .r, .r, .r, .r, .r] (bodyOf Tryd.f11)) (ov fr [(1, (.pointer ((some x1)))), (2, (.pointer ((some x2)))), (3, (.pointer ((some x3)))), (4, (.slice Ax4 lx4 cx4)), (5, (.slice Ax5 lx5 cx5)), (8, (.int .i64 x8)), (9, (.pointer ((some x9)))), (11, (.bool x11))]) H0 (qAt Tryd.prog base 194 optimize_Optimize.ann [.r, .r, .r, .r, .l, .r, .b, .lp, .r, .l, .b, .r, .r, .r, .r, .r] [fun fr H => N1 (fr 8) H] (bodyOf Tryd.f11) (retQ Tryd.prog 194 Tryd.f11 K)) by kernel_rfl) h
theorem optimize_Optimize.cut1 {base : Nat} {N1 : Value → HH → Prop} {x1 x2 x3 : Addr} {Ax4 : Option Addr} {lx4 cx4 : Nat} {Ax5 : Option Addr} {lx5 cx5 : Nat} {x8 : Int} {x9 : Addr} {x11 : Bool} {H0 : HH} {K : Value → HH → Prop} (h : optimize_Optimize.T1 base N1 x1 x2 x3 Ax4 lx4 cx4 Ax5 lx5 cx5 x8 x9 x11 H0 K) : optimize_Optimize.R1 base N1 [(.pointer ((some x1))), (.pointer ((some x2))), (.pointer ((some x3))), (.slice Ax4 lx4 cx4), (.slice Ax5 lx5 cx5), (.int .i64 x8), (.pointer ((some x9))), (.bool x11)] H0 K := optimize_Optimize.rest1 h
def optimize_Optimize.S2 (base : Nat) (N2 : Value → HH → Prop) (x1 x2 x3 : Addr) (Ax4 : Option Addr) (lx4 cx4 : Nat) (Ax5 : Option Addr) (lx5 cx5 : Nat) (x12 x13 : Addr) (x14 : Int) (x15 : Addr) (x17 : Bool) (Ax95 : Option Addr) (lx95 cx95 : Nat) (x96 x97 : Int) (H0 : HH) (K : Value → HH → Prop) : Prop :=
 if x17 = true then
 ∃ a158 : Addr, AQ Tryd.prog (Instr.fieldAt 28 (.pointer ((some x13))) 0) (.pointer ((some a158))) ∧
 ∃ (A159 : Option Addr) (l159 c159 : Nat), QRun Tryd.prog (Instr.loadAt 24 (.pointer ((some a158)))) H0 (.slice A159 l159 c159) ∧
 ∃ a160 : Addr, AQ Tryd.prog (Instr.fieldAt 50 (.pointer ((some x15))) 3) (.pointer ((some a160))) ∧
 ∃ n161 : Int, QRun Tryd.prog (Instr.loadAt 3 (.pointer ((some a160)))) H0 (.int .i64 n161) ∧
 ∃ a162 : Addr, AQ Tryd.prog (Instr.indexAt 24 (.slice Ax4 lx4 cx4) (.int .i64 n161)) (.pointer ((some a162))) ∧
 ∃ n163 : Int, QRun Tryd.prog (Instr.loadAt 3 (.pointer ((some a162)))) H0 (.int .i64 n163) ∧
 ∃ a164 : Addr, AQ Tryd.prog (Instr.indexAt 24 (.slice A159 l159 c159) (.int .i64 n163)) (.pointer ((some a164))) ∧
 ∃ n165 : Int, QRun Tryd.prog (Instr.loadAt 3 (.pointer ((some a164)))) H0 (.int .i64 n165) ∧
 ∃ a166 : Addr, AQ Tryd.prog (Instr.fieldAt 50 (.pointer ((some x15))) 3) (.pointer ((some a166))) ∧
 HRun Tryd.prog base (Instr.storeAt 3 (.pointer ((some a166))) (.int .i64 n165)) H0 fun _ H167 =>
 optimize_Optimize.R3 base N2 [(.pointer ((some x1))), (.pointer ((some x2))), (.pointer ((some x3))), (.slice Ax4 lx4 cx4), (.slice Ax5 lx5 cx5), (.pointer ((some x12))), (.pointer ((some x13))), (.int .i64 x14), (.pointer ((some x15))), (.slice Ax95 lx95 cx95), (.int .i64 x96), (.int .i64 x97)] H167 K
 else
 optimize_Optimize.R3 base N2 [(.pointer ((some x1))), (.pointer ((some x2))), (.pointer ((some x3))), (.slice Ax4 lx4 cx4), (.slice Ax5 lx5 cx5), (.pointer ((some x12))), (.pointer ((some x13))), (.int .i64 x14), (.pointer ((some x15))), (.slice Ax95 lx95 cx95), (.int .i64 x96), (.int .i64 x97)] H0 K
def optimize_Optimize.T2 (base : Nat) (N2 : Value → HH → Prop) (x1 x2 x3 : Addr) (Ax4 : Option Addr) (lx4 cx4 : Nat) (Ax5 : Option Addr) (lx5 cx5 : Nat) (x12 x13 : Addr) (x14 : Int) (x15 : Addr) (x17 : Bool) (Ax95 : Option Addr) (lx95 cx95 : Nat) (x96 x97 : Int) (H0 : HH) (K : Value → HH → Prop) : Prop := optimize_Optimize.S2 base N2 x1 x2 x3 Ax4 lx4 cx4 Ax5 lx5 cx5 x12 x13 x14 x15 x17 Ax95 lx95 cx95 x96 x97 H0 K
theorem optimize_Optimize.rest2 {base : Nat} {N2 : Value → HH → Prop} {x1 x2 x3 : Addr} {Ax4 : Option Addr} {lx4 cx4 : Nat} {Ax5 : Option Addr} {lx5 cx5 : Nat} {x12 x13 : Addr} {x14 : Int} {x15 : Addr} {x17 : Bool} {Ax95 : Option Addr} {lx95 cx95 : Nat} {x96 x97 : Int} {H0 : HH} {K : Value → HH → Prop} (h : optimize_Optimize.S2 base N2 x1 x2 x3 Ax4 lx4 cx4 Ax5 lx5 cx5 x12 x13 x14 x15 x17 Ax95 lx95 cx95 x96 x97 H0 K) : optimize_Optimize.R2 base N2 [(.pointer ((some x1))), (.pointer ((some x2))), (.pointer ((some x3))), (.slice Ax4 lx4 cx4), (.slice Ax5 lx5 cx5), (.pointer ((some x12))), (.pointer ((some x13))), (.int .i64 x14), (.pointer ((some x15))), (.bool x17), (.slice Ax95 lx95 cx95), (.int .i64 x96), (.int .i64 x97)] H0 K := by
  refine wpCL_sound (ann := optimize_Optimize.ann) mix (fun fr ⟨e1, e2, e3, e4, e5, e12, e13, e14, e15, e17, e95, e96, e97, _⟩ => ?_)
  rw [← ov_eq (g := fr) [(1, (.pointer ((some x1)))), (2, (.pointer ((some x2)))), (3, (.pointer ((some x3)))), (4, (.slice Ax4 lx4 cx4)), (5, (.slice Ax5 lx5 cx5)), (12, (.pointer ((some x12)))), (13, (.pointer ((some x13)))), (14, (.int .i64 x14)), (15, (.pointer ((some x15)))), (17, (.bool x17)), (95, (.slice Ax95 lx95 cx95)), (96, (.int .i64 x96)), (97, (.int .i64 x97))] (by simp only [List.mem_cons, List.not_mem_nil, or_false, forall_eq_or_imp, forall_eq, false_implies, implies_true]; exact ⟨e1, e2, e3, e4, e5, e12, e13, e14, e15, e17, e95, e96, e97⟩)]
  exact cast (show optimize_Optimize.S2 base N2 x1 x2 x3 Ax4 lx4 cx4 Ax5 lx5 cx5 x12 x13 x14 x15 x17 Ax95 lx95 cx95 x96 x97 H0 K = wpC Tryd.prog base 194 optimize_Optimize.ann (codeAt [.r, .r, .r, .r, .r, .r, .r, .l, .r, .b, .lp, .r, .r, .l, .b, .r, .r, .r, .r, .r, .r] (bodyOf Tryd.f11)) (ov fr [(1, (.pointer ((some x1)))), (2, (.pointer ((some x2)))), (3, (.pointer ((some x3)))), (4, (.slice Ax4 lx4 cx4)), (5, (.slice Ax5 lx5 cx5)), (12, (.pointer ((some x12)))), (13, (.pointer ((some x13)))), (14, (.int .i64 x14)), (15, (.pointer ((some x15)))), (17, (.bool x17)), (95, (.slice Ax95 lx95 cx95)), (96, (.int .i64 x96)), (97, (.int .i64 x97))]) H0 (qAt Tryd.prog base 194 optimize_Optimize.ann [.r, .r, .r, .r, .r, .r, .r, .l, .r, .b, .lp, .r, .r, .l, .b, .r, .r, .r, .r, .r, .r] [fun fr H => N2 (fr 97) H] (bodyOf Tryd.f11) (retQ Tryd.prog 194 Tryd.f11 K)) by kernel_rfl) h
theorem optimize_Optimize.cut2 {base : Nat} {N2 : Value → HH → Prop} {x1 x2 x3 : Addr} {Ax4 : Option Addr} {lx4 cx4 : Nat} {Ax5 : Option Addr} {lx5 cx5 : Nat} {x12 x13 : Addr} {x14 : Int} {x15 : Addr} {x17 : Bool} {Ax95 : Option Addr} {lx95 cx95 : Nat} {x96 x97 : Int} {H0 : HH} {K : Value → HH → Prop} (h : optimize_Optimize.T2 base N2 x1 x2 x3 Ax4 lx4 cx4 Ax5 lx5 cx5 x12 x13 x14 x15 x17 Ax95 lx95 cx95 x96 x97 H0 K) : optimize_Optimize.R2 base N2 [(.pointer ((some x1))), (.pointer ((some x2))), (.pointer ((some x3))), (.slice Ax4 lx4 cx4), (.slice Ax5 lx5 cx5), (.pointer ((some x12))), (.pointer ((some x13))), (.int .i64 x14), (.pointer ((some x15))), (.bool x17), (.slice Ax95 lx95 cx95), (.int .i64 x96), (.int .i64 x97)] H0 K := optimize_Optimize.rest2 h
def optimize_Optimize.S3 (base : Nat) (N2 : Value → HH → Prop) (x1 x2 x3 : Addr) (Ax4 : Option Addr) (lx4 cx4 : Nat) (Ax5 : Option Addr) (lx5 cx5 : Nat) (x12 x13 : Addr) (x14 : Int) (x15 : Addr) (Ax95 : Option Addr) (lx95 cx95 : Nat) (x96 x97 : Int) (H0 : HH) (K : Value → HH → Prop) : Prop :=
 ∃ a168 : Addr, AQ Tryd.prog (Instr.fieldAt 28 (.pointer ((some x13))) 0) (.pointer ((some a168))) ∧
 ∃ (A169 : Option Addr) (l169 c169 : Nat), QRun Tryd.prog (Instr.loadAt 24 (.pointer ((some a168)))) H0 (.slice A169 l169 c169) ∧
 ∃ a170 : Addr, AQ Tryd.prog (Instr.fieldAt 26 (.pointer ((some x12))) 1) (.pointer ((some a170))) ∧
 ∃ (A171 : Option Addr) (l171 c171 : Nat), QRun Tryd.prog (Instr.loadAt 23 (.pointer ((some a170)))) H0 (.slice A171 l171 c171) ∧
 ∃ a172 : Addr, AQ Tryd.prog (Instr.indexAt 24 (.slice A169 l169 c169) (.int .i64 x14)) (.pointer ((some a172))) ∧
 HRun Tryd.prog base (Instr.storeAt 3 (.pointer ((some a172))) (.int .i64 (((l171 : Nat) : Int)))) H0 fun _ H173 =>
 ∃ a174 : Addr, AQ Tryd.prog (Instr.fieldAt 26 (.pointer ((some x12))) 1) (.pointer ((some a174))) ∧
 ∃ (A175 : Option Addr) (l175 c175 : Nat), QRun Tryd.prog (Instr.loadAt 23 (.pointer ((some a174)))) H173 (.slice A175 l175 c175) ∧
 ∃ n176 : Int, ∃ n177 : Int, ∃ n178 : Int, ∃ n179 : Int, ∃ n180 : Int, QRun Tryd.prog (Instr.loadAt 50 (.pointer ((some x15)))) H173 (.agg #[(.int .i64 n176), (.int .i64 n177), (.int .i64 n178), (.int .i64 n179), (.int .u64 n180)]) ∧
 HRun Tryd.prog base (Instr.buildSlice 23 1 #[(0, (.agg #[(.int .i64 n176), (.int .i64 n177), (.int .i64 n178), (.int .i64 n179), (.int .u64 n180)]))]) H173 fun v181 H182 =>
 ∃ (A183 : Option Addr) (l183 c183 : Nat), v181 = (.slice A183 l183 c183) ∧ HRun Tryd.prog base (Builtin.append_ #[23, 23] 23 #[(.slice A175 l175 c175), (.slice A183 l183 c183)]) H182 fun v184 H185 =>
 ∃ (A186 : Option Addr) (l186 c186 : Nat), v184 = (.slice A186 l186 c186) ∧ ∃ a187 : Addr, AQ Tryd.prog (Instr.fieldAt 26 (.pointer ((some x12))) 1) (.pointer ((some a187))) ∧
 HRun Tryd.prog base (Instr.storeAt 23 (.pointer ((some a187))) (.slice A186 l186 c186)) H185 fun _ H188 =>
 N2 (.int .i64 ((IntKind.i64.wrap (x97 + 1)))) H188
def optimize_Optimize.T3 (base : Nat) (N2 : Value → HH → Prop) (x1 x2 x3 : Addr) (Ax4 : Option Addr) (lx4 cx4 : Nat) (Ax5 : Option Addr) (lx5 cx5 : Nat) (x12 x13 : Addr) (x14 : Int) (x15 : Addr) (Ax95 : Option Addr) (lx95 cx95 : Nat) (x96 x97 : Int) (H0 : HH) (K : Value → HH → Prop) : Prop := optimize_Optimize.S3 base N2 x1 x2 x3 Ax4 lx4 cx4 Ax5 lx5 cx5 x12 x13 x14 x15 Ax95 lx95 cx95 x96 x97 H0 K
theorem optimize_Optimize.rest3 {base : Nat} {N2 : Value → HH → Prop} {x1 x2 x3 : Addr} {Ax4 : Option Addr} {lx4 cx4 : Nat} {Ax5 : Option Addr} {lx5 cx5 : Nat} {x12 x13 : Addr} {x14 : Int} {x15 : Addr} {Ax95 : Option Addr} {lx95 cx95 : Nat} {x96 x97 : Int} {H0 : HH} {K : Value → HH → Prop} (h : optimize_Optimize.S3 base N2 x1 x2 x3 Ax4 lx4 cx4 Ax5 lx5 cx5 x12 x13 x14 x15 Ax95 lx95 cx95 x96 x97 H0 K) : optimize_Optimize.R3 base N2 [(.pointer ((some x1))), (.pointer ((some x2))), (.pointer ((some x3))), (.slice Ax4 lx4 cx4), (.slice Ax5 lx5 cx5), (.pointer ((some x12))), (.pointer ((some x13))), (.int .i64 x14), (.pointer ((some x15))), (.slice Ax95 lx95 cx95), (.int .i64 x96), (.int .i64 x97)] H0 K := by
  refine wpCL_sound (ann := optimize_Optimize.ann) mix (fun fr ⟨e1, e2, e3, e4, e5, e12, e13, e14, e15, e95, e96, e97, _⟩ => ?_)
  rw [← ov_eq (g := fr) [(1, (.pointer ((some x1)))), (2, (.pointer ((some x2)))), (3, (.pointer ((some x3)))), (4, (.slice Ax4 lx4 cx4)), (5, (.slice Ax5 lx5 cx5)), (12, (.pointer ((some x12)))), (13, (.pointer ((some x13)))), (14, (.int .i64 x14)), (15, (.pointer ((some x15)))), (95, (.slice Ax95 lx95 cx95)), (96, (.int .i64 x96)), (97, (.int .i64 x97))] (by simp only [List.mem_cons, List.not_mem_nil, or_false, forall_eq_or_imp, forall_eq, false_implies, implies_true]; exact ⟨e1, e2, e3, e4, e5, e12, e13, e14, e15, e95, e96, e97⟩)]
  exact cast (show optimize_Optimize.S3 base N2 x1 x2 x3 Ax4 lx4 cx4 Ax5 lx5 cx5 x12 x13 x14 x15 Ax95 lx95 cx95 x96 x97 H0 K = wpC Tryd.prog base 194 optimize_Optimize.ann (codeAt [.r, .r, .r, .r, .r, .r, .r, .l, .r, .b, .lp, .r, .r, .l, .b, .r, .r, .r, .r, .r, .r, .r] (bodyOf Tryd.f11)) (ov fr [(1, (.pointer ((some x1)))), (2, (.pointer ((some x2)))), (3, (.pointer ((some x3)))), (4, (.slice Ax4 lx4 cx4)), (5, (.slice Ax5 lx5 cx5)), (12, (.pointer ((some x12)))), (13, (.pointer ((some x13)))), (14, (.int .i64 x14)), (15, (.pointer ((some x15)))), (95, (.slice Ax95 lx95 cx95)), (96, (.int .i64 x96)), (97, (.int .i64 x97))]) H0 (qAt Tryd.prog base 194 optimize_Optimize.ann [.r, .r, .r, .r, .r, .r, .r, .l, .r, .b, .lp, .r, .r, .l, .b, .r, .r, .r, .r, .r, .r, .r] [fun fr H => N2 (fr 97) H] (bodyOf Tryd.f11) (retQ Tryd.prog 194 Tryd.f11 K)) by kernel_rfl) h
theorem optimize_Optimize.cut3 {base : Nat} {N2 : Value → HH → Prop} {x1 x2 x3 : Addr} {Ax4 : Option Addr} {lx4 cx4 : Nat} {Ax5 : Option Addr} {lx5 cx5 : Nat} {x12 x13 : Addr} {x14 : Int} {x15 : Addr} {Ax95 : Option Addr} {lx95 cx95 : Nat} {x96 x97 : Int} {H0 : HH} {K : Value → HH → Prop} (h : optimize_Optimize.T3 base N2 x1 x2 x3 Ax4 lx4 cx4 Ax5 lx5 cx5 x12 x13 x14 x15 Ax95 lx95 cx95 x96 x97 H0 K) : optimize_Optimize.R3 base N2 [(.pointer ((some x1))), (.pointer ((some x2))), (.pointer ((some x3))), (.slice Ax4 lx4 cx4), (.slice Ax5 lx5 cx5), (.pointer ((some x12))), (.pointer ((some x13))), (.int .i64 x14), (.pointer ((some x15))), (.slice Ax95 lx95 cx95), (.int .i64 x96), (.int .i64 x97)] H0 K := optimize_Optimize.rest3 h
def optimize_Optimize.sh (base : Nat) (x0_0 : Int) (Ax0_1 : Option Addr) (lx0_1 cx0_1 : Nat) (Ax0_2 : Option Addr) (lx0_2 cx0_2 : Nat) (H0 : HH) (K : Value → HH → Prop) : Prop :=
 HRun Tryd.prog base (Instr.box 26 (.agg #[(.int .u64 x0_0), (.slice Ax0_1 lx0_1 cx0_1), (.slice Ax0_2 lx0_2 cx0_2)])) H0 fun v1 H2 =>
 ∃ a3 : Addr, v1 = (.pointer ((some a3))) ∧ HRun Tryd.prog base (Instr.alloc 26 true (.tuple #[])) H2 fun v4 H5 =>
 ∃ a6 : Addr, v4 = (.pointer ((some a6))) ∧ HRun Tryd.prog base (Instr.alloc 28 true (.tuple #[])) H5 fun v7 H8 =>
 ∃ a9 : Addr, v7 = (.pointer ((some a9))) ∧ ∃ n10 : Int, ∃ (A11 : Option Addr) (l11 c11 : Nat), ∃ (A12 : Option Addr) (l12 c12 : Nat), QRun Tryd.prog (Instr.loadAt 26 (.pointer ((some a3)))) H8 (.agg #[(.int .u64 n10), (.slice A11 l11 c11), (.slice A12 l12 c12)]) ∧
 HCall Tryd.prog base 23 #[(.agg #[(.int .u64 n10), (.slice A11 l11 c11), (.slice A12 l12 c12)])] H8 fun v13 H14 =>
 ∃ (A15 : Option Addr) (l15 c15 : Nat), v13 = (.slice A15 l15 c15) ∧ ∃ a16 : Addr, AQ Tryd.prog (Instr.fieldAt 26 (.pointer ((some a3))) 1) (.pointer ((some a16))) ∧
 ∃ (A17 : Option Addr) (l17 c17 : Nat), QRun Tryd.prog (Instr.loadAt 23 (.pointer ((some a16)))) H14 (.slice A17 l17 c17) ∧
 HRun Tryd.prog base (Instr.makeSlice 57 (.int .i64 (((l17 : Nat) : Int))) (.int .i64 (((l17 : Nat) : Int)))) H14 fun v18 H19 =>
 ∃ (A20 : Option Addr) (l20 c20 : Nat), v18 = (.slice A20 l20 c20) ∧ ∃ a21 : Addr, AQ Tryd.prog (Instr.fieldAt 26 (.pointer ((some a3))) 2) (.pointer ((some a21))) ∧
 ∃ (A22 : Option Addr) (l22 c22 : Nat), QRun Tryd.prog (Instr.loadAt 24 (.pointer ((some a21)))) H19 (.slice A22 l22 c22) ∧
 optimize_Optimize.P0 base [(.pointer ((some a3))), (.pointer ((some a6))), (.pointer ((some a9))), (.slice A15 l15 c15), (.slice A20 l20 c20), (.slice A22 l22 c22), (.int .i64 (((l22 : Nat) : Int))), (.int .i64 0)] H19 K
theorem optimize_Optimize.spec {base : Nat} {x0_0 : Int} {Ax0_1 : Option Addr} {lx0_1 cx0_1 : Nat} {Ax0_2 : Option Addr} {lx0_2 cx0_2 : Nat} {H0 : HH} {K : Value → HH → Prop} (h : optimize_Optimize.sh base x0_0 Ax0_1 lx0_1 cx0_1 Ax0_2 lx0_2 cx0_2 H0 K) : HCall Tryd.prog base 11 #[(.agg #[(.int .u64 x0_0), (.slice Ax0_1 lx0_1 cx0_1), (.slice Ax0_2 lx0_2 cx0_2)])] H0 K := spec_of_wpC (n := 194) (ann := optimize_Optimize.ann) mix Tryd.func11 (by kernel_rfl) (cast (show optimize_Optimize.sh base x0_0 Ax0_1 lx0_1 cx0_1 Ax0_2 lx0_2 cx0_2 H0 K = wpC Tryd.prog base 194 optimize_Optimize.ann (bodyOf Tryd.f11) (ofL [(.agg #[(.int .u64 x0_0), (.slice Ax0_1 lx0_1 cx0_1), (.slice Ax0_2 lx0_2 cx0_2)])]) H0 (retQ Tryd.prog 194 Tryd.f11 K) by kernel_rfl) h)
def optimize_Optimize.B0 (base : Nat) (x1 x2 x3 : Addr) (Ax4 : Option Addr) (lx4 cx4 : Nat) (Ax5 : Option Addr) (lx5 cx5 : Nat) (Ax27 : Option Addr) (lx27 cx27 : Nat) (x28 : Int) (y29 : Int) (g : Fr) (N0 : Value → HH → Prop) (H0 : HH) (K : Value → HH → Prop) : Prop :=
 if (decide ((y29 : Int) < x28)) = true then
 ∃ a23 : Addr, AQ Tryd.prog (Instr.indexAt 24 (.slice Ax27 lx27 cx27) (.int .i64 y29)) (.pointer ((some a23))) ∧
 ∃ n24 : Int, QRun Tryd.prog (Instr.loadAt 3 (.pointer ((some a23)))) H0 (.int .i64 n24) ∧
 ∃ a25 : Addr, AQ Tryd.prog (Instr.indexAt 24 (.slice Ax4 lx4 cx4) (.int .i64 n24)) (.pointer ((some a25))) ∧
 ∃ n26 : Int, QRun Tryd.prog (Instr.loadAt 3 (.pointer ((some a25)))) H0 (.int .i64 n26) ∧
 ∃ a27 : Addr, AQ Tryd.prog (Instr.indexAt 57 (.slice Ax5 lx5 cx5) (.int .i64 n26)) (.pointer ((some a27))) ∧
 HRun Tryd.prog base (Instr.storeAt 4 (.pointer ((some a27))) (.bool true)) H0 fun _ H28 =>
 N0 (.int .i64 ((IntKind.i64.wrap (y29 + 1)))) H28
 else
 ∃ a29 : Addr, AQ Tryd.prog (Instr.fieldAt 26 (.pointer ((some x1))) 1) (.pointer ((some a29))) ∧
 ∃ (A30 : Option Addr) (l30 c30 : Nat), QRun Tryd.prog (Instr.loadAt 23 (.pointer ((some a29)))) H0 (.slice A30 l30 c30) ∧
 optimize_Optimize.P1 base [(.pointer ((some x1))), (.pointer ((some x2))), (.pointer ((some x3))), (.slice Ax4 lx4 cx4), (.slice Ax5 lx5 cx5), (.int .i64 ((IntKind.i64.wrap ((((l30 : Nat) : Int)) - 1))))] H0 K
theorem optimize_Optimize.loop0 {base : Nat} {x1 x2 x3 : Addr} {Ax4 : Option Addr} {lx4 cx4 : Nat} {Ax5 : Option Addr} {lx5 cx5 : Nat} {Ax27 : Option Addr} {lx27 cx27 : Nat} {x28 y29_i : Int} {H0 : HH} {K : Value → HH → Prop} (J : Nat → Int → HH → Prop) (n : Nat) (h0 : J n y29_i H0)
    (hs : ∀ (n : Nat) (y29 : Int) (g : Fr) (H0 : HH), J n y29 H0 → optimize_Optimize.B0 base x1 x2 x3 Ax4 lx4 cx4 Ax5 lx5 cx5 Ax27 lx27 cx27 x28 y29 g (fun w29 H => ∃ n', n' < n ∧ ∃ (y29' : Int), w29 = (.int .i64 y29') ∧ J n' y29' H) H0 K) : optimize_Optimize.P0 base [(.pointer ((some x1))), (.pointer ((some x2))), (.pointer ((some x3))), (.slice Ax4 lx4 cx4), (.slice Ax5 lx5 cx5), (.slice Ax27 lx27 cx27), (.int .i64 x28), (.int .i64 y29_i)] H0 K := by
  refine loop_rule (ann := optimize_Optimize.ann) (body := codeAt [.r, .r, .r, .l, .r, .b, .lp] (bodyOf Tryd.f11)) mix (by kernel_rfl) 1098974756992 (by kernel_rfl) [1, 2, 3, 4, 5, 27, 28] [(.pointer ((some x1))), (.pointer ((some x2))), (.pointer ((some x3))), (.slice Ax4 lx4 cx4), (.slice Ax5 lx5 cx5), (.slice Ax27 lx27 cx27), (.int .i64 x28)] (by kernel_rfl) (fun fr ⟨e1, e2, e3, e4, e5, e27, e28, e29, _⟩ => ⟨e1, e2, e3, e4, e5, e27, e28, trivial⟩) (fun n g H => ∃ (y29 : Int), g 29 = (.int .i64 y29) ∧ J n y29 H) n (fun fr ⟨e1, e2, e3, e4, e5, e27, e28, e29, _⟩ => ⟨y29_i, e29, h0⟩) ?_
  rintro n g H0 ⟨e1, e2, e3, e4, e5, e27, e28, _⟩ ⟨y29, e29, hJ⟩
  rw [← ov_eq (g := g) [(1, (.pointer ((some x1)))), (2, (.pointer ((some x2)))), (3, (.pointer ((some x3)))), (4, (.slice Ax4 lx4 cx4)), (5, (.slice Ax5 lx5 cx5)), (27, (.slice Ax27 lx27 cx27)), (28, (.int .i64 x28)), (29, (.int .i64 y29))] (by simp only [List.mem_cons, List.not_mem_nil, or_false, forall_eq_or_imp, forall_eq, false_implies, implies_true]; exact ⟨e1, e2, e3, e4, e5, e27, e28, e29⟩)]
  have key : ∀ NN : Value → HH → Prop, optimize_Optimize.B0 base x1 x2 x3 Ax4 lx4 cx4 Ax5 lx5 cx5 Ax27 lx27 cx27 x28 y29 g NN H0 K = wpC Tryd.prog base 194 optimize_Optimize.ann (codeAt [.r, .r, .r, .l, .r, .b, .lp] (bodyOf Tryd.f11)) (ov g [(1, (.pointer ((some x1)))), (2, (.pointer ((some x2)))), (3, (.pointer ((some x3)))), (4, (.slice Ax4 lx4 cx4)), (5, (.slice Ax5 lx5 cx5)), (27, (.slice Ax27 lx27 cx27)), (28, (.int .i64 x28)), (29, (.int .i64 y29))]) H0 (thenQ (fun fr H => NN (fr 29) H) (qAt Tryd.prog base 194 optimize_Optimize.ann [.r, .r, .r, .l, .r, .b] [] (bodyOf Tryd.f11) (retQ Tryd.prog 194 Tryd.f11 K))) := fun NN => by kernel_rfl
  refine cast ?_ (hs n y29 g H0 hJ)
  refine (key (fun w29 H => ∃ n', n' < n ∧ ∃ (y29' : Int), w29 = (.int .i64 y29') ∧ J n' y29' H)).trans ?_
  kernel_rfl
def optimize_Optimize.B1 (base : Nat) (x1 x2 x3 : Addr) (Ax4 : Option Addr) (lx4 cx4 : Nat) (Ax5 : Option Addr) (lx5 cx5 : Nat) (y8 : Int) (g : Fr) (N1 : Value → HH → Prop) (H0 : HH) (K : Value → HH → Prop) : Prop :=
 if (decide ((y8 : Int) ≥ 0)) = true then
 ∃ a31 : Addr, AQ Tryd.prog (Instr.fieldAt 26 (.pointer ((some x1))) 1) (.pointer ((some a31))) ∧
 ∃ (A32 : Option Addr) (l32 c32 : Nat), QRun Tryd.prog (Instr.loadAt 23 (.pointer ((some a31)))) H0 (.slice A32 l32 c32) ∧
 ∃ a33 : Addr, AQ Tryd.prog (Instr.indexAt 23 (.slice A32 l32 c32) (.int .i64 y8)) (.pointer ((some a33))) ∧
 ∃ n34 : Int, ∃ n35 : Int, ∃ n36 : Int, ∃ n37 : Int, ∃ n38 : Int, QRun Tryd.prog (Instr.loadAt 50 (.pointer ((some a33)))) H0 (.agg #[(.int .i64 n34), (.int .i64 n35), (.int .i64 n36), (.int .i64 n37), (.int .u64 n38)]) ∧
 HRun Tryd.prog base (Instr.alloc 50 true (.tuple #[])) H0 fun v39 H40 =>
 ∃ a41 : Addr, v39 = (.pointer ((some a41))) ∧ HRun Tryd.prog base (Instr.storeAt 50 (.pointer ((some a41))) (.agg #[(.int .i64 n34), (.int .i64 n35), (.int .i64 n36), (.int .i64 n37), (.int .u64 n38)])) H40 fun _ H42 =>
 ∃ a43 : Addr, AQ Tryd.prog (Instr.fieldAt 50 (.pointer ((some a41))) 0) (.pointer ((some a43))) ∧
 ∃ n44 : Int, QRun Tryd.prog (Instr.loadAt 3 (.pointer ((some a43)))) H42 (.int .i64 n44) ∧
 if ((n44 : Int) == 1) = true then
 ∃ a45 : Addr, AQ Tryd.prog (Instr.indexAt 57 (.slice Ax5 lx5 cx5) (.int .i64 y8)) (.pointer ((some a45))) ∧
 HRun Tryd.prog base (Instr.storeAt 4 (.pointer ((some a45))) (.bool true)) H42 fun _ H46 =>
 optimize_Optimize.R0 base N1 [(.pointer ((some x1))), (.pointer ((some x2))), (.pointer ((some x3))), (.slice Ax4 lx4 cx4), (.slice Ax5 lx5 cx5), (.int .i64 y8), (.pointer ((some a41)))] H46 K
 else
 optimize_Optimize.R0 base N1 [(.pointer ((some x1))), (.pointer ((some x2))), (.pointer ((some x3))), (.slice Ax4 lx4 cx4), (.slice Ax5 lx5 cx5), (.int .i64 y8), (.pointer ((some a41)))] H42 K
 else
 ∃ a47 : Addr, AQ Tryd.prog (Instr.fieldAt 26 (.pointer ((some x1))) 0) (.pointer ((some a47))) ∧
 ∃ n48 : Int, QRun Tryd.prog (Instr.loadAt 22 (.pointer ((some a47)))) H0 (.int .u64 n48) ∧
 ∃ n49 : Int, ∃ (A50 : Option Addr) (l50 c50 : Nat), ∃ (A51 : Option Addr) (l51 c51 : Nat), AQ Tryd.prog (Instr.build 26 #[(0, (.int .u64 n48))]) (.agg #[(.int .u64 n49), (.slice A50 l50 c50), (.slice A51 l51 c51)]) ∧
 HRun Tryd.prog base (Instr.alloc 26 true (.tuple #[])) H0 fun v52 H53 =>
 ∃ a54 : Addr, v52 = (.pointer ((some a54))) ∧ HRun Tryd.prog base (Instr.storeAt 26 (.pointer ((some a54))) (.agg #[(.int .u64 n49), (.slice A50 l50 c50), (.slice A51 l51 c51)])) H53 fun _ H55 =>
 ∃ a56 : Addr, AQ Tryd.prog (Instr.fieldAt 26 (.pointer ((some x1))) 1) (.pointer ((some a56))) ∧
 ∃ (A57 : Option Addr) (l57 c57 : Nat), QRun Tryd.prog (Instr.loadAt 23 (.pointer ((some a56)))) H55 (.slice A57 l57 c57) ∧
 HRun Tryd.prog base (Instr.makeSlice 24 (.int .i64 (((l57 : Nat) : Int))) (.int .i64 (((l57 : Nat) : Int)))) H55 fun v58 H59 =>
 ∃ (A60 : Option Addr) (l60 c60 : Nat), v58 = (.slice A60 l60 c60) ∧ ∃ (A61 : Option Addr) (l61 c61 : Nat), AQ Tryd.prog (Instr.build 28 #[(0, (.slice A60 l60 c60))]) (.agg #[(.slice A61 l61 c61)]) ∧
 HRun Tryd.prog base (Instr.alloc 28 true (.tuple #[])) H59 fun v62 H63 =>
 ∃ a64 : Addr, v62 = (.pointer ((some a64))) ∧ HRun Tryd.prog base (Instr.storeAt 28 (.pointer ((some a64))) (.agg #[(.slice A61 l61 c61)])) H63 fun _ H65 =>
 ∃ a66 : Addr, AQ Tryd.prog (Instr.fieldAt 26 (.pointer ((some x1))) 1) (.pointer ((some a66))) ∧
 ∃ (A67 : Option Addr) (l67 c67 : Nat), QRun Tryd.prog (Instr.loadAt 23 (.pointer ((some a66)))) H65 (.slice A67 l67 c67) ∧
 optimize_Optimize.P2 base [(.pointer ((some x1))), (.pointer ((some x2))), (.pointer ((some x3))), (.slice Ax4 lx4 cx4), (.slice Ax5 lx5 cx5), (.pointer ((some a54))), (.pointer ((some a64))), (.slice A67 l67 c67), (.int .i64 (((l67 : Nat) : Int))), (.int .i64 0)] H65 K
theorem optimize_Optimize.loop1 {base : Nat} {x1 x2 x3 : Addr} {Ax4 : Option Addr} {lx4 cx4 : Nat} {Ax5 : Option Addr} {lx5 cx5 : Nat} {y8_i : Int} {H0 : HH} {K : Value → HH → Prop} (J : Nat → Int → HH → Prop) (n : Nat) (h0 : J n y8_i H0)
    (hs : ∀ (n : Nat) (y8 : Int) (g : Fr) (H0 : HH), J n y8 H0 → optimize_Optimize.B1 base x1 x2 x3 Ax4 lx4 cx4 Ax5 lx5 cx5 y8 g (fun w8 H => ∃ n', n' < n ∧ ∃ (y8' : Int), w8 = (.int .i64 y8') ∧ J n' y8' H) H0 K) : optimize_Optimize.P1 base [(.pointer ((some x1))), (.pointer ((some x2))), (.pointer ((some x3))), (.slice Ax4 lx4 cx4), (.slice Ax5 lx5 cx5), (.int .i64 y8_i)] H0 K := by
  refine loop_rule (ann := optimize_Optimize.ann) (body := codeAt [.r, .r, .r, .r, .l, .r, .b, .lp] (bodyOf Tryd.f11)) mix (by kernel_rfl) 77371252455318674995154688 (by kernel_rfl) [1, 2, 3, 4, 5] [(.pointer ((some x1))), (.pointer ((some x2))), (.pointer ((some x3))), (.slice Ax4 lx4 cx4), (.slice Ax5 lx5 cx5)] (by kernel_rfl) (fun fr ⟨e1, e2, e3, e4, e5, e8, _⟩ => ⟨e1, e2, e3, e4, e5, trivial⟩) (fun n g H => ∃ (y8 : Int), g 8 = (.int .i64 y8) ∧ J n y8 H) n (fun fr ⟨e1, e2, e3, e4, e5, e8, _⟩ => ⟨y8_i, e8, h0⟩) ?_
  rintro n g H0 ⟨e1, e2, e3, e4, e5, _⟩ ⟨y8, e8, hJ⟩
  rw [← ov_eq (g := g) [(1, (.pointer ((some x1)))), (2, (.pointer ((some x2)))), (3, (.pointer ((some x3)))), (4, (.slice Ax4 lx4 cx4)), (5, (.slice Ax5 lx5 cx5)), (8, (.int .i64 y8))] (by simp only [List.mem_cons, List.not_mem_nil, or_false, forall_eq_or_imp, forall_eq, false_implies, implies_true]; exact ⟨e1, e2, e3, e4, e5, e8⟩)]
  have key : ∀ NN : Value → HH → Prop, optimize_Optimize.B1 base x1 x2 x3 Ax4 lx4 cx4 Ax5 lx5 cx5 y8 g NN H0 K = wpC Tryd.prog base 194 optimize_Optimize.ann (codeAt [.r, .r, .r, .r, .l, .r, .b, .lp] (bodyOf Tryd.f11)) (ov g [(1, (.pointer ((some x1)))), (2, (.pointer ((some x2)))), (3, (.pointer ((some x3)))), (4, (.slice Ax4 lx4 cx4)), (5, (.slice Ax5 lx5 cx5)), (8, (.int .i64 y8))]) H0 (thenQ (fun fr H => NN (fr 8) H) (qAt Tryd.prog base 194 optimize_Optimize.ann [.r, .r, .r, .r, .l, .r, .b] [] (bodyOf Tryd.f11) (retQ Tryd.prog 194 Tryd.f11 K))) := fun NN => by kernel_rfl
  refine cast ?_ (hs n y8 g H0 hJ)
  refine (key (fun w8 H => ∃ n', n' < n ∧ ∃ (y8' : Int), w8 = (.int .i64 y8') ∧ J n' y8' H)).trans ?_
  kernel_rfl
def optimize_Optimize.B2 (base : Nat) (x1 x2 x3 : Addr) (Ax4 : Option Addr) (lx4 cx4 : Nat) (Ax5 : Option Addr) (lx5 cx5 : Nat) (x12 x13 : Addr) (Ax95 : Option Addr) (lx95 cx95 : Nat) (x96 : Int) (y97 : Int) (g : Fr) (N2 : Value → HH → Prop) (H0 : HH) (K : Value → HH → Prop) : Prop :=
 if (decide ((y97 : Int) < x96)) = true then
 ∃ a68 : Addr, AQ Tryd.prog (Instr.indexAt 23 (.slice Ax95 lx95 cx95) (.int .i64 y97)) (.pointer ((some a68))) ∧
 ∃ n69 : Int, ∃ n70 : Int, ∃ n71 : Int, ∃ n72 : Int, ∃ n73 : Int, QRun Tryd.prog (Instr.loadAt 50 (.pointer ((some a68)))) H0 (.agg #[(.int .i64 n69), (.int .i64 n70), (.int .i64 n71), (.int .i64 n72), (.int .u64 n73)]) ∧
 HRun Tryd.prog base (Instr.alloc 50 true (.tuple #[])) H0 fun v74 H75 =>
 ∃ a76 : Addr, v74 = (.pointer ((some a76))) ∧ HRun Tryd.prog base (Instr.storeAt 50 (.pointer ((some a76))) (.agg #[(.int .i64 n69), (.int .i64 n70), (.int .i64 n71), (.int .i64 n72), (.int .u64 n73)])) H75 fun _ H77 =>
 ∃ a78 : Addr, AQ Tryd.prog (Instr.fieldAt 28 (.pointer ((some x13))) 0) (.pointer ((some a78))) ∧
 ∃ (A79 : Option Addr) (l79 c79 : Nat), QRun Tryd.prog (Instr.loadAt 24 (.pointer ((some a78)))) H77 (.slice A79 l79 c79) ∧
 ∃ a80 : Addr, AQ Tryd.prog (Instr.indexAt 24 (.slice A79 l79 c79) (.int .i64 y97)) (.pointer ((some a80))) ∧
 HRun Tryd.prog base (Instr.storeAt 3 (.pointer ((some a80))) (.int .i64 ((-1)))) H77 fun _ H81 =>
 ∃ a82 : Addr, AQ Tryd.prog (Instr.indexAt 24 (.slice Ax4 lx4 cx4) (.int .i64 y97)) (.pointer ((some a82))) ∧
 ∃ n83 : Int, QRun Tryd.prog (Instr.loadAt 3 (.pointer ((some a82)))) H81 (.int .i64 n83) ∧
 ∃ a84 : Addr, AQ Tryd.prog (Instr.indexAt 57 (.slice Ax5 lx5 cx5) (.int .i64 n83)) (.pointer ((some a84))) ∧
 ∃ b85 : Bool, QRun Tryd.prog (Instr.loadAt 4 (.pointer ((some a84)))) H81 (.bool b85) ∧
 if (!b85) = true then
 N2 (.int .i64 ((IntKind.i64.wrap (y97 + 1)))) H81
 else
 ∃ a86 : Addr, AQ Tryd.prog (Instr.indexAt 24 (.slice Ax4 lx4 cx4) (.int .i64 y97)) (.pointer ((some a86))) ∧
 ∃ n87 : Int, QRun Tryd.prog (Instr.loadAt 3 (.pointer ((some a86)))) H81 (.int .i64 n87) ∧
 if ((n87 : Int) != y97) = true then
 ∃ a88 : Addr, AQ Tryd.prog (Instr.fieldAt 28 (.pointer ((some x13))) 0) (.pointer ((some a88))) ∧
 ∃ (A89 : Option Addr) (l89 c89 : Nat), QRun Tryd.prog (Instr.loadAt 24 (.pointer ((some a88)))) H81 (.slice A89 l89 c89) ∧
 ∃ a90 : Addr, AQ Tryd.prog (Instr.fieldAt 28 (.pointer ((some x13))) 0) (.pointer ((some a90))) ∧
 ∃ (A91 : Option Addr) (l91 c91 : Nat), QRun Tryd.prog (Instr.loadAt 24 (.pointer ((some a90)))) H81 (.slice A91 l91 c91) ∧
 ∃ a92 : Addr, AQ Tryd.prog (Instr.indexAt 24 (.slice Ax4 lx4 cx4) (.int .i64 y97)) (.pointer ((some a92))) ∧
 ∃ n93 : Int, QRun Tryd.prog (Instr.loadAt 3 (.pointer ((some a92)))) H81 (.int .i64 n93) ∧
 ∃ a94 : Addr, AQ Tryd.prog (Instr.indexAt 24 (.slice A91 l91 c91) (.int .i64 n93)) (.pointer ((some a94))) ∧
 ∃ n95 : Int, QRun Tryd.prog (Instr.loadAt 3 (.pointer ((some a94)))) H81 (.int .i64 n95) ∧
 ∃ a96 : Addr, AQ Tryd.prog (Instr.indexAt 24 (.slice A89 l89 c89) (.int .i64 y97)) (.pointer ((some a96))) ∧
 HRun Tryd.prog base (Instr.storeAt 3 (.pointer ((some a96))) (.int .i64 n95)) H81 fun _ H97 =>
 N2 (.int .i64 ((IntKind.i64.wrap (y97 + 1)))) H97
 else
 ∃ a98 : Addr, AQ Tryd.prog (Instr.fieldAt 50 (.pointer ((some a76))) 0) (.pointer ((some a98))) ∧
 ∃ n99 : Int, QRun Tryd.prog (Instr.loadAt 3 (.pointer ((some a98)))) H81 (.int .i64 n99) ∧
 HCall Tryd.prog base 24 #[(.int .i64 n99)] H81 fun v100 H101 =>
 ∃ b102 : Bool, ∃ b103 : Bool, v100 = (.tuple #[(.bool b102), (.bool b103)]) ∧ if b102 = true then
 ∃ a104 : Addr, AQ Tryd.prog (Instr.fieldAt 28 (.pointer ((some x13))) 0) (.pointer ((some a104))) ∧
 ∃ (A105 : Option Addr) (l105 c105 : Nat), QRun Tryd.prog (Instr.loadAt 24 (.pointer ((some a104)))) H101 (.slice A105 l105 c105) ∧
 ∃ a106 : Addr, AQ Tryd.prog (Instr.fieldAt 50 (.pointer ((some a76))) 2) (.pointer ((some a106))) ∧
 ∃ n107 : Int, QRun Tryd.prog (Instr.loadAt 3 (.pointer ((some a106)))) H101 (.int .i64 n107) ∧
 ∃ a108 : Addr, AQ Tryd.prog (Instr.indexAt 24 (.slice Ax4 lx4 cx4) (.int .i64 n107)) (.pointer ((some a108))) ∧
 ∃ n109 : Int, QRun Tryd.prog (Instr.loadAt 3 (.pointer ((some a108)))) H101 (.int .i64 n109) ∧
 ∃ a110 : Addr, AQ Tryd.prog (Instr.indexAt 24 (.slice A105 l105 c105) (.int .i64 n109)) (.pointer ((some a110))) ∧
 ∃ n111 : Int, QRun Tryd.prog (Instr.loadAt 3 (.pointer ((some a110)))) H101 (.int .i64 n111) ∧
 ∃ a112 : Addr, AQ Tryd.prog (Instr.fieldAt 50 (.pointer ((some a76))) 2) (.pointer ((some a112))) ∧
 HRun Tryd.prog base (Instr.storeAt 3 (.pointer ((some a112))) (.int .i64 n111)) H101 fun _ H113 =>
 optimize_Optimize.R2 base N2 [(.pointer ((some x1))), (.pointer ((some x2))), (.pointer ((some x3))), (.slice Ax4 lx4 cx4), (.slice Ax5 lx5 cx5), (.pointer ((some x12))), (.pointer ((some x13))), (.int .i64 y97), (.pointer ((some a76))), (.bool b103), (.slice Ax95 lx95 cx95), (.int .i64 x96), (.int .i64 y97)] H113 K
 else
 optimize_Optimize.R2 base N2 [(.pointer ((some x1))), (.pointer ((some x2))), (.pointer ((some x3))), (.slice Ax4 lx4 cx4), (.slice Ax5 lx5 cx5), (.pointer ((some x12))), (.pointer ((some x13))), (.int .i64 y97), (.pointer ((some a76))), (.bool b103), (.slice Ax95 lx95 cx95), (.int .i64 x96), (.int .i64 y97)] H101 K
 else
 ∃ a114 : Addr, AQ Tryd.prog (Instr.fieldAt 26 (.pointer ((some x1))) 2) (.pointer ((some a114))) ∧
 ∃ (A115 : Option Addr) (l115 c115 : Nat), QRun Tryd.prog (Instr.loadAt 24 (.pointer ((some a114)))) H0 (.slice A115 l115 c115) ∧
 optimize_Optimize.P3 base [(.pointer ((some x2))), (.pointer ((some x3))), (.pointer ((some x12))), (.pointer ((some x13))), (.slice A115 l115 c115), (.int .i64 (((l115 : Nat) : Int))), (.int .i64 0)] H0 K
theorem optimize_Optimize.loop2 {base : Nat} {x1 x2 x3 : Addr} {Ax4 : Option Addr} {lx4 cx4 : Nat} {Ax5 : Option Addr} {lx5 cx5 : Nat} {x12 x13 : Addr} {Ax95 : Option Addr} {lx95 cx95 : Nat} {x96 y97_i : Int} {H0 : HH} {K : Value → HH → Prop} (J : Nat → Int → HH → Prop) (n : Nat) (h0 : J n y97_i H0)
    (hs : ∀ (n : Nat) (y97 : Int) (g : Fr) (H0 : HH), J n y97 H0 → optimize_Optimize.B2 base x1 x2 x3 Ax4 lx4 cx4 Ax5 lx5 cx5 x12 x13 Ax95 lx95 cx95 x96 y97 g (fun w97 H => ∃ n', n' < n ∧ ∃ (y97' : Int), w97 = (.int .i64 y97') ∧ J n' y97' H) H0 K) : optimize_Optimize.P2 base [(.pointer ((some x1))), (.pointer ((some x2))), (.pointer ((some x3))), (.slice Ax4 lx4 cx4), (.slice Ax5 lx5 cx5), (.pointer ((some x12))), (.pointer ((some x13))), (.slice Ax95 lx95 cx95), (.int .i64 x96), (.int .i64 y97_i)] H0 K := by
  refine loop_rule (ann := optimize_Optimize.ann) (body := codeAt [.r, .r, .r, .r, .r, .r, .r, .l, .r, .b, .lp] (bodyOf Tryd.f11)) mix (by kernel_rfl) 23945242826029513411849013842898552465367611696463872 (by kernel_rfl) [1, 2, 3, 4, 5, 12, 13, 95, 96] [(.pointer ((some x1))), (.pointer ((some x2))), (.pointer ((some x3))), (.slice Ax4 lx4 cx4), (.slice Ax5 lx5 cx5), (.pointer ((some x12))), (.pointer ((some x13))), (.slice Ax95 lx95 cx95), (.int .i64 x96)] (by kernel_rfl) (fun fr ⟨e1, e2, e3, e4, e5, e12, e13, e95, e96, e97, _⟩ => ⟨e1, e2, e3, e4, e5, e12, e13, e95, e96, trivial⟩) (fun n g H => ∃ (y97 : Int), g 97 = (.int .i64 y97) ∧ J n y97 H) n (fun fr ⟨e1, e2, e3, e4, e5, e12, e13, e95, e96, e97, _⟩ => ⟨y97_i, e97, h0⟩) ?_
  rintro n g H0 ⟨e1, e2, e3, e4, e5, e12, e13, e95, e96, _⟩ ⟨y97, e97, hJ⟩
  rw [← ov_eq (g := g) [(1, (.pointer ((some x1)))), (2, (.pointer ((some x2)))), (3, (.pointer ((some x3)))), (4, (.slice Ax4 lx4 cx4)), (5, (.slice Ax5 lx5 cx5)), (12, (.pointer ((some x12)))), (13, (.pointer ((some x13)))), (95, (.slice Ax95 lx95 cx95)), (96, (.int .i64 x96)), (97, (.int .i64 y97))] (by simp only [List.mem_cons, List.not_mem_nil, or_false, forall_eq_or_imp, forall_eq, false_implies, implies_true]; exact ⟨e1, e2, e3, e4, e5, e12, e13, e95, e96, e97⟩)]
  have key : ∀ NN : Value → HH → Prop, optimize_Optimize.B2 base x1 x2 x3 Ax4 lx4 cx4 Ax5 lx5 cx5 x12 x13 Ax95 lx95 cx95 x96 y97 g NN H0 K = wpC Tryd.prog base 194 optimize_Optimize.ann (codeAt [.r, .r, .r, .r, .r, .r, .r, .l, .r, .b, .lp] (bodyOf Tryd.f11)) (ov g [(1, (.pointer ((some x1)))), (2, (.pointer ((some x2)))), (3, (.pointer ((some x3)))), (4, (.slice Ax4 lx4 cx4)), (5, (.slice Ax5 lx5 cx5)), (12, (.pointer ((some x12)))), (13, (.pointer ((some x13)))), (95, (.slice Ax95 lx95 cx95)), (96, (.int .i64 x96)), (97, (.int .i64 y97))]) H0 (thenQ (fun fr H => NN (fr 97) H) (qAt Tryd.prog base 194 optimize_Optimize.ann [.r, .r, .r, .r, .r, .r, .r, .l, .r, .b] [] (bodyOf Tryd.f11) (retQ Tryd.prog 194 Tryd.f11 K))) := fun NN => by kernel_rfl
  refine cast ?_ (hs n y97 g H0 hJ)
  refine (key (fun w97 H => ∃ n', n' < n ∧ ∃ (y97' : Int), w97 = (.int .i64 y97') ∧ J n' y97' H)).trans ?_
  kernel_rfl
def optimize_Optimize.B3 (base : Nat) (x2 x3 x12 x13 : Addr) (Ax175 : Option Addr) (lx175 cx175 : Nat) (x176 : Int) (y177 : Int) (g : Fr) (N3 : Value → HH → Prop) (H0 : HH) (K : Value → HH → Prop) : Prop :=
 if (decide ((y177 : Int) < x176)) = true then
 ∃ a116 : Addr, AQ Tryd.prog (Instr.indexAt 24 (.slice Ax175 lx175 cx175) (.int .i64 y177)) (.pointer ((some a116))) ∧
 ∃ n117 : Int, QRun Tryd.prog (Instr.loadAt 3 (.pointer ((some a116)))) H0 (.int .i64 n117) ∧
 ∃ a118 : Addr, AQ Tryd.prog (Instr.fieldAt 26 (.pointer ((some x12))) 2) (.pointer ((some a118))) ∧
 ∃ (A119 : Option Addr) (l119 c119 : Nat), QRun Tryd.prog (Instr.loadAt 24 (.pointer ((some a118)))) H0 (.slice A119 l119 c119) ∧
 ∃ a120 : Addr, AQ Tryd.prog (Instr.fieldAt 28 (.pointer ((some x13))) 0) (.pointer ((some a120))) ∧
 ∃ (A121 : Option Addr) (l121 c121 : Nat), QRun Tryd.prog (Instr.loadAt 24 (.pointer ((some a120)))) H0 (.slice A121 l121 c121) ∧
 ∃ a122 : Addr, AQ Tryd.prog (Instr.indexAt 24 (.slice A121 l121 c121) (.int .i64 n117)) (.pointer ((some a122))) ∧
 ∃ n123 : Int, QRun Tryd.prog (Instr.loadAt 3 (.pointer ((some a122)))) H0 (.int .i64 n123) ∧
 HRun Tryd.prog base (Instr.buildSlice 24 1 #[(0, (.int .i64 n123))]) H0 fun v124 H125 =>
 ∃ (A126 : Option Addr) (l126 c126 : Nat), v124 = (.slice A126 l126 c126) ∧ QRun Tryd.prog (Instr.loadAt 24 (.pointer ((some a118)))) H125 (.slice A119 l119 c119) ∧
 HRun Tryd.prog base (Builtin.append_ #[24, 24] 24 #[(.slice A119 l119 c119), (.slice A126 l126 c126)]) H125 fun v127 H128 =>
 ∃ (A129 : Option Addr) (l129 c129 : Nat), v127 = (.slice A129 l129 c129) ∧ ∃ a130 : Addr, AQ Tryd.prog (Instr.fieldAt 26 (.pointer ((some x12))) 2) (.pointer ((some a130))) ∧
 HRun Tryd.prog base (Instr.storeAt 24 (.pointer ((some a130))) (.slice A129 l129 c129)) H128 fun _ H131 =>
 N3 (.int .i64 ((IntKind.i64.wrap (y177 + 1)))) H131
 else
 ∃ n132 : Int, ∃ (A133 : Option Addr) (l133 c133 : Nat), ∃ (A134 : Option Addr) (l134 c134 : Nat), QRun Tryd.prog (Instr.loadAt 26 (.pointer ((some x12)))) H0 (.agg #[(.int .u64 n132), (.slice A133 l133 c133), (.slice A134 l134 c134)]) ∧
 ∃ (A135 : Option Addr) (l135 c135 : Nat), QRun Tryd.prog (Instr.loadAt 28 (.pointer ((some x13)))) H0 (.agg #[(.slice A135 l135 c135)]) ∧
 HRun Tryd.prog base (Instr.storeAt 26 (.pointer ((some x2))) (.agg #[(.int .u64 n132), (.slice A133 l133 c133), (.slice A134 l134 c134)])) H0 fun _ H136 =>
 QRun Tryd.prog (Instr.loadAt 28 (.pointer ((some x13)))) H136 (.agg #[(.slice A135 l135 c135)]) ∧
 HRun Tryd.prog base (Instr.storeAt 28 (.pointer ((some x3))) (.agg #[(.slice A135 l135 c135)])) H136 fun _ H137 =>
 ∃ r_, QRun Tryd.prog (results Tryd.f11 (List.toArray [(g 0), (g 1), (.pointer ((some x2))), (.pointer ((some x3))), (g 4), (g 5), (g 6), (g 7), (g 8), (g 9), (g 10), (g 11), (.pointer ((some x12))), (.pointer ((some x13))), (g 14), (g 15), (g 16), (g 17), (g 18), (g 19), (g 20), (g 21), (g 22), (g 23), (g 24), (g 25), (g 26), (g 27), (g 28), (g 29), (g 30), (g 31), (g 32), (g 33), (g 34), (g 35), (g 36), (g 37), (g 38), (g 39), (g 40), (g 41), (g 42), (g 43), (g 44), (g 45), (g 46), (g 47), (g 48), (g 49), (g 50), (g 51), (g 52), (g 53), (g 54), (g 55), (g 56), (g 57), (g 58), (g 59), (g 60), (g 61), (g 62), (g 63), (g 64), (g 65), (g 66), (g 67), (g 68), (g 69), (g 70), (g 71), (g 72), (g 73), (g 74), (g 75), (g 76), (g 77), (g 78), (g 79), (g 80), (g 81), (g 82), (g 83), (g 84), (g 85), (g 86), (g 87), (g 88), (g 89), (g 90), (g 91), (g 92), (g 93), (g 94), (g 95), (g 96), (g 97), (g 98), (g 99), (g 100), (g 101), (g 102), (g 103), (g 104), (g 105), (g 106), (g 107), (g 108), (g 109), (g 110), (g 111), (g 112), (g 113), (g 114), (g 115), (g 116), (g 117), (g 118), (g 119), (g 120), (g 121), (g 122), (g 123), (g 124), (g 125), (g 126), (g 127), (g 128), (g 129), (g 130), (g 131), (g 132), (g 133), (g 134), (g 135), (g 136), (g 137), (g 138), (g 139), (g 140), (g 141), (g 142), (g 143), (g 144), (g 145), (g 146), (g 147), (g 148), (g 149), (g 150), (g 151), (g 152), (g 153), (g 154), (g 155), (g 156), (g 157), (g 158), (g 159), (g 160), (g 161), (g 162), (g 163), (g 164), (g 165), (g 166), (g 167), (g 168), (g 169), (g 170), (g 171), (g 172), (g 173), (g 174), (.slice Ax175 lx175 cx175), (.int .i64 x176), (.int .i64 y177), (.bool ((decide ((y177 : Int) < x176)))), (g 179), (g 180), (g 181), (g 182), (g 183), (g 184), (g 185), (g 186), (g 187), (g 188), (g 189), (g 190), (g 191), (.agg #[(.int .u64 n132), (.slice A133 l133 c133), (.slice A134 l134 c134)]), (.agg #[(.slice A135 l135 c135)])])) H137 r_ ∧ K r_ H137
theorem optimize_Optimize.loop3 {base : Nat} {x2 x3 x12 x13 : Addr} {Ax175 : Option Addr} {lx175 cx175 : Nat} {x176 y177_i : Int} {H0 : HH} {K : Value → HH → Prop} (J : Nat → Int → HH → Prop) (n : Nat) (h0 : J n y177_i H0)
    (hs : ∀ (n : Nat) (y177 : Int) (g : Fr) (H0 : HH), J n y177 H0 → optimize_Optimize.B3 base x2 x3 x12 x13 Ax175 lx175 cx175 x176 y177 g (fun w177 H => ∃ n', n' < n ∧ ∃ (y177' : Int), w177 = (.int .i64 y177') ∧ J n' y177' H) H0 K) : optimize_Optimize.P3 base [(.pointer ((some x2))), (.pointer ((some x3))), (.pointer ((some x12))), (.pointer ((some x13))), (.slice Ax175 lx175 cx175), (.int .i64 x176), (.int .i64 y177_i)] H0 K := by
  refine loop_rule (ann := optimize_Optimize.ann) (body := codeAt [.r, .r, .r, .r, .r, .r, .r, .r, .l, .r, .b, .lp] (bodyOf Tryd.f11)) mix (by kernel_rfl) 6276910173444072527728494629829272627454403102073762086912 (by kernel_rfl) [2, 3, 12, 13, 175, 176] [(.pointer ((some x2))), (.pointer ((some x3))), (.pointer ((some x12))), (.pointer ((some x13))), (.slice Ax175 lx175 cx175), (.int .i64 x176)] (by kernel_rfl) (fun fr ⟨e2, e3, e12, e13, e175, e176, e177, _⟩ => ⟨e2, e3, e12, e13, e175, e176, trivial⟩) (fun n g H => ∃ (y177 : Int), g 177 = (.int .i64 y177) ∧ J n y177 H) n (fun fr ⟨e2, e3, e12, e13, e175, e176, e177, _⟩ => ⟨y177_i, e177, h0⟩) ?_
  rintro n g H0 ⟨e2, e3, e12, e13, e175, e176, _⟩ ⟨y177, e177, hJ⟩
  rw [← ov_eq (g := g) [(2, (.pointer ((some x2)))), (3, (.pointer ((some x3)))), (12, (.pointer ((some x12)))), (13, (.pointer ((some x13)))), (175, (.slice Ax175 lx175 cx175)), (176, (.int .i64 x176)), (177, (.int .i64 y177))] (by simp only [List.mem_cons, List.not_mem_nil, or_false, forall_eq_or_imp, forall_eq, false_implies, implies_true]; exact ⟨e2, e3, e12, e13, e175, e176, e177⟩)]
  have key : ∀ NN : Value → HH → Prop, optimize_Optimize.B3 base x2 x3 x12 x13 Ax175 lx175 cx175 x176 y177 g NN H0 K = wpC Tryd.prog base 194 optimize_Optimize.ann (codeAt [.r, .r, .r, .r, .r, .r, .r, .r, .l, .r, .b, .lp] (bodyOf Tryd.f11)) (ov g [(2, (.pointer ((some x2)))), (3, (.pointer ((some x3)))), (12, (.pointer ((some x12)))), (13, (.pointer ((some x13)))), (175, (.slice Ax175 lx175 cx175)), (176, (.int .i64 x176)), (177, (.int .i64 y177))]) H0 (thenQ (fun fr H => NN (fr 177) H) (qAt Tryd.prog base 194 optimize_Optimize.ann [.r, .r, .r, .r, .r, .r, .r, .r, .l, .r, .b] [] (bodyOf Tryd.f11) (retQ Tryd.prog 194 Tryd.f11 K))) := fun NN => by kernel_rfl
  refine cast ?_ (hs n y177 g H0 hJ)
  refine (key (fun w177 H => ∃ n', n' < n ∧ ∃ (y177' : Int), w177 = (.int .i64 y177') ∧ J n' y177' H)).trans ?_
  kernel_rfl
def optimize_inputs.ann : Ann := ⟨fun k => [], fun k => false, fun k => bif Nat.beq k 3 then [3, 7, 8, 9] else []⟩
def optimize_inputs.P0 (base : Nat) (l : List Value) (H0 : HH) (K : Value → HH → Prop) : Prop := HCodeL Tryd.prog base 23 (codeAt [.r, .r, .l, .r, .b] (bodyOf Tryd.f16)) [3, 7, 8, 9] l H0 (qAt Tryd.prog base 23 optimize_inputs.ann [.r, .r, .l, .r, .b] [] (bodyOf Tryd.f16) (retQ Tryd.prog 23 Tryd.f16 K))
def optimize_inputs.sh (base : Nat) (x0_0 : Int) (Ax0_1 : Option Addr) (lx0_1 cx0_1 : Nat) (Ax0_2 : Option Addr) (lx0_2 cx0_2 : Nat) (H0 : HH) (K : Value → HH → Prop) : Prop :=
 HRun Tryd.prog base (Instr.box 26 (.agg #[(.int .u64 x0_0), (.slice Ax0_1 lx0_1 cx0_1), (.slice Ax0_2 lx0_2 cx0_2)])) H0 fun v1 H2 =>
 ∃ a3 : Addr, v1 = (.pointer ((some a3))) ∧ ∃ a4 : Addr, AQ Tryd.prog (Instr.fieldAt 26 (.pointer ((some a3))) 1) (.pointer ((some a4))) ∧
 ∃ (A5 : Option Addr) (l5 c5 : Nat), QRun Tryd.prog (Instr.loadAt 23 (.pointer ((some a4)))) H2 (.slice A5 l5 c5) ∧
 optimize_inputs.P0 base [(.slice none 0 0), (.slice A5 l5 c5), (.int .i64 (((l5 : Nat) : Int))), (.int .i64 0)] H2 K
theorem optimize_inputs.spec {base : Nat} {x0_0 : Int} {Ax0_1 : Option Addr} {lx0_1 cx0_1 : Nat} {Ax0_2 : Option Addr} {lx0_2 cx0_2 : Nat} {H0 : HH} {K : Value → HH → Prop} (h : optimize_inputs.sh base x0_0 Ax0_1 lx0_1 cx0_1 Ax0_2 lx0_2 cx0_2 H0 K) : HCall Tryd.prog base 16 #[(.agg #[(.int .u64 x0_0), (.slice Ax0_1 lx0_1 cx0_1), (.slice Ax0_2 lx0_2 cx0_2)])] H0 K := spec_of_wpC (n := 23) (ann := optimize_inputs.ann) mix Tryd.func16 (by kernel_rfl) (cast (show optimize_inputs.sh base x0_0 Ax0_1 lx0_1 cx0_1 Ax0_2 lx0_2 cx0_2 H0 K = wpC Tryd.prog base 23 optimize_inputs.ann (bodyOf Tryd.f16) (ofL [(.agg #[(.int .u64 x0_0), (.slice Ax0_1 lx0_1 cx0_1), (.slice Ax0_2 lx0_2 cx0_2)])]) H0 (retQ Tryd.prog 23 Tryd.f16 K) by kernel_rfl) h)
def optimize_inputs.B0 (base : Nat) (Ax7 : Option Addr) (lx7 cx7 : Nat) (x8 : Int) (Ay3 : Option Addr) (ly3 cy3 : Nat) (y9 : Int) (g : Fr) (N0 : Value → Value → HH → Prop) (H0 : HH) (K : Value → HH → Prop) : Prop :=
 if (decide ((y9 : Int) < x8)) = true then
 ∃ a6 : Addr, AQ Tryd.prog (Instr.indexAt 23 (.slice Ax7 lx7 cx7) (.int .i64 y9)) (.pointer ((some a6))) ∧
 ∃ n7 : Int, ∃ n8 : Int, ∃ n9 : Int, ∃ n10 : Int, ∃ n11 : Int, QRun Tryd.prog (Instr.loadAt 50 (.pointer ((some a6)))) H0 (.agg #[(.int .i64 n7), (.int .i64 n8), (.int .i64 n9), (.int .i64 n10), (.int .u64 n11)]) ∧
 HRun Tryd.prog base (Instr.alloc 50 true (.tuple #[])) H0 fun v12 H13 =>
 ∃ a14 : Addr, v12 = (.pointer ((some a14))) ∧ HRun Tryd.prog base (Instr.storeAt 50 (.pointer ((some a14))) (.agg #[(.int .i64 n7), (.int .i64 n8), (.int .i64 n9), (.int .i64 n10), (.int .u64 n11)])) H13 fun _ H15 =>
 ∃ a16 : Addr, AQ Tryd.prog (Instr.fieldAt 50 (.pointer ((some a14))) 0) (.pointer ((some a16))) ∧
 ∃ n17 : Int, QRun Tryd.prog (Instr.loadAt 3 (.pointer ((some a16)))) H15 (.int .i64 n17) ∧
 if ((n17 : Int) == 1) = true then
 HRun Tryd.prog base (Instr.buildSlice 24 1 #[(0, (.int .i64 y9))]) H15 fun v18 H19 =>
 ∃ (A20 : Option Addr) (l20 c20 : Nat), v18 = (.slice A20 l20 c20) ∧ HRun Tryd.prog base (Builtin.append_ #[24, 24] 24 #[(.slice Ay3 ly3 cy3), (.slice A20 l20 c20)]) H19 fun v21 H22 =>
 ∃ (A23 : Option Addr) (l23 c23 : Nat), v21 = (.slice A23 l23 c23) ∧ N0 (.slice A23 l23 c23) (.int .i64 ((IntKind.i64.wrap (y9 + 1)))) H22
 else
 N0 (.slice Ay3 ly3 cy3) (.int .i64 ((IntKind.i64.wrap (y9 + 1)))) H15
 else
 K (.slice Ay3 ly3 cy3) H0
theorem optimize_inputs.loop0 {base : Nat} {Ax7 : Option Addr} {lx7 cx7 : Nat} {x8 : Int} {Ay3_i : Option Addr} {ly3_i cy3_i : Nat} {y9_i : Int} {H0 : HH} {K : Value → HH → Prop} (J : Nat → Option Addr → Nat → Nat → Int → HH → Prop) (n : Nat) (h0 : J n Ay3_i ly3_i cy3_i y9_i H0)
    (hs : ∀ (n : Nat) (Ay3 : Option Addr) (ly3 cy3 : Nat) (y9 : Int) (g : Fr) (H0 : HH), J n Ay3 ly3 cy3 y9 H0 → optimize_inputs.B0 base Ax7 lx7 cx7 x8 Ay3 ly3 cy3 y9 g (fun w3 w9 H => ∃ n', n' < n ∧ ∃ (Ay3' : Option Addr) (ly3' cy3' : Nat) (y9' : Int), w3 = (.slice Ay3' ly3' cy3') ∧ w9 = (.int .i64 y9') ∧ J n' Ay3' ly3' cy3' y9' H) H0 K) : optimize_inputs.P0 base [(.slice Ay3_i ly3_i cy3_i), (.slice Ax7 lx7 cx7), (.int .i64 x8), (.int .i64 y9_i)] H0 K := by
  refine loop_rule (ann := optimize_inputs.ann) (body := codeAt [.r, .r, .l, .r, .b, .lp] (bodyOf Tryd.f16)) mix (by kernel_rfl) 4193848 (by kernel_rfl) [7, 8] [(.slice Ax7 lx7 cx7), (.int .i64 x8)] (by kernel_rfl) (fun fr ⟨e3, e7, e8, e9, _⟩ => ⟨e7, e8, trivial⟩) (fun n g H => ∃ (Ay3 : Option Addr) (ly3 cy3 : Nat) (y9 : Int), g 3 = (.slice Ay3 ly3 cy3) ∧ g 9 = (.int .i64 y9) ∧ J n Ay3 ly3 cy3 y9 H) n (fun fr ⟨e3, e7, e8, e9, _⟩ => ⟨Ay3_i, ly3_i, cy3_i, y9_i, e3, e9, h0⟩) ?_
  rintro n g H0 ⟨e7, e8, _⟩ ⟨Ay3, ly3, cy3, y9, e3, e9, hJ⟩
  rw [← ov_eq (g := g) [(3, (.slice Ay3 ly3 cy3)), (7, (.slice Ax7 lx7 cx7)), (8, (.int .i64 x8)), (9, (.int .i64 y9))] (by simp only [List.mem_cons, List.not_mem_nil, or_false, forall_eq_or_imp, forall_eq, false_implies, implies_true]; exact ⟨e3, e7, e8, e9⟩)]
  have key : ∀ NN : Value → Value → HH → Prop, optimize_inputs.B0 base Ax7 lx7 cx7 x8 Ay3 ly3 cy3 y9 g NN H0 K = wpC Tryd.prog base 23 optimize_inputs.ann (codeAt [.r, .r, .l, .r, .b, .lp] (bodyOf Tryd.f16)) (ov g [(3, (.slice Ay3 ly3 cy3)), (7, (.slice Ax7 lx7 cx7)), (8, (.int .i64 x8)), (9, (.int .i64 y9))]) H0 (thenQ (fun fr H => NN (fr 3) (fr 9) H) (qAt Tryd.prog base 23 optimize_inputs.ann [.r, .r, .l, .r, .b] [] (bodyOf Tryd.f16) (retQ Tryd.prog 23 Tryd.f16 K))) := fun NN => by kernel_rfl
  refine cast ?_ (hs n Ay3 ly3 cy3 y9 g H0 hJ)
  refine (key (fun w3 w9 H => ∃ n', n' < n ∧ ∃ (Ay3' : Option Addr) (ly3' cy3' : Nat) (y9' : Int), w3 = (.slice Ay3' ly3' cy3') ∧ w9 = (.int .i64 y9') ∧ J n' Ay3' ly3' cy3' y9' H)).trans ?_
  kernel_rfl
def optimize_alike.ann : Ann := ⟨fun k => [], fun k => false, fun k => []⟩
def optimize_alike.sh (base : Nat) (x0_0 : Int) (x0_1 : Int) (x0_2 : Int) (x0_3 : Int) (x0_4 : Int) (x1_0 : Int) (x1_1 : Int) (x1_2 : Int) (x1_3 : Int) (x1_4 : Int) (Ax2 : Option Addr) (lx2 cx2 : Nat) (H0 : HH) (K : Value → HH → Prop) : Prop :=
 HRun Tryd.prog base (Instr.box 50 (.agg #[(.int .i64 x0_0), (.int .i64 x0_1), (.int .i64 x0_2), (.int .i64 x0_3), (.int .u64 x0_4)])) H0 fun v1 H2 =>
 ∃ a3 : Addr, v1 = (.pointer ((some a3))) ∧ HRun Tryd.prog base (Instr.box 50 (.agg #[(.int .i64 x1_0), (.int .i64 x1_1), (.int .i64 x1_2), (.int .i64 x1_3), (.int .u64 x1_4)])) H2 fun v4 H5 =>
 ∃ a6 : Addr, v4 = (.pointer ((some a6))) ∧ ∃ a7 : Addr, AQ Tryd.prog (Instr.fieldAt 50 (.pointer ((some a6))) 0) (.pointer ((some a7))) ∧
 ∃ n8 : Int, QRun Tryd.prog (Instr.loadAt 3 (.pointer ((some a7)))) H5 (.int .i64 n8) ∧
 ∃ a9 : Addr, AQ Tryd.prog (Instr.fieldAt 50 (.pointer ((some a3))) 0) (.pointer ((some a9))) ∧
 ∃ n10 : Int, QRun Tryd.prog (Instr.loadAt 3 (.pointer ((some a9)))) H5 (.int .i64 n10) ∧
 if ((n8 : Int) != n10) = false then
 ∃ a11 : Addr, AQ Tryd.prog (Instr.fieldAt 50 (.pointer ((some a6))) 4) (.pointer ((some a11))) ∧
 ∃ n12 : Int, QRun Tryd.prog (Instr.loadAt 22 (.pointer ((some a11)))) H5 (.int .u64 n12) ∧
 ∃ a13 : Addr, AQ Tryd.prog (Instr.fieldAt 50 (.pointer ((some a3))) 4) (.pointer ((some a13))) ∧
 ∃ n14 : Int, QRun Tryd.prog (Instr.loadAt 22 (.pointer ((some a13)))) H5 (.int .u64 n14) ∧
 if ((n12 : Int) != n14) = true then
 K (.bool false) H5
 else
 ∃ a15 : Addr, AQ Tryd.prog (Instr.fieldAt 50 (.pointer ((some a3))) 0) (.pointer ((some a15))) ∧
 ∃ n16 : Int, QRun Tryd.prog (Instr.loadAt 3 (.pointer ((some a15)))) H5 (.int .i64 n16) ∧
 HCall Tryd.prog base 24 #[(.int .i64 n16)] H5 fun v17 H18 =>
 ∃ b19 : Bool, ∃ b20 : Bool, v17 = (.tuple #[(.bool b19), (.bool b20)]) ∧ if (!b19) = true then
 K (.bool true) H18
 else
 ∃ a21 : Addr, AQ Tryd.prog (Instr.fieldAt 50 (.pointer ((some a3))) 2) (.pointer ((some a21))) ∧
 ∃ n22 : Int, QRun Tryd.prog (Instr.loadAt 3 (.pointer ((some a21)))) H18 (.int .i64 n22) ∧
 ∃ a23 : Addr, AQ Tryd.prog (Instr.indexAt 24 (.slice Ax2 lx2 cx2) (.int .i64 n22)) (.pointer ((some a23))) ∧
 ∃ n24 : Int, QRun Tryd.prog (Instr.loadAt 3 (.pointer ((some a23)))) H18 (.int .i64 n24) ∧
 if (!b20) = true then
 if (decide ((n24 : Int) ≥ 0)) = true then
 ∃ a25 : Addr, AQ Tryd.prog (Instr.fieldAt 50 (.pointer ((some a6))) 2) (.pointer ((some a25))) ∧
 ∃ n26 : Int, QRun Tryd.prog (Instr.loadAt 3 (.pointer ((some a25)))) H18 (.int .i64 n26) ∧
 K (.bool (((n26 : Int) == n24))) H18
 else
 K (.bool false) H18
 else
 ∃ a27 : Addr, AQ Tryd.prog (Instr.fieldAt 50 (.pointer ((some a3))) 3) (.pointer ((some a27))) ∧
 ∃ n28 : Int, QRun Tryd.prog (Instr.loadAt 3 (.pointer ((some a27)))) H18 (.int .i64 n28) ∧
 ∃ a29 : Addr, AQ Tryd.prog (Instr.indexAt 24 (.slice Ax2 lx2 cx2) (.int .i64 n28)) (.pointer ((some a29))) ∧
 ∃ n30 : Int, QRun Tryd.prog (Instr.loadAt 3 (.pointer ((some a29)))) H18 (.int .i64 n30) ∧
 if (decide ((n24 : Int) < 0)) = false then
 if (decide ((n30 : Int) < 0)) = true then
 K (.bool false) H18
 else
 ∃ a31 : Addr, AQ Tryd.prog (Instr.fieldAt 50 (.pointer ((some a6))) 2) (.pointer ((some a31))) ∧
 ∃ n32 : Int, QRun Tryd.prog (Instr.loadAt 3 (.pointer ((some a31)))) H18 (.int .i64 n32) ∧
 if ((n32 : Int) == n24) = true then
 ∃ a33 : Addr, AQ Tryd.prog (Instr.fieldAt 50 (.pointer ((some a6))) 3) (.pointer ((some a33))) ∧
 ∃ n34 : Int, QRun Tryd.prog (Instr.loadAt 3 (.pointer ((some a33)))) H18 (.int .i64 n34) ∧
 if ((n34 : Int) == n30) = false then
 ∃ a35 : Addr, AQ Tryd.prog (Instr.fieldAt 50 (.pointer ((some a3))) 0) (.pointer ((some a35))) ∧
 ∃ n36 : Int, QRun Tryd.prog (Instr.loadAt 3 (.pointer ((some a35)))) H18 (.int .i64 n36) ∧
 HCall Tryd.prog base 30 #[(.int .i64 n36)] H18 fun v37 H38 =>
 ∃ b39 : Bool, v37 = (.bool b39) ∧ if b39 = true then
 ∃ a40 : Addr, AQ Tryd.prog (Instr.fieldAt 50 (.pointer ((some a6))) 2) (.pointer ((some a40))) ∧
 ∃ n41 : Int, QRun Tryd.prog (Instr.loadAt 3 (.pointer ((some a40)))) H38 (.int .i64 n41) ∧
 if ((n41 : Int) == n30) = true then
 ∃ a42 : Addr, AQ Tryd.prog (Instr.fieldAt 50 (.pointer ((some a6))) 3) (.pointer ((some a42))) ∧
 ∃ n43 : Int, QRun Tryd.prog (Instr.loadAt 3 (.pointer ((some a42)))) H38 (.int .i64 n43) ∧
 K (.bool (((n43 : Int) == n24))) H38
 else
 K (.bool false) H38
 else
 K (.bool false) H38
 else
 K (.bool true) H18
 else
 ∃ a44 : Addr, AQ Tryd.prog (Instr.fieldAt 50 (.pointer ((some a3))) 0) (.pointer ((some a44))) ∧
 ∃ n45 : Int, QRun Tryd.prog (Instr.loadAt 3 (.pointer ((some a44)))) H18 (.int .i64 n45) ∧
 HCall Tryd.prog base 30 #[(.int .i64 n45)] H18 fun v46 H47 =>
 ∃ b48 : Bool, v46 = (.bool b48) ∧ if b48 = true then
 ∃ a49 : Addr, AQ Tryd.prog (Instr.fieldAt 50 (.pointer ((some a6))) 2) (.pointer ((some a49))) ∧
 ∃ n50 : Int, QRun Tryd.prog (Instr.loadAt 3 (.pointer ((some a49)))) H47 (.int .i64 n50) ∧
 if ((n50 : Int) == n30) = true then
 ∃ a51 : Addr, AQ Tryd.prog (Instr.fieldAt 50 (.pointer ((some a6))) 3) (.pointer ((some a51))) ∧
 ∃ n52 : Int, QRun Tryd.prog (Instr.loadAt 3 (.pointer ((some a51)))) H47 (.int .i64 n52) ∧
 K (.bool (((n52 : Int) == n24))) H47
 else
 K (.bool false) H47
 else
 K (.bool false) H47
 else
 K (.bool false) H18
 else
 K (.bool false) H5
theorem optimize_alike.spec {base : Nat} {x0_0 : Int} {x0_1 : Int} {x0_2 : Int} {x0_3 : Int} {x0_4 : Int} {x1_0 : Int} {x1_1 : Int} {x1_2 : Int} {x1_3 : Int} {x1_4 : Int} {Ax2 : Option Addr} {lx2 cx2 : Nat} {H0 : HH} {K : Value → HH → Prop} (h : optimize_alike.sh base x0_0 x0_1 x0_2 x0_3 x0_4 x1_0 x1_1 x1_2 x1_3 x1_4 Ax2 lx2 cx2 H0 K) : HCall Tryd.prog base 17 #[(.agg #[(.int .i64 x0_0), (.int .i64 x0_1), (.int .i64 x0_2), (.int .i64 x0_3), (.int .u64 x0_4)]), (.agg #[(.int .i64 x1_0), (.int .i64 x1_1), (.int .i64 x1_2), (.int .i64 x1_3), (.int .u64 x1_4)]), (.slice Ax2 lx2 cx2)] H0 K := spec_of_wpC (n := 84) (ann := optimize_alike.ann) mix Tryd.func17 (by kernel_rfl) (cast (show optimize_alike.sh base x0_0 x0_1 x0_2 x0_3 x0_4 x1_0 x1_1 x1_2 x1_3 x1_4 Ax2 lx2 cx2 H0 K = wpC Tryd.prog base 84 optimize_alike.ann (bodyOf Tryd.f17) (ofL [(.agg #[(.int .i64 x0_0), (.int .i64 x0_1), (.int .i64 x0_2), (.int .i64 x0_3), (.int .u64 x0_4)]), (.agg #[(.int .i64 x1_0), (.int .i64 x1_1), (.int .i64 x1_2), (.int .i64 x1_3), (.int .u64 x1_4)]), (.slice Ax2 lx2 cx2)]) H0 (retQ Tryd.prog 84 Tryd.f17 K) by kernel_rfl) h)
def optimize_CheckCertificate.ann : Ann := ⟨fun k => bif Nat.beq k 9 then [1, 3] else bif Nat.beq k 15 then [] else bif Nat.beq k 22 then [16] else bif Nat.beq k 28 then [] else [], fun k => false, fun k => bif Nat.beq k 4 then [3, 4, 5, 51, 52, 53] else bif Nat.beq k 13 then [3, 4, 5, 9, 10, 77, 78] else bif Nat.beq k 19 then [3, 4, 5, 115, 116, 117] else bif Nat.beq k 26 then [4, 5, 148, 149, 150] else []⟩
def optimize_CheckCertificate.P0 (base : Nat) (l : List Value) (H0 : HH) (K : Value → HH → Prop) : Prop := HCodeL Tryd.prog base 175 (codeAt [.r, .r, .l, .r, .b] (bodyOf Tryd.f7)) [3, 4, 5, 51, 52, 53] l H0 (qAt Tryd.prog base 175 optimize_CheckCertificate.ann [.r, .r, .l, .r, .b] [] (bodyOf Tryd.f7) (retQ Tryd.prog 175 Tryd.f7 K))
def optimize_CheckCertificate.P1 (base : Nat) (l : List Value) (H0 : HH) (K : Value → HH → Prop) : Prop := HCodeL Tryd.prog base 175 (codeAt [.r, .r, .r, .r, .r, .l, .r, .b] (bodyOf Tryd.f7)) [3, 4, 5, 9, 10, 77, 78] l H0 (qAt Tryd.prog base 175 optimize_CheckCertificate.ann [.r, .r, .r, .r, .r, .l, .r, .b] [] (bodyOf Tryd.f7) (retQ Tryd.prog 175 Tryd.f7 K))
def optimize_CheckCertificate.P2 (base : Nat) (l : List Value) (H0 : HH) (K : Value → HH → Prop) : Prop := HCodeL Tryd.prog base 175 (codeAt [.r, .r, .r, .r, .r, .r, .l, .r, .b] (bodyOf Tryd.f7)) [3, 4, 5, 115, 116, 117] l H0 (qAt Tryd.prog base 175 optimize_CheckCertificate.ann [.r, .r, .r, .r, .r, .r, .l, .r, .b] [] (bodyOf Tryd.f7) (retQ Tryd.prog 175 Tryd.f7 K))
def optimize_CheckCertificate.P3 (base : Nat) (l : List Value) (H0 : HH) (K : Value → HH → Prop) : Prop := HCodeL Tryd.prog base 175 (codeAt [.r, .r, .r, .r, .r, .r, .r, .l, .r, .b] (bodyOf Tryd.f7)) [4, 5, 148, 149, 150] l H0 (qAt Tryd.prog base 175 optimize_CheckCertificate.ann [.r, .r, .r, .r, .r, .r, .r, .l, .r, .b] [] (bodyOf Tryd.f7) (retQ Tryd.prog 175 Tryd.f7 K))
def optimize_CheckCertificate.sh (base : Nat) (x0_0 : Int) (Ax0_1 : Option Addr) (lx0_1 cx0_1 : Nat) (Ax0_2 : Option Addr) (lx0_2 cx0_2 : Nat) (x1_0 : Int) (Ax1_1 : Option Addr) (lx1_1 cx1_1 : Nat) (Ax1_2 : Option Addr) (lx1_2 cx1_2 : Nat) (Ax2_0 : Option Addr) (lx2_0 cx2_0 : Nat) (H0 : HH) (K : Value → HH → Prop) : Prop :=
 HRun Tryd.prog base (Instr.box 26 (.agg #[(.int .u64 x0_0), (.slice Ax0_1 lx0_1 cx0_1), (.slice Ax0_2 lx0_2 cx0_2)])) H0 fun v1 H2 =>
 ∃ a3 : Addr, v1 = (.pointer ((some a3))) ∧ HRun Tryd.prog base (Instr.box 26 (.agg #[(.int .u64 x1_0), (.slice Ax1_1 lx1_1 cx1_1), (.slice Ax1_2 lx1_2 cx1_2)])) H2 fun v4 H5 =>
 ∃ a6 : Addr, v4 = (.pointer ((some a6))) ∧ HRun Tryd.prog base (Instr.box 28 (.agg #[(.slice Ax2_0 lx2_0 cx2_0)])) H5 fun v7 H8 =>
 ∃ a9 : Addr, v7 = (.pointer ((some a9))) ∧ ∃ n10 : Int, ∃ (A11 : Option Addr) (l11 c11 : Nat), ∃ (A12 : Option Addr) (l12 c12 : Nat), QRun Tryd.prog (Instr.loadAt 26 (.pointer ((some a3)))) H8 (.agg #[(.int .u64 n10), (.slice A11 l11 c11), (.slice A12 l12 c12)]) ∧
 HCall Tryd.prog base 15 #[(.agg #[(.int .u64 n10), (.slice A11 l11 c11), (.slice A12 l12 c12)])] H8 fun v13 H14 =>
 ∃ b15 : Bool, v13 = (.bool b15) ∧ if (!b15) = false then
 ∃ n16 : Int, ∃ (A17 : Option Addr) (l17 c17 : Nat), ∃ (A18 : Option Addr) (l18 c18 : Nat), QRun Tryd.prog (Instr.loadAt 26 (.pointer ((some a6)))) H14 (.agg #[(.int .u64 n16), (.slice A17 l17 c17), (.slice A18 l18 c18)]) ∧
 HCall Tryd.prog base 15 #[(.agg #[(.int .u64 n16), (.slice A17 l17 c17), (.slice A18 l18 c18)])] H14 fun v19 H20 =>
 ∃ b21 : Bool, v19 = (.bool b21) ∧ if (!b21) = false then
 ∃ a22 : Addr, AQ Tryd.prog (Instr.fieldAt 26 (.pointer ((some a3))) 0) (.pointer ((some a22))) ∧
 ∃ n23 : Int, QRun Tryd.prog (Instr.loadAt 22 (.pointer ((some a22)))) H20 (.int .u64 n23) ∧
 ∃ a24 : Addr, AQ Tryd.prog (Instr.fieldAt 26 (.pointer ((some a6))) 0) (.pointer ((some a24))) ∧
 ∃ n25 : Int, QRun Tryd.prog (Instr.loadAt 22 (.pointer ((some a24)))) H20 (.int .u64 n25) ∧
 if ((n23 : Int) != n25) = false then
 ∃ a26 : Addr, AQ Tryd.prog (Instr.fieldAt 28 (.pointer ((some a9))) 0) (.pointer ((some a26))) ∧
 ∃ (A27 : Option Addr) (l27 c27 : Nat), QRun Tryd.prog (Instr.loadAt 24 (.pointer ((some a26)))) H20 (.slice A27 l27 c27) ∧
 ∃ a28 : Addr, AQ Tryd.prog (Instr.fieldAt 26 (.pointer ((some a3))) 1) (.pointer ((some a28))) ∧
 ∃ (A29 : Option Addr) (l29 c29 : Nat), QRun Tryd.prog (Instr.loadAt 23 (.pointer ((some a28)))) H20 (.slice A29 l29 c29) ∧
 if ((((l27 : Nat) : Int) : Int) != (((l29 : Nat) : Int))) = false then
 ∃ a30 : Addr, AQ Tryd.prog (Instr.fieldAt 26 (.pointer ((some a3))) 2) (.pointer ((some a30))) ∧
 ∃ (A31 : Option Addr) (l31 c31 : Nat), QRun Tryd.prog (Instr.loadAt 24 (.pointer ((some a30)))) H20 (.slice A31 l31 c31) ∧
 ∃ a32 : Addr, AQ Tryd.prog (Instr.fieldAt 26 (.pointer ((some a6))) 2) (.pointer ((some a32))) ∧
 ∃ (A33 : Option Addr) (l33 c33 : Nat), QRun Tryd.prog (Instr.loadAt 24 (.pointer ((some a32)))) H20 (.slice A33 l33 c33) ∧
 if ((((l31 : Nat) : Int) : Int) != (((l33 : Nat) : Int))) = true then
 K (.bool false) H20
 else
 ∃ a34 : Addr, AQ Tryd.prog (Instr.fieldAt 28 (.pointer ((some a9))) 0) (.pointer ((some a34))) ∧
 ∃ (A35 : Option Addr) (l35 c35 : Nat), QRun Tryd.prog (Instr.loadAt 24 (.pointer ((some a34)))) H20 (.slice A35 l35 c35) ∧
 optimize_CheckCertificate.P0 base [(.pointer ((some a3))), (.pointer ((some a6))), (.pointer ((some a9))), (.slice A35 l35 c35), (.int .i64 (((l35 : Nat) : Int))), (.int .i64 0)] H20 K
 else
 K (.bool false) H20
 else
 K (.bool false) H20
 else
 K (.bool false) H20
 else
 K (.bool false) H14
theorem optimize_CheckCertificate.spec {base : Nat} {x0_0 : Int} {Ax0_1 : Option Addr} {lx0_1 cx0_1 : Nat} {Ax0_2 : Option Addr} {lx0_2 cx0_2 : Nat} {x1_0 : Int} {Ax1_1 : Option Addr} {lx1_1 cx1_1 : Nat} {Ax1_2 : Option Addr} {lx1_2 cx1_2 : Nat} {Ax2_0 : Option Addr} {lx2_0 cx2_0 : Nat} {H0 : HH} {K : Value → HH → Prop} (h : optimize_CheckCertificate.sh base x0_0 Ax0_1 lx0_1 cx0_1 Ax0_2 lx0_2 cx0_2 x1_0 Ax1_1 lx1_1 cx1_1 Ax1_2 lx1_2 cx1_2 Ax2_0 lx2_0 cx2_0 H0 K) : HCall Tryd.prog base 7 #[(.agg #[(.int .u64 x0_0), (.slice Ax0_1 lx0_1 cx0_1), (.slice Ax0_2 lx0_2 cx0_2)]), (.agg #[(.int .u64 x1_0), (.slice Ax1_1 lx1_1 cx1_1), (.slice Ax1_2 lx1_2 cx1_2)]), (.agg #[(.slice Ax2_0 lx2_0 cx2_0)])] H0 K := spec_of_wpC (n := 175) (ann := optimize_CheckCertificate.ann) mix Tryd.func7 (by kernel_rfl) (cast (show optimize_CheckCertificate.sh base x0_0 Ax0_1 lx0_1 cx0_1 Ax0_2 lx0_2 cx0_2 x1_0 Ax1_1 lx1_1 cx1_1 Ax1_2 lx1_2 cx1_2 Ax2_0 lx2_0 cx2_0 H0 K = wpC Tryd.prog base 175 optimize_CheckCertificate.ann (bodyOf Tryd.f7) (ofL [(.agg #[(.int .u64 x0_0), (.slice Ax0_1 lx0_1 cx0_1), (.slice Ax0_2 lx0_2 cx0_2)]), (.agg #[(.int .u64 x1_0), (.slice Ax1_1 lx1_1 cx1_1), (.slice Ax1_2 lx1_2 cx1_2)]), (.agg #[(.slice Ax2_0 lx2_0 cx2_0)])]) H0 (retQ Tryd.prog 175 Tryd.f7 K) by kernel_rfl) h)
def optimize_CheckCertificate.B0 (base : Nat) (x3 x4 x5 : Addr) (Ax51 : Option Addr) (lx51 cx51 : Nat) (x52 : Int) (y53 : Int) (g : Fr) (N0 : Value → HH → Prop) (H0 : HH) (K : Value → HH → Prop) : Prop :=
 if (decide ((y53 : Int) < x52)) = true then
 ∃ a36 : Addr, AQ Tryd.prog (Instr.indexAt 24 (.slice Ax51 lx51 cx51) (.int .i64 y53)) (.pointer ((some a36))) ∧
 ∃ n37 : Int, QRun Tryd.prog (Instr.loadAt 3 (.pointer ((some a36)))) H0 (.int .i64 n37) ∧
 if (decide ((n37 : Int) < ((-1)))) = false then
 ∃ a38 : Addr, AQ Tryd.prog (Instr.fieldAt 26 (.pointer ((some x4))) 1) (.pointer ((some a38))) ∧
 ∃ (A39 : Option Addr) (l39 c39 : Nat), QRun Tryd.prog (Instr.loadAt 23 (.pointer ((some a38)))) H0 (.slice A39 l39 c39) ∧
 if (decide ((n37 : Int) ≥ (((l39 : Nat) : Int)))) = true then
 K (.bool false) H0
 else
 N0 (.int .i64 ((IntKind.i64.wrap (y53 + 1)))) H0
 else
 K (.bool false) H0
 else
 ∃ n40 : Int, ∃ (A41 : Option Addr) (l41 c41 : Nat), ∃ (A42 : Option Addr) (l42 c42 : Nat), QRun Tryd.prog (Instr.loadAt 26 (.pointer ((some x3)))) H0 (.agg #[(.int .u64 n40), (.slice A41 l41 c41), (.slice A42 l42 c42)]) ∧
 ∃ n43 : Int, ∃ (A44 : Option Addr) (l44 c44 : Nat), ∃ (A45 : Option Addr) (l45 c45 : Nat), QRun Tryd.prog (Instr.loadAt 26 (.pointer ((some x4)))) H0 (.agg #[(.int .u64 n43), (.slice A44 l44 c44), (.slice A45 l45 c45)]) ∧
 HCall Tryd.prog base 16 #[(.agg #[(.int .u64 n40), (.slice A41 l41 c41), (.slice A42 l42 c42)])] H0 fun v46 H47 =>
 ∃ (A48 : Option Addr) (l48 c48 : Nat), v46 = (.slice A48 l48 c48) ∧ QRun Tryd.prog (Instr.loadAt 26 (.pointer ((some x4)))) H47 (.agg #[(.int .u64 n43), (.slice A44 l44 c44), (.slice A45 l45 c45)]) ∧
 HCall Tryd.prog base 16 #[(.agg #[(.int .u64 n43), (.slice A44 l44 c44), (.slice A45 l45 c45)])] H47 fun v49 H50 =>
 ∃ (A51 : Option Addr) (l51 c51 : Nat), v49 = (.slice A51 l51 c51) ∧ if ((((l48 : Nat) : Int) : Int) != (((l51 : Nat) : Int))) = true then
 K (.bool false) H50
 else
 optimize_CheckCertificate.P1 base [(.pointer ((some x3))), (.pointer ((some x4))), (.pointer ((some x5))), (.slice A48 l48 c48), (.slice A51 l51 c51), (.int .i64 (((l48 : Nat) : Int))), (.int .i64 0)] H50 K
theorem optimize_CheckCertificate.loop0 {base : Nat} {x3 x4 x5 : Addr} {Ax51 : Option Addr} {lx51 cx51 : Nat} {x52 y53_i : Int} {H0 : HH} {K : Value → HH → Prop} (J : Nat → Int → HH → Prop) (n : Nat) (h0 : J n y53_i H0)
    (hs : ∀ (n : Nat) (y53 : Int) (g : Fr) (H0 : HH), J n y53 H0 → optimize_CheckCertificate.B0 base x3 x4 x5 Ax51 lx51 cx51 x52 y53 g (fun w53 H => ∃ n', n' < n ∧ ∃ (y53' : Int), w53 = (.int .i64 y53') ∧ J n' y53' H) H0 K) : optimize_CheckCertificate.P0 base [(.pointer ((some x3))), (.pointer ((some x4))), (.pointer ((some x5))), (.slice Ax51 lx51 cx51), (.int .i64 x52), (.int .i64 y53_i)] H0 K := by
  refine loop_rule (ann := optimize_CheckCertificate.ann) (body := codeAt [.r, .r, .l, .r, .b, .lp] (bodyOf Tryd.f7)) mix (by kernel_rfl) 147564945390421672256 (by kernel_rfl) [3, 4, 5, 51, 52] [(.pointer ((some x3))), (.pointer ((some x4))), (.pointer ((some x5))), (.slice Ax51 lx51 cx51), (.int .i64 x52)] (by kernel_rfl) (fun fr ⟨e3, e4, e5, e51, e52, e53, _⟩ => ⟨e3, e4, e5, e51, e52, trivial⟩) (fun n g H => ∃ (y53 : Int), g 53 = (.int .i64 y53) ∧ J n y53 H) n (fun fr ⟨e3, e4, e5, e51, e52, e53, _⟩ => ⟨y53_i, e53, h0⟩) ?_
  rintro n g H0 ⟨e3, e4, e5, e51, e52, _⟩ ⟨y53, e53, hJ⟩
  rw [← ov_eq (g := g) [(3, (.pointer ((some x3)))), (4, (.pointer ((some x4)))), (5, (.pointer ((some x5)))), (51, (.slice Ax51 lx51 cx51)), (52, (.int .i64 x52)), (53, (.int .i64 y53))] (by simp only [List.mem_cons, List.not_mem_nil, or_false, forall_eq_or_imp, forall_eq, false_implies, implies_true]; exact ⟨e3, e4, e5, e51, e52, e53⟩)]
  have key : ∀ NN : Value → HH → Prop, optimize_CheckCertificate.B0 base x3 x4 x5 Ax51 lx51 cx51 x52 y53 g NN H0 K = wpC Tryd.prog base 175 optimize_CheckCertificate.ann (codeAt [.r, .r, .l, .r, .b, .lp] (bodyOf Tryd.f7)) (ov g [(3, (.pointer ((some x3)))), (4, (.pointer ((some x4)))), (5, (.pointer ((some x5)))), (51, (.slice Ax51 lx51 cx51)), (52, (.int .i64 x52)), (53, (.int .i64 y53))]) H0 (thenQ (fun fr H => NN (fr 53) H) (qAt Tryd.prog base 175 optimize_CheckCertificate.ann [.r, .r, .l, .r, .b] [] (bodyOf Tryd.f7) (retQ Tryd.prog 175 Tryd.f7 K))) := fun NN => by kernel_rfl
  refine cast ?_ (hs n y53 g H0 hJ)
  refine (key (fun w53 H => ∃ n', n' < n ∧ ∃ (y53' : Int), w53 = (.int .i64 y53') ∧ J n' y53' H)).trans ?_
  kernel_rfl
def optimize_CheckCertificate.B1 (base : Nat) (x3 x4 x5 : Addr) (Ax9 : Option Addr) (lx9 cx9 : Nat) (Ax10 : Option Addr) (lx10 cx10 : Nat) (x77 : Int) (y78 : Int) (g : Fr) (N1 : Value → HH → Prop) (H0 : HH) (K : Value → HH → Prop) : Prop :=
 if (decide ((y78 : Int) < x77)) = true then
 ∃ a52 : Addr, AQ Tryd.prog (Instr.fieldAt 28 (.pointer ((some x5))) 0) (.pointer ((some a52))) ∧
 ∃ (A53 : Option Addr) (l53 c53 : Nat), QRun Tryd.prog (Instr.loadAt 24 (.pointer ((some a52)))) H0 (.slice A53 l53 c53) ∧
 ∃ a54 : Addr, AQ Tryd.prog (Instr.indexAt 24 (.slice Ax9 lx9 cx9) (.int .i64 y78)) (.pointer ((some a54))) ∧
 ∃ n55 : Int, QRun Tryd.prog (Instr.loadAt 3 (.pointer ((some a54)))) H0 (.int .i64 n55) ∧
 ∃ a56 : Addr, AQ Tryd.prog (Instr.indexAt 24 (.slice A53 l53 c53) (.int .i64 n55)) (.pointer ((some a56))) ∧
 ∃ n57 : Int, QRun Tryd.prog (Instr.loadAt 3 (.pointer ((some a56)))) H0 (.int .i64 n57) ∧
 ∃ a58 : Addr, AQ Tryd.prog (Instr.indexAt 24 (.slice Ax10 lx10 cx10) (.int .i64 y78)) (.pointer ((some a58))) ∧
 ∃ n59 : Int, QRun Tryd.prog (Instr.loadAt 3 (.pointer ((some a58)))) H0 (.int .i64 n59) ∧
 if ((n57 : Int) != n59) = false then
 ∃ a60 : Addr, AQ Tryd.prog (Instr.fieldAt 26 (.pointer ((some x3))) 1) (.pointer ((some a60))) ∧
 ∃ (A61 : Option Addr) (l61 c61 : Nat), QRun Tryd.prog (Instr.loadAt 23 (.pointer ((some a60)))) H0 (.slice A61 l61 c61) ∧
 ∃ a62 : Addr, AQ Tryd.prog (Instr.indexAt 24 (.slice Ax9 lx9 cx9) (.int .i64 y78)) (.pointer ((some a62))) ∧
 ∃ n63 : Int, QRun Tryd.prog (Instr.loadAt 3 (.pointer ((some a62)))) H0 (.int .i64 n63) ∧
 ∃ a64 : Addr, AQ Tryd.prog (Instr.indexAt 23 (.slice A61 l61 c61) (.int .i64 n63)) (.pointer ((some a64))) ∧
 ∃ n65 : Int, ∃ n66 : Int, ∃ n67 : Int, ∃ n68 : Int, ∃ n69 : Int, QRun Tryd.prog (Instr.loadAt 50 (.pointer ((some a64)))) H0 (.agg #[(.int .i64 n65), (.int .i64 n66), (.int .i64 n67), (.int .i64 n68), (.int .u64 n69)]) ∧
 ∃ a70 : Addr, AQ Tryd.prog (Instr.fieldAt 26 (.pointer ((some x4))) 1) (.pointer ((some a70))) ∧
 ∃ (A71 : Option Addr) (l71 c71 : Nat), QRun Tryd.prog (Instr.loadAt 23 (.pointer ((some a70)))) H0 (.slice A71 l71 c71) ∧
 ∃ a72 : Addr, AQ Tryd.prog (Instr.indexAt 24 (.slice Ax10 lx10 cx10) (.int .i64 y78)) (.pointer ((some a72))) ∧
 ∃ n73 : Int, QRun Tryd.prog (Instr.loadAt 3 (.pointer ((some a72)))) H0 (.int .i64 n73) ∧
 ∃ a74 : Addr, AQ Tryd.prog (Instr.indexAt 23 (.slice A71 l71 c71) (.int .i64 n73)) (.pointer ((some a74))) ∧
 ∃ n75 : Int, ∃ n76 : Int, ∃ n77 : Int, ∃ n78 : Int, ∃ n79 : Int, QRun Tryd.prog (Instr.loadAt 50 (.pointer ((some a74)))) H0 (.agg #[(.int .i64 n75), (.int .i64 n76), (.int .i64 n77), (.int .i64 n78), (.int .u64 n79)]) ∧
 ∃ b80 : Bool, AQ Tryd.prog (binSem .neq 50 (.tmp 102) (.tmp 110) (.agg #[(.int .i64 n65), (.int .i64 n66), (.int .i64 n67), (.int .i64 n68), (.int .u64 n69)]) (.agg #[(.int .i64 n75), (.int .i64 n76), (.int .i64 n77), (.int .i64 n78), (.int .u64 n79)])) (.bool b80) ∧
 if b80 = true then
 K (.bool false) H0
 else
 N1 (.int .i64 ((IntKind.i64.wrap (y78 + 1)))) H0
 else
 K (.bool false) H0
 else
 ∃ a81 : Addr, AQ Tryd.prog (Instr.fieldAt 26 (.pointer ((some x3))) 1) (.pointer ((some a81))) ∧
 ∃ (A82 : Option Addr) (l82 c82 : Nat), QRun Tryd.prog (Instr.loadAt 23 (.pointer ((some a81)))) H0 (.slice A82 l82 c82) ∧
 optimize_CheckCertificate.P2 base [(.pointer ((some x3))), (.pointer ((some x4))), (.pointer ((some x5))), (.slice A82 l82 c82), (.int .i64 (((l82 : Nat) : Int))), (.int .i64 0)] H0 K
theorem optimize_CheckCertificate.loop1 {base : Nat} {x3 x4 x5 : Addr} {Ax9 : Option Addr} {lx9 cx9 : Nat} {Ax10 : Option Addr} {lx10 cx10 : Nat} {x77 y78_i : Int} {H0 : HH} {K : Value → HH → Prop} (J : Nat → Int → HH → Prop) (n : Nat) (h0 : J n y78_i H0)
    (hs : ∀ (n : Nat) (y78 : Int) (g : Fr) (H0 : HH), J n y78 H0 → optimize_CheckCertificate.B1 base x3 x4 x5 Ax9 lx9 cx9 Ax10 lx10 cx10 x77 y78 g (fun w78 H => ∃ n', n' < n ∧ ∃ (y78' : Int), w78 = (.int .i64 y78') ∧ J n' y78' H) H0 K) : optimize_CheckCertificate.P1 base [(.pointer ((some x3))), (.pointer ((some x4))), (.pointer ((some x5))), (.slice Ax9 lx9 cx9), (.slice Ax10 lx10 cx10), (.int .i64 x77), (.int .i64 y78_i)] H0 K := by
  refine loop_rule (ann := optimize_CheckCertificate.ann) (body := codeAt [.r, .r, .r, .r, .r, .l, .r, .b, .lp] (bodyOf Tryd.f7)) mix (by kernel_rfl) 20769187433837079059218328023205952 (by kernel_rfl) [3, 4, 5, 9, 10, 77] [(.pointer ((some x3))), (.pointer ((some x4))), (.pointer ((some x5))), (.slice Ax9 lx9 cx9), (.slice Ax10 lx10 cx10), (.int .i64 x77)] (by kernel_rfl) (fun fr ⟨e3, e4, e5, e9, e10, e77, e78, _⟩ => ⟨e3, e4, e5, e9, e10, e77, trivial⟩) (fun n g H => ∃ (y78 : Int), g 78 = (.int .i64 y78) ∧ J n y78 H) n (fun fr ⟨e3, e4, e5, e9, e10, e77, e78, _⟩ => ⟨y78_i, e78, h0⟩) ?_
  rintro n g H0 ⟨e3, e4, e5, e9, e10, e77, _⟩ ⟨y78, e78, hJ⟩
  rw [← ov_eq (g := g) [(3, (.pointer ((some x3)))), (4, (.pointer ((some x4)))), (5, (.pointer ((some x5)))), (9, (.slice Ax9 lx9 cx9)), (10, (.slice Ax10 lx10 cx10)), (77, (.int .i64 x77)), (78, (.int .i64 y78))] (by simp only [List.mem_cons, List.not_mem_nil, or_false, forall_eq_or_imp, forall_eq, false_implies, implies_true]; exact ⟨e3, e4, e5, e9, e10, e77, e78⟩)]
  have key : ∀ NN : Value → HH → Prop, optimize_CheckCertificate.B1 base x3 x4 x5 Ax9 lx9 cx9 Ax10 lx10 cx10 x77 y78 g NN H0 K = wpC Tryd.prog base 175 optimize_CheckCertificate.ann (codeAt [.r, .r, .r, .r, .r, .l, .r, .b, .lp] (bodyOf Tryd.f7)) (ov g [(3, (.pointer ((some x3)))), (4, (.pointer ((some x4)))), (5, (.pointer ((some x5)))), (9, (.slice Ax9 lx9 cx9)), (10, (.slice Ax10 lx10 cx10)), (77, (.int .i64 x77)), (78, (.int .i64 y78))]) H0 (thenQ (fun fr H => NN (fr 78) H) (qAt Tryd.prog base 175 optimize_CheckCertificate.ann [.r, .r, .r, .r, .r, .l, .r, .b] [] (bodyOf Tryd.f7) (retQ Tryd.prog 175 Tryd.f7 K))) := fun NN => by kernel_rfl
  refine cast ?_ (hs n y78 g H0 hJ)
  refine (key (fun w78 H => ∃ n', n' < n ∧ ∃ (y78' : Int), w78 = (.int .i64 y78') ∧ J n' y78' H)).trans ?_
  kernel_rfl
def optimize_CheckCertificate.B2 (base : Nat) (x3 x4 x5 : Addr) (Ax115 : Option Addr) (lx115 cx115 : Nat) (x116 : Int) (y117 : Int) (g : Fr) (N2 : Value → HH → Prop) (H0 : HH) (K : Value → HH → Prop) : Prop :=
 if (decide ((y117 : Int) < x116)) = true then
 ∃ a83 : Addr, AQ Tryd.prog (Instr.indexAt 23 (.slice Ax115 lx115 cx115) (.int .i64 y117)) (.pointer ((some a83))) ∧
 ∃ n84 : Int, ∃ n85 : Int, ∃ n86 : Int, ∃ n87 : Int, ∃ n88 : Int, QRun Tryd.prog (Instr.loadAt 50 (.pointer ((some a83)))) H0 (.agg #[(.int .i64 n84), (.int .i64 n85), (.int .i64 n86), (.int .i64 n87), (.int .u64 n88)]) ∧
 HRun Tryd.prog base (Instr.alloc 50 true (.tuple #[])) H0 fun v89 H90 =>
 ∃ a91 : Addr, v89 = (.pointer ((some a91))) ∧ HRun Tryd.prog base (Instr.storeAt 50 (.pointer ((some a91))) (.agg #[(.int .i64 n84), (.int .i64 n85), (.int .i64 n86), (.int .i64 n87), (.int .u64 n88)])) H90 fun _ H92 =>
 ∃ a93 : Addr, AQ Tryd.prog (Instr.fieldAt 28 (.pointer ((some x5))) 0) (.pointer ((some a93))) ∧
 ∃ (A94 : Option Addr) (l94 c94 : Nat), QRun Tryd.prog (Instr.loadAt 24 (.pointer ((some a93)))) H92 (.slice A94 l94 c94) ∧
 ∃ a95 : Addr, AQ Tryd.prog (Instr.indexAt 24 (.slice A94 l94 c94) (.int .i64 y117)) (.pointer ((some a95))) ∧
 ∃ n96 : Int, QRun Tryd.prog (Instr.loadAt 3 (.pointer ((some a95)))) H92 (.int .i64 n96) ∧
 ∃ a97 : Addr, AQ Tryd.prog (Instr.fieldAt 50 (.pointer ((some a91))) 0) (.pointer ((some a97))) ∧
 ∃ n98 : Int, QRun Tryd.prog (Instr.loadAt 3 (.pointer ((some a97)))) H92 (.int .i64 n98) ∧
 if ((n98 : Int) != 1) = true then
 if (decide ((n96 : Int) ≥ 0)) = true then
 ∃ n99 : Int, ∃ n100 : Int, ∃ n101 : Int, ∃ n102 : Int, ∃ n103 : Int, QRun Tryd.prog (Instr.loadAt 50 (.pointer ((some a91)))) H92 (.agg #[(.int .i64 n99), (.int .i64 n100), (.int .i64 n101), (.int .i64 n102), (.int .u64 n103)]) ∧
 ∃ a104 : Addr, AQ Tryd.prog (Instr.fieldAt 26 (.pointer ((some x4))) 1) (.pointer ((some a104))) ∧
 ∃ (A105 : Option Addr) (l105 c105 : Nat), QRun Tryd.prog (Instr.loadAt 23 (.pointer ((some a104)))) H92 (.slice A105 l105 c105) ∧
 ∃ a106 : Addr, AQ Tryd.prog (Instr.indexAt 23 (.slice A105 l105 c105) (.int .i64 n96)) (.pointer ((some a106))) ∧
 ∃ n107 : Int, ∃ n108 : Int, ∃ n109 : Int, ∃ n110 : Int, ∃ n111 : Int, QRun Tryd.prog (Instr.loadAt 50 (.pointer ((some a106)))) H92 (.agg #[(.int .i64 n107), (.int .i64 n108), (.int .i64 n109), (.int .i64 n110), (.int .u64 n111)]) ∧
 ∃ a112 : Addr, AQ Tryd.prog (Instr.fieldAt 28 (.pointer ((some x5))) 0) (.pointer ((some a112))) ∧
 ∃ (A113 : Option Addr) (l113 c113 : Nat), QRun Tryd.prog (Instr.loadAt 24 (.pointer ((some a112)))) H92 (.slice A113 l113 c113) ∧
 HCall Tryd.prog base 17 #[(.agg #[(.int .i64 n99), (.int .i64 n100), (.int .i64 n101), (.int .i64 n102), (.int .u64 n103)]), (.agg #[(.int .i64 n107), (.int .i64 n108), (.int .i64 n109), (.int .i64 n110), (.int .u64 n111)]), (.slice A113 l113 c113)] H92 fun v114 H115 =>
 ∃ b116 : Bool, v114 = (.bool b116) ∧ if (!b116) = true then
 K (.bool false) H115
 else
 N2 (.int .i64 ((IntKind.i64.wrap (y117 + 1)))) H115
 else
 N2 (.int .i64 ((IntKind.i64.wrap (y117 + 1)))) H92
 else
 N2 (.int .i64 ((IntKind.i64.wrap (y117 + 1)))) H92
 else
 ∃ a117 : Addr, AQ Tryd.prog (Instr.fieldAt 26 (.pointer ((some x3))) 2) (.pointer ((some a117))) ∧
 ∃ (A118 : Option Addr) (l118 c118 : Nat), QRun Tryd.prog (Instr.loadAt 24 (.pointer ((some a117)))) H0 (.slice A118 l118 c118) ∧
 optimize_CheckCertificate.P3 base [(.pointer ((some x4))), (.pointer ((some x5))), (.slice A118 l118 c118), (.int .i64 (((l118 : Nat) : Int))), (.int .i64 0)] H0 K
theorem optimize_CheckCertificate.loop2 {base : Nat} {x3 x4 x5 : Addr} {Ax115 : Option Addr} {lx115 cx115 : Nat} {x116 y117_i : Int} {H0 : HH} {K : Value → HH → Prop} (J : Nat → Int → HH → Prop) (n : Nat) (h0 : J n y117_i H0)
    (hs : ∀ (n : Nat) (y117 : Int) (g : Fr) (H0 : HH), J n y117 H0 → optimize_CheckCertificate.B2 base x3 x4 x5 Ax115 lx115 cx115 x116 y117 g (fun w117 H => ∃ n', n' < n ∧ ∃ (y117' : Int), w117 = (.int .i64 y117') ∧ J n' y117' H) H0 K) : optimize_CheckCertificate.P2 base [(.pointer ((some x3))), (.pointer ((some x4))), (.pointer ((some x5))), (.slice Ax115 lx115 cx115), (.int .i64 x116), (.int .i64 y117_i)] H0 K := by
  refine loop_rule (ann := optimize_CheckCertificate.ann) (body := codeAt [.r, .r, .r, .r, .r, .r, .l, .r, .b, .lp] (bodyOf Tryd.f7)) mix (by kernel_rfl) 178405961422091485659171262068211009512828992 (by kernel_rfl) [3, 4, 5, 115, 116] [(.pointer ((some x3))), (.pointer ((some x4))), (.pointer ((some x5))), (.slice Ax115 lx115 cx115), (.int .i64 x116)] (by kernel_rfl) (fun fr ⟨e3, e4, e5, e115, e116, e117, _⟩ => ⟨e3, e4, e5, e115, e116, trivial⟩) (fun n g H => ∃ (y117 : Int), g 117 = (.int .i64 y117) ∧ J n y117 H) n (fun fr ⟨e3, e4, e5, e115, e116, e117, _⟩ => ⟨y117_i, e117, h0⟩) ?_
  rintro n g H0 ⟨e3, e4, e5, e115, e116, _⟩ ⟨y117, e117, hJ⟩
  rw [← ov_eq (g := g) [(3, (.pointer ((some x3)))), (4, (.pointer ((some x4)))), (5, (.pointer ((some x5)))), (115, (.slice Ax115 lx115 cx115)), (116, (.int .i64 x116)), (117, (.int .i64 y117))] (by simp only [List.mem_cons, List.not_mem_nil, or_false, forall_eq_or_imp, forall_eq, false_implies, implies_true]; exact ⟨e3, e4, e5, e115, e116, e117⟩)]
  have key : ∀ NN : Value → HH → Prop, optimize_CheckCertificate.B2 base x3 x4 x5 Ax115 lx115 cx115 x116 y117 g NN H0 K = wpC Tryd.prog base 175 optimize_CheckCertificate.ann (codeAt [.r, .r, .r, .r, .r, .r, .l, .r, .b, .lp] (bodyOf Tryd.f7)) (ov g [(3, (.pointer ((some x3)))), (4, (.pointer ((some x4)))), (5, (.pointer ((some x5)))), (115, (.slice Ax115 lx115 cx115)), (116, (.int .i64 x116)), (117, (.int .i64 y117))]) H0 (thenQ (fun fr H => NN (fr 117) H) (qAt Tryd.prog base 175 optimize_CheckCertificate.ann [.r, .r, .r, .r, .r, .r, .l, .r, .b] [] (bodyOf Tryd.f7) (retQ Tryd.prog 175 Tryd.f7 K))) := fun NN => by kernel_rfl
  refine cast ?_ (hs n y117 g H0 hJ)
  refine (key (fun w117 H => ∃ n', n' < n ∧ ∃ (y117' : Int), w117 = (.int .i64 y117') ∧ J n' y117' H)).trans ?_
  kernel_rfl
def optimize_CheckCertificate.B3 (base : Nat) (x4 x5 : Addr) (Ax148 : Option Addr) (lx148 cx148 : Nat) (x149 : Int) (y150 : Int) (g : Fr) (N3 : Value → HH → Prop) (H0 : HH) (K : Value → HH → Prop) : Prop :=
 if (decide ((y150 : Int) < x149)) = true then
 ∃ a119 : Addr, AQ Tryd.prog (Instr.indexAt 24 (.slice Ax148 lx148 cx148) (.int .i64 y150)) (.pointer ((some a119))) ∧
 ∃ n120 : Int, QRun Tryd.prog (Instr.loadAt 3 (.pointer ((some a119)))) H0 (.int .i64 n120) ∧
 ∃ a121 : Addr, AQ Tryd.prog (Instr.fieldAt 28 (.pointer ((some x5))) 0) (.pointer ((some a121))) ∧
 ∃ (A122 : Option Addr) (l122 c122 : Nat), QRun Tryd.prog (Instr.loadAt 24 (.pointer ((some a121)))) H0 (.slice A122 l122 c122) ∧
 ∃ a123 : Addr, AQ Tryd.prog (Instr.indexAt 24 (.slice A122 l122 c122) (.int .i64 n120)) (.pointer ((some a123))) ∧
 ∃ n124 : Int, QRun Tryd.prog (Instr.loadAt 3 (.pointer ((some a123)))) H0 (.int .i64 n124) ∧
 if (decide ((n124 : Int) < 0)) = false then
 ∃ a125 : Addr, AQ Tryd.prog (Instr.fieldAt 28 (.pointer ((some x5))) 0) (.pointer ((some a125))) ∧
 ∃ (A126 : Option Addr) (l126 c126 : Nat), QRun Tryd.prog (Instr.loadAt 24 (.pointer ((some a125)))) H0 (.slice A126 l126 c126) ∧
 ∃ a127 : Addr, AQ Tryd.prog (Instr.indexAt 24 (.slice A126 l126 c126) (.int .i64 n120)) (.pointer ((some a127))) ∧
 ∃ n128 : Int, QRun Tryd.prog (Instr.loadAt 3 (.pointer ((some a127)))) H0 (.int .i64 n128) ∧
 ∃ a129 : Addr, AQ Tryd.prog (Instr.fieldAt 26 (.pointer ((some x4))) 2) (.pointer ((some a129))) ∧
 ∃ (A130 : Option Addr) (l130 c130 : Nat), QRun Tryd.prog (Instr.loadAt 24 (.pointer ((some a129)))) H0 (.slice A130 l130 c130) ∧
 ∃ a131 : Addr, AQ Tryd.prog (Instr.indexAt 24 (.slice A130 l130 c130) (.int .i64 y150)) (.pointer ((some a131))) ∧
 ∃ n132 : Int, QRun Tryd.prog (Instr.loadAt 3 (.pointer ((some a131)))) H0 (.int .i64 n132) ∧
 if ((n128 : Int) != n132) = true then
 K (.bool false) H0
 else
 N3 (.int .i64 ((IntKind.i64.wrap (y150 + 1)))) H0
 else
 K (.bool false) H0
 else
 K (.bool true) H0
theorem optimize_CheckCertificate.loop3 {base : Nat} {x4 x5 : Addr} {Ax148 : Option Addr} {lx148 cx148 : Nat} {x149 y150_i : Int} {H0 : HH} {K : Value → HH → Prop} (J : Nat → Int → HH → Prop) (n : Nat) (h0 : J n y150_i H0)
    (hs : ∀ (n : Nat) (y150 : Int) (g : Fr) (H0 : HH), J n y150 H0 → optimize_CheckCertificate.B3 base x4 x5 Ax148 lx148 cx148 x149 y150 g (fun w150 H => ∃ n', n' < n ∧ ∃ (y150' : Int), w150 = (.int .i64 y150') ∧ J n' y150' H) H0 K) : optimize_CheckCertificate.P3 base [(.pointer ((some x4))), (.pointer ((some x5))), (.slice Ax148 lx148 cx148), (.int .i64 x149), (.int .i64 y150_i)] H0 K := by
  refine loop_rule (ann := optimize_CheckCertificate.ann) (body := codeAt [.r, .r, .r, .r, .r, .r, .r, .l, .r, .b, .lp] (bodyOf Tryd.f7)) mix (by kernel_rfl) 47890484224811334117738463540161192538590461185589312 (by kernel_rfl) [4, 5, 148, 149] [(.pointer ((some x4))), (.pointer ((some x5))), (.slice Ax148 lx148 cx148), (.int .i64 x149)] (by kernel_rfl) (fun fr ⟨e4, e5, e148, e149, e150, _⟩ => ⟨e4, e5, e148, e149, trivial⟩) (fun n g H => ∃ (y150 : Int), g 150 = (.int .i64 y150) ∧ J n y150 H) n (fun fr ⟨e4, e5, e148, e149, e150, _⟩ => ⟨y150_i, e150, h0⟩) ?_
  rintro n g H0 ⟨e4, e5, e148, e149, _⟩ ⟨y150, e150, hJ⟩
  rw [← ov_eq (g := g) [(4, (.pointer ((some x4)))), (5, (.pointer ((some x5)))), (148, (.slice Ax148 lx148 cx148)), (149, (.int .i64 x149)), (150, (.int .i64 y150))] (by simp only [List.mem_cons, List.not_mem_nil, or_false, forall_eq_or_imp, forall_eq, false_implies, implies_true]; exact ⟨e4, e5, e148, e149, e150⟩)]
  have key : ∀ NN : Value → HH → Prop, optimize_CheckCertificate.B3 base x4 x5 Ax148 lx148 cx148 x149 y150 g NN H0 K = wpC Tryd.prog base 175 optimize_CheckCertificate.ann (codeAt [.r, .r, .r, .r, .r, .r, .r, .l, .r, .b, .lp] (bodyOf Tryd.f7)) (ov g [(4, (.pointer ((some x4)))), (5, (.pointer ((some x5)))), (148, (.slice Ax148 lx148 cx148)), (149, (.int .i64 x149)), (150, (.int .i64 y150))]) H0 (thenQ (fun fr H => NN (fr 150) H) (qAt Tryd.prog base 175 optimize_CheckCertificate.ann [.r, .r, .r, .r, .r, .r, .r, .l, .r, .b] [] (bodyOf Tryd.f7) (retQ Tryd.prog 175 Tryd.f7 K))) := fun NN => by kernel_rfl
  refine cast ?_ (hs n y150 g H0 hJ)
  refine (key (fun w150 H => ∃ n', n' < n ∧ ∃ (y150' : Int), w150 = (.int .i64 y150') ∧ J n' y150' H)).trans ?_
  kernel_rfl
def privityref36_Ints.ann : Ann := ⟨fun k => bif Nat.beq k 6 then [] else [], fun k => false, fun k => bif Nat.beq k 4 then [0, 1, 5] else []⟩
def privityref36_Ints.P0 (base : Nat) (l : List Value) (H0 : HH) (K : Value → HH → Prop) : Prop := HCodeL Tryd.prog base 26 (codeAt [.r, .r, .l, .r, .b] (bodyOf Tryd.f20)) [0, 1, 5] l H0 (qAt Tryd.prog base 26 privityref36_Ints.ann [.r, .r, .l, .r, .b] [] (bodyOf Tryd.f20) (retQ Tryd.prog 26 Tryd.f20 K))
def privityref36_Ints.sh (base : Nat) (Ax0 : Option Addr) (lx0 cx0 : Nat) (Ax1 : Option Addr) (lx1 cx1 : Nat) (H0 : HH) (K : Value → HH → Prop) : Prop :=
 if ((((lx0 : Nat) : Int) : Int) != (((lx1 : Nat) : Int))) = true then
 K (.bool false) H0
 else
 privityref36_Ints.P0 base [(.slice Ax0 lx0 cx0), (.slice Ax1 lx1 cx1), (.int .i64 0)] H0 K
theorem privityref36_Ints.spec {base : Nat} {Ax0 : Option Addr} {lx0 cx0 : Nat} {Ax1 : Option Addr} {lx1 cx1 : Nat} {H0 : HH} {K : Value → HH → Prop} (h : privityref36_Ints.sh base Ax0 lx0 cx0 Ax1 lx1 cx1 H0 K) : HCall Tryd.prog base 20 #[(.slice Ax0 lx0 cx0), (.slice Ax1 lx1 cx1)] H0 K := spec_of_wpC (n := 26) (ann := privityref36_Ints.ann) mix Tryd.func20 (by kernel_rfl) (cast (show privityref36_Ints.sh base Ax0 lx0 cx0 Ax1 lx1 cx1 H0 K = wpC Tryd.prog base 26 privityref36_Ints.ann (bodyOf Tryd.f20) (ofL [(.slice Ax0 lx0 cx0), (.slice Ax1 lx1 cx1)]) H0 (retQ Tryd.prog 26 Tryd.f20 K) by kernel_rfl) h)
def privityref36_Ints.B0 (base : Nat) (Ax0 : Option Addr) (lx0 cx0 : Nat) (Ax1 : Option Addr) (lx1 cx1 : Nat) (y5 : Int) (g : Fr) (N0 : Value → HH → Prop) (H0 : HH) (K : Value → HH → Prop) : Prop :=
 if (decide ((y5 : Int) < (((lx0 : Nat) : Int)))) = true then
 ∃ a1 : Addr, AQ Tryd.prog (Instr.indexAt 24 (.slice Ax0 lx0 cx0) (.int .i64 y5)) (.pointer ((some a1))) ∧
 ∃ n2 : Int, QRun Tryd.prog (Instr.loadAt 3 (.pointer ((some a1)))) H0 (.int .i64 n2) ∧
 ∃ a3 : Addr, AQ Tryd.prog (Instr.indexAt 24 (.slice Ax1 lx1 cx1) (.int .i64 y5)) (.pointer ((some a3))) ∧
 ∃ n4 : Int, QRun Tryd.prog (Instr.loadAt 3 (.pointer ((some a3)))) H0 (.int .i64 n4) ∧
 if ((n2 : Int) != n4) = true then
 K (.bool false) H0
 else
 N0 (.int .i64 ((IntKind.i64.wrap (y5 + 1)))) H0
 else
 K (.bool true) H0
theorem privityref36_Ints.loop0 {base : Nat} {Ax0 : Option Addr} {lx0 cx0 : Nat} {Ax1 : Option Addr} {lx1 cx1 : Nat} {y5_i : Int} {H0 : HH} {K : Value → HH → Prop} (J : Nat → Int → HH → Prop) (n : Nat) (h0 : J n y5_i H0)
    (hs : ∀ (n : Nat) (y5 : Int) (g : Fr) (H0 : HH), J n y5 H0 → privityref36_Ints.B0 base Ax0 lx0 cx0 Ax1 lx1 cx1 y5 g (fun w5 H => ∃ n', n' < n ∧ ∃ (y5' : Int), w5 = (.int .i64 y5') ∧ J n' y5' H) H0 K) : privityref36_Ints.P0 base [(.slice Ax0 lx0 cx0), (.slice Ax1 lx1 cx1), (.int .i64 y5_i)] H0 K := by
  refine loop_rule (ann := privityref36_Ints.ann) (body := codeAt [.r, .r, .l, .r, .b, .lp] (bodyOf Tryd.f20)) mix (by kernel_rfl) 67106864 (by kernel_rfl) [0, 1] [(.slice Ax0 lx0 cx0), (.slice Ax1 lx1 cx1)] (by kernel_rfl) (fun fr ⟨e0, e1, e5, _⟩ => ⟨e0, e1, trivial⟩) (fun n g H => ∃ (y5 : Int), g 5 = (.int .i64 y5) ∧ J n y5 H) n (fun fr ⟨e0, e1, e5, _⟩ => ⟨y5_i, e5, h0⟩) ?_
  rintro n g H0 ⟨e0, e1, _⟩ ⟨y5, e5, hJ⟩
  rw [← ov_eq (g := g) [(0, (.slice Ax0 lx0 cx0)), (1, (.slice Ax1 lx1 cx1)), (5, (.int .i64 y5))] (by simp only [List.mem_cons, List.not_mem_nil, or_false, forall_eq_or_imp, forall_eq, false_implies, implies_true]; exact ⟨e0, e1, e5⟩)]
  have key : ∀ NN : Value → HH → Prop, privityref36_Ints.B0 base Ax0 lx0 cx0 Ax1 lx1 cx1 y5 g NN H0 K = wpC Tryd.prog base 26 privityref36_Ints.ann (codeAt [.r, .r, .l, .r, .b, .lp] (bodyOf Tryd.f20)) (ov g [(0, (.slice Ax0 lx0 cx0)), (1, (.slice Ax1 lx1 cx1)), (5, (.int .i64 y5))]) H0 (thenQ (fun fr H => NN (fr 5) H) (qAt Tryd.prog base 26 privityref36_Ints.ann [.r, .r, .l, .r, .b] [] (bodyOf Tryd.f20) (retQ Tryd.prog 26 Tryd.f20 K))) := fun NN => by kernel_rfl
  refine cast ?_ (hs n y5 g H0 hJ)
  refine (key (fun w5 H => ∃ n', n' < n ∧ ∃ (y5' : Int), w5 = (.int .i64 y5') ∧ J n' y5' H)).trans ?_
  kernel_rfl
def privityref32_Equal.ann : Ann := ⟨fun k => bif Nat.beq k 6 then [] else bif Nat.beq k 11 then [] else [], fun k => false, fun k => bif Nat.beq k 4 then [2, 3, 5] else bif Nat.beq k 9 then [2, 3, 6] else []⟩
def privityref32_Equal.P0 (base : Nat) (l : List Value) (H0 : HH) (K : Value → HH → Prop) : Prop := HCodeL Tryd.prog base 66 (codeAt [.r, .r, .l, .r, .b] (bodyOf Tryd.f19)) [2, 3, 5] l H0 (qAt Tryd.prog base 66 privityref32_Equal.ann [.r, .r, .l, .r, .b] [] (bodyOf Tryd.f19) (retQ Tryd.prog 66 Tryd.f19 K))
def privityref32_Equal.P1 (base : Nat) (l : List Value) (H0 : HH) (K : Value → HH → Prop) : Prop := HCodeL Tryd.prog base 66 (codeAt [.r, .r, .r, .l, .r, .b] (bodyOf Tryd.f19)) [2, 3, 6] l H0 (qAt Tryd.prog base 66 privityref32_Equal.ann [.r, .r, .r, .l, .r, .b] [] (bodyOf Tryd.f19) (retQ Tryd.prog 66 Tryd.f19 K))
def privityref32_Equal.sh (base : Nat) (x0_0 : Int) (Ax0_1 : Option Addr) (lx0_1 cx0_1 : Nat) (Ax0_2 : Option Addr) (lx0_2 cx0_2 : Nat) (x1_0 : Int) (Ax1_1 : Option Addr) (lx1_1 cx1_1 : Nat) (Ax1_2 : Option Addr) (lx1_2 cx1_2 : Nat) (H0 : HH) (K : Value → HH → Prop) : Prop :=
 HRun Tryd.prog base (Instr.box 26 (.agg #[(.int .u64 x0_0), (.slice Ax0_1 lx0_1 cx0_1), (.slice Ax0_2 lx0_2 cx0_2)])) H0 fun v1 H2 =>
 ∃ a3 : Addr, v1 = (.pointer ((some a3))) ∧ HRun Tryd.prog base (Instr.box 26 (.agg #[(.int .u64 x1_0), (.slice Ax1_1 lx1_1 cx1_1), (.slice Ax1_2 lx1_2 cx1_2)])) H2 fun v4 H5 =>
 ∃ a6 : Addr, v4 = (.pointer ((some a6))) ∧ ∃ a7 : Addr, AQ Tryd.prog (Instr.fieldAt 26 (.pointer ((some a3))) 0) (.pointer ((some a7))) ∧
 ∃ n8 : Int, QRun Tryd.prog (Instr.loadAt 22 (.pointer ((some a7)))) H5 (.int .u64 n8) ∧
 ∃ a9 : Addr, AQ Tryd.prog (Instr.fieldAt 26 (.pointer ((some a6))) 0) (.pointer ((some a9))) ∧
 ∃ n10 : Int, QRun Tryd.prog (Instr.loadAt 22 (.pointer ((some a9)))) H5 (.int .u64 n10) ∧
 if ((n8 : Int) != n10) = false then
 ∃ a11 : Addr, AQ Tryd.prog (Instr.fieldAt 26 (.pointer ((some a3))) 1) (.pointer ((some a11))) ∧
 ∃ (A12 : Option Addr) (l12 c12 : Nat), QRun Tryd.prog (Instr.loadAt 23 (.pointer ((some a11)))) H5 (.slice A12 l12 c12) ∧
 ∃ a13 : Addr, AQ Tryd.prog (Instr.fieldAt 26 (.pointer ((some a6))) 1) (.pointer ((some a13))) ∧
 ∃ (A14 : Option Addr) (l14 c14 : Nat), QRun Tryd.prog (Instr.loadAt 23 (.pointer ((some a13)))) H5 (.slice A14 l14 c14) ∧
 if ((((l12 : Nat) : Int) : Int) != (((l14 : Nat) : Int))) = false then
 ∃ a15 : Addr, AQ Tryd.prog (Instr.fieldAt 26 (.pointer ((some a3))) 2) (.pointer ((some a15))) ∧
 ∃ (A16 : Option Addr) (l16 c16 : Nat), QRun Tryd.prog (Instr.loadAt 24 (.pointer ((some a15)))) H5 (.slice A16 l16 c16) ∧
 ∃ a17 : Addr, AQ Tryd.prog (Instr.fieldAt 26 (.pointer ((some a6))) 2) (.pointer ((some a17))) ∧
 ∃ (A18 : Option Addr) (l18 c18 : Nat), QRun Tryd.prog (Instr.loadAt 24 (.pointer ((some a17)))) H5 (.slice A18 l18 c18) ∧
 if ((((l16 : Nat) : Int) : Int) != (((l18 : Nat) : Int))) = true then
 K (.bool false) H5
 else
 privityref32_Equal.P0 base [(.pointer ((some a3))), (.pointer ((some a6))), (.int .i64 0)] H5 K
 else
 K (.bool false) H5
 else
 K (.bool false) H5
theorem privityref32_Equal.spec {base : Nat} {x0_0 : Int} {Ax0_1 : Option Addr} {lx0_1 cx0_1 : Nat} {Ax0_2 : Option Addr} {lx0_2 cx0_2 : Nat} {x1_0 : Int} {Ax1_1 : Option Addr} {lx1_1 cx1_1 : Nat} {Ax1_2 : Option Addr} {lx1_2 cx1_2 : Nat} {H0 : HH} {K : Value → HH → Prop} (h : privityref32_Equal.sh base x0_0 Ax0_1 lx0_1 cx0_1 Ax0_2 lx0_2 cx0_2 x1_0 Ax1_1 lx1_1 cx1_1 Ax1_2 lx1_2 cx1_2 H0 K) : HCall Tryd.prog base 19 #[(.agg #[(.int .u64 x0_0), (.slice Ax0_1 lx0_1 cx0_1), (.slice Ax0_2 lx0_2 cx0_2)]), (.agg #[(.int .u64 x1_0), (.slice Ax1_1 lx1_1 cx1_1), (.slice Ax1_2 lx1_2 cx1_2)])] H0 K := spec_of_wpC (n := 66) (ann := privityref32_Equal.ann) mix Tryd.func19 (by kernel_rfl) (cast (show privityref32_Equal.sh base x0_0 Ax0_1 lx0_1 cx0_1 Ax0_2 lx0_2 cx0_2 x1_0 Ax1_1 lx1_1 cx1_1 Ax1_2 lx1_2 cx1_2 H0 K = wpC Tryd.prog base 66 privityref32_Equal.ann (bodyOf Tryd.f19) (ofL [(.agg #[(.int .u64 x0_0), (.slice Ax0_1 lx0_1 cx0_1), (.slice Ax0_2 lx0_2 cx0_2)]), (.agg #[(.int .u64 x1_0), (.slice Ax1_1 lx1_1 cx1_1), (.slice Ax1_2 lx1_2 cx1_2)])]) H0 (retQ Tryd.prog 66 Tryd.f19 K) by kernel_rfl) h)
def privityref32_Equal.B0 (base : Nat) (x2 x3 : Addr) (y5 : Int) (g : Fr) (N0 : Value → HH → Prop) (H0 : HH) (K : Value → HH → Prop) : Prop :=
 ∃ a19 : Addr, AQ Tryd.prog (Instr.fieldAt 26 (.pointer ((some x2))) 1) (.pointer ((some a19))) ∧
 ∃ (A20 : Option Addr) (l20 c20 : Nat), QRun Tryd.prog (Instr.loadAt 23 (.pointer ((some a19)))) H0 (.slice A20 l20 c20) ∧
 if (decide ((y5 : Int) < (((l20 : Nat) : Int)))) = true then
 ∃ a21 : Addr, AQ Tryd.prog (Instr.fieldAt 26 (.pointer ((some x2))) 1) (.pointer ((some a21))) ∧
 ∃ (A22 : Option Addr) (l22 c22 : Nat), QRun Tryd.prog (Instr.loadAt 23 (.pointer ((some a21)))) H0 (.slice A22 l22 c22) ∧
 ∃ a23 : Addr, AQ Tryd.prog (Instr.indexAt 23 (.slice A22 l22 c22) (.int .i64 y5)) (.pointer ((some a23))) ∧
 ∃ n24 : Int, ∃ n25 : Int, ∃ n26 : Int, ∃ n27 : Int, ∃ n28 : Int, QRun Tryd.prog (Instr.loadAt 50 (.pointer ((some a23)))) H0 (.agg #[(.int .i64 n24), (.int .i64 n25), (.int .i64 n26), (.int .i64 n27), (.int .u64 n28)]) ∧
 ∃ a29 : Addr, AQ Tryd.prog (Instr.fieldAt 26 (.pointer ((some x3))) 1) (.pointer ((some a29))) ∧
 ∃ (A30 : Option Addr) (l30 c30 : Nat), QRun Tryd.prog (Instr.loadAt 23 (.pointer ((some a29)))) H0 (.slice A30 l30 c30) ∧
 ∃ a31 : Addr, AQ Tryd.prog (Instr.indexAt 23 (.slice A30 l30 c30) (.int .i64 y5)) (.pointer ((some a31))) ∧
 ∃ n32 : Int, ∃ n33 : Int, ∃ n34 : Int, ∃ n35 : Int, ∃ n36 : Int, QRun Tryd.prog (Instr.loadAt 50 (.pointer ((some a31)))) H0 (.agg #[(.int .i64 n32), (.int .i64 n33), (.int .i64 n34), (.int .i64 n35), (.int .u64 n36)]) ∧
 ∃ b37 : Bool, AQ Tryd.prog (binSem .neq 50 (.tmp 41) (.tmp 46) (.agg #[(.int .i64 n24), (.int .i64 n25), (.int .i64 n26), (.int .i64 n27), (.int .u64 n28)]) (.agg #[(.int .i64 n32), (.int .i64 n33), (.int .i64 n34), (.int .i64 n35), (.int .u64 n36)])) (.bool b37) ∧
 if b37 = true then
 K (.bool false) H0
 else
 N0 (.int .i64 ((IntKind.i64.wrap (y5 + 1)))) H0
 else
 privityref32_Equal.P1 base [(.pointer ((some x2))), (.pointer ((some x3))), (.int .i64 0)] H0 K
theorem privityref32_Equal.loop0 {base : Nat} {x2 x3 : Addr} {y5_i : Int} {H0 : HH} {K : Value → HH → Prop} (J : Nat → Int → HH → Prop) (n : Nat) (h0 : J n y5_i H0)
    (hs : ∀ (n : Nat) (y5 : Int) (g : Fr) (H0 : HH), J n y5 H0 → privityref32_Equal.B0 base x2 x3 y5 g (fun w5 H => ∃ n', n' < n ∧ ∃ (y5' : Int), w5 = (.int .i64 y5') ∧ J n' y5' H) H0 K) : privityref32_Equal.P0 base [(.pointer ((some x2))), (.pointer ((some x3))), (.int .i64 y5_i)] H0 K := by
  refine loop_rule (ann := privityref32_Equal.ann) (body := codeAt [.r, .r, .l, .r, .b, .lp] (bodyOf Tryd.f19)) mix (by kernel_rfl) 281473902968880 (by kernel_rfl) [2, 3] [(.pointer ((some x2))), (.pointer ((some x3)))] (by kernel_rfl) (fun fr ⟨e2, e3, e5, _⟩ => ⟨e2, e3, trivial⟩) (fun n g H => ∃ (y5 : Int), g 5 = (.int .i64 y5) ∧ J n y5 H) n (fun fr ⟨e2, e3, e5, _⟩ => ⟨y5_i, e5, h0⟩) ?_
  rintro n g H0 ⟨e2, e3, _⟩ ⟨y5, e5, hJ⟩
  rw [← ov_eq (g := g) [(2, (.pointer ((some x2)))), (3, (.pointer ((some x3)))), (5, (.int .i64 y5))] (by simp only [List.mem_cons, List.not_mem_nil, or_false, forall_eq_or_imp, forall_eq, false_implies, implies_true]; exact ⟨e2, e3, e5⟩)]
  have key : ∀ NN : Value → HH → Prop, privityref32_Equal.B0 base x2 x3 y5 g NN H0 K = wpC Tryd.prog base 66 privityref32_Equal.ann (codeAt [.r, .r, .l, .r, .b, .lp] (bodyOf Tryd.f19)) (ov g [(2, (.pointer ((some x2)))), (3, (.pointer ((some x3)))), (5, (.int .i64 y5))]) H0 (thenQ (fun fr H => NN (fr 5) H) (qAt Tryd.prog base 66 privityref32_Equal.ann [.r, .r, .l, .r, .b] [] (bodyOf Tryd.f19) (retQ Tryd.prog 66 Tryd.f19 K))) := fun NN => by kernel_rfl
  refine cast ?_ (hs n y5 g H0 hJ)
  refine (key (fun w5 H => ∃ n', n' < n ∧ ∃ (y5' : Int), w5 = (.int .i64 y5') ∧ J n' y5' H)).trans ?_
  kernel_rfl
def privityref32_Equal.B1 (base : Nat) (x2 x3 : Addr) (y6 : Int) (g : Fr) (N1 : Value → HH → Prop) (H0 : HH) (K : Value → HH → Prop) : Prop :=
 ∃ a38 : Addr, AQ Tryd.prog (Instr.fieldAt 26 (.pointer ((some x2))) 2) (.pointer ((some a38))) ∧
 ∃ (A39 : Option Addr) (l39 c39 : Nat), QRun Tryd.prog (Instr.loadAt 24 (.pointer ((some a38)))) H0 (.slice A39 l39 c39) ∧
 if (decide ((y6 : Int) < (((l39 : Nat) : Int)))) = true then
 ∃ a40 : Addr, AQ Tryd.prog (Instr.fieldAt 26 (.pointer ((some x2))) 2) (.pointer ((some a40))) ∧
 ∃ (A41 : Option Addr) (l41 c41 : Nat), QRun Tryd.prog (Instr.loadAt 24 (.pointer ((some a40)))) H0 (.slice A41 l41 c41) ∧
 ∃ a42 : Addr, AQ Tryd.prog (Instr.indexAt 24 (.slice A41 l41 c41) (.int .i64 y6)) (.pointer ((some a42))) ∧
 ∃ n43 : Int, QRun Tryd.prog (Instr.loadAt 3 (.pointer ((some a42)))) H0 (.int .i64 n43) ∧
 ∃ a44 : Addr, AQ Tryd.prog (Instr.fieldAt 26 (.pointer ((some x3))) 2) (.pointer ((some a44))) ∧
 ∃ (A45 : Option Addr) (l45 c45 : Nat), QRun Tryd.prog (Instr.loadAt 24 (.pointer ((some a44)))) H0 (.slice A45 l45 c45) ∧
 ∃ a46 : Addr, AQ Tryd.prog (Instr.indexAt 24 (.slice A45 l45 c45) (.int .i64 y6)) (.pointer ((some a46))) ∧
 ∃ n47 : Int, QRun Tryd.prog (Instr.loadAt 3 (.pointer ((some a46)))) H0 (.int .i64 n47) ∧
 if ((n43 : Int) != n47) = true then
 K (.bool false) H0
 else
 N1 (.int .i64 ((IntKind.i64.wrap (y6 + 1)))) H0
 else
 K (.bool true) H0
theorem privityref32_Equal.loop1 {base : Nat} {x2 x3 : Addr} {y6_i : Int} {H0 : HH} {K : Value → HH → Prop} (J : Nat → Int → HH → Prop) (n : Nat) (h0 : J n y6_i H0)
    (hs : ∀ (n : Nat) (y6 : Int) (g : Fr) (H0 : HH), J n y6 H0 → privityref32_Equal.B1 base x2 x3 y6 g (fun w6 H => ∃ n', n' < n ∧ ∃ (y6' : Int), w6 = (.int .i64 y6') ∧ J n' y6' H) H0 K) : privityref32_Equal.P1 base [(.pointer ((some x2))), (.pointer ((some x3))), (.int .i64 y6_i)] H0 K := by
  refine loop_rule (ann := privityref32_Equal.ann) (body := codeAt [.r, .r, .r, .l, .r, .b, .lp] (bodyOf Tryd.f19)) mix (by kernel_rfl) 73786694819861495888 (by kernel_rfl) [2, 3] [(.pointer ((some x2))), (.pointer ((some x3)))] (by kernel_rfl) (fun fr ⟨e2, e3, e6, _⟩ => ⟨e2, e3, trivial⟩) (fun n g H => ∃ (y6 : Int), g 6 = (.int .i64 y6) ∧ J n y6 H) n (fun fr ⟨e2, e3, e6, _⟩ => ⟨y6_i, e6, h0⟩) ?_
  rintro n g H0 ⟨e2, e3, _⟩ ⟨y6, e6, hJ⟩
  rw [← ov_eq (g := g) [(2, (.pointer ((some x2)))), (3, (.pointer ((some x3)))), (6, (.int .i64 y6))] (by simp only [List.mem_cons, List.not_mem_nil, or_false, forall_eq_or_imp, forall_eq, false_implies, implies_true]; exact ⟨e2, e3, e6⟩)]
  have key : ∀ NN : Value → HH → Prop, privityref32_Equal.B1 base x2 x3 y6 g NN H0 K = wpC Tryd.prog base 66 privityref32_Equal.ann (codeAt [.r, .r, .r, .l, .r, .b, .lp] (bodyOf Tryd.f19)) (ov g [(2, (.pointer ((some x2)))), (3, (.pointer ((some x3)))), (6, (.int .i64 y6))]) H0 (thenQ (fun fr H => NN (fr 6) H) (qAt Tryd.prog base 66 privityref32_Equal.ann [.r, .r, .r, .l, .r, .b] [] (bodyOf Tryd.f19) (retQ Tryd.prog 66 Tryd.f19 K))) := fun NN => by kernel_rfl
  refine cast ?_ (hs n y6 g H0 hJ)
  refine (key (fun w6 H => ∃ n', n' < n ∧ ∃ (y6' : Int), w6 = (.int .i64 y6') ∧ J n' y6' H)).trans ?_
  kernel_rfl
def privitylaw36_example.ann : Ann := ⟨fun k => [], fun k => false, fun k => []⟩
def privitylaw36_example.sh (base : Nat)  (H0 : HH) (K : Value → HH → Prop) : Prop :=
 HRun Tryd.prog base (Instr.alloc 26 true (.tuple #[])) H0 fun v1 H2 =>
 ∃ a3 : Addr, v1 = (.pointer ((some a3))) ∧ ∃ n4 : Int, ∃ n5 : Int, ∃ n6 : Int, ∃ n7 : Int, ∃ n8 : Int, AQ Tryd.prog (Instr.build 50 #[(0, (.int .i64 1)), (1, (.int .i64 1))]) (.agg #[(.int .i64 n4), (.int .i64 n5), (.int .i64 n6), (.int .i64 n7), (.int .u64 n8)]) ∧
 ∃ n9 : Int, ∃ n10 : Int, ∃ n11 : Int, ∃ n12 : Int, ∃ n13 : Int, AQ Tryd.prog (Instr.build 50 #[(0, (.int .i64 1)), (1, (.int .i64 1))]) (.agg #[(.int .i64 n9), (.int .i64 n10), (.int .i64 n11), (.int .i64 n12), (.int .u64 n13)]) ∧
 ∃ n14 : Int, ∃ n15 : Int, ∃ n16 : Int, ∃ n17 : Int, ∃ n18 : Int, AQ Tryd.prog (Instr.build 50 #[(0, (.int .i64 3)), (2, (.int .i64 0)), (3, (.int .i64 1))]) (.agg #[(.int .i64 n14), (.int .i64 n15), (.int .i64 n16), (.int .i64 n17), (.int .u64 n18)]) ∧
 ∃ n19 : Int, ∃ n20 : Int, ∃ n21 : Int, ∃ n22 : Int, ∃ n23 : Int, AQ Tryd.prog (Instr.build 50 #[(0, (.int .i64 3)), (2, (.int .i64 1)), (3, (.int .i64 0))]) (.agg #[(.int .i64 n19), (.int .i64 n20), (.int .i64 n21), (.int .i64 n22), (.int .u64 n23)]) ∧
 ∃ n24 : Int, ∃ n25 : Int, ∃ n26 : Int, ∃ n27 : Int, ∃ n28 : Int, AQ Tryd.prog (Instr.build 50 #[(0, (.int .i64 6)), (2, (.int .i64 2)), (3, (.int .i64 3))]) (.agg #[(.int .i64 n24), (.int .i64 n25), (.int .i64 n26), (.int .i64 n27), (.int .u64 n28)]) ∧
 HRun Tryd.prog base (Instr.buildSlice 23 5 #[(0, (.agg #[(.int .i64 n4), (.int .i64 n5), (.int .i64 n6), (.int .i64 n7), (.int .u64 n8)])), (1, (.agg #[(.int .i64 n9), (.int .i64 n10), (.int .i64 n11), (.int .i64 n12), (.int .u64 n13)])), (2, (.agg #[(.int .i64 n14), (.int .i64 n15), (.int .i64 n16), (.int .i64 n17), (.int .u64 n18)])), (3, (.agg #[(.int .i64 n19), (.int .i64 n20), (.int .i64 n21), (.int .i64 n22), (.int .u64 n23)])), (4, (.agg #[(.int .i64 n24), (.int .i64 n25), (.int .i64 n26), (.int .i64 n27), (.int .u64 n28)]))]) H2 fun v29 H30 =>
 ∃ (A31 : Option Addr) (l31 c31 : Nat), v29 = (.slice A31 l31 c31) ∧ HRun Tryd.prog base (Instr.buildSlice 24 1 #[(0, (.int .i64 4))]) H30 fun v32 H33 =>
 ∃ (A34 : Option Addr) (l34 c34 : Nat), v32 = (.slice A34 l34 c34) ∧ ∃ n35 : Int, ∃ (A36 : Option Addr) (l36 c36 : Nat), ∃ (A37 : Option Addr) (l37 c37 : Nat), AQ Tryd.prog (Instr.build 26 #[(0, (.int .u64 31)), (1, (.slice A31 l31 c31)), (2, (.slice A34 l34 c34))]) (.agg #[(.int .u64 n35), (.slice A36 l36 c36), (.slice A37 l37 c37)]) ∧
 HRun Tryd.prog base (Instr.storeAt 26 (.pointer ((some a3))) (.agg #[(.int .u64 n35), (.slice A36 l36 c36), (.slice A37 l37 c37)])) H33 fun _ H38 =>
 ∃ r_, QRun Tryd.prog (results Tryd.f18 (List.toArray [(.pointer ((some a3))), (.agg #[(.int .i64 n4), (.int .i64 n5), (.int .i64 n6), (.int .i64 n7), (.int .u64 n8)]), (.agg #[(.int .i64 n9), (.int .i64 n10), (.int .i64 n11), (.int .i64 n12), (.int .u64 n13)]), (.agg #[(.int .i64 n14), (.int .i64 n15), (.int .i64 n16), (.int .i64 n17), (.int .u64 n18)]), (.agg #[(.int .i64 n19), (.int .i64 n20), (.int .i64 n21), (.int .i64 n22), (.int .u64 n23)]), (.agg #[(.int .i64 n24), (.int .i64 n25), (.int .i64 n26), (.int .i64 n27), (.int .u64 n28)]), (.slice A31 l31 c31), (.slice A34 l34 c34), (.agg #[(.int .u64 n35), (.slice A36 l36 c36), (.slice A37 l37 c37)])])) H38 r_ ∧ K r_ H38
theorem privitylaw36_example.spec {base : Nat}  {H0 : HH} {K : Value → HH → Prop} (h : privitylaw36_example.sh base  H0 K) : HCall Tryd.prog base 18 #[] H0 K := spec_of_wpC (n := 9) (ann := privitylaw36_example.ann) mix Tryd.func18 (by kernel_rfl) (cast (show privitylaw36_example.sh base  H0 K = wpC Tryd.prog base 9 privitylaw36_example.ann (bodyOf Tryd.f18) (ofL []) H0 (retQ Tryd.prog 9 Tryd.f18 K) by kernel_rfl) h)
def privitylaw36_awake.ann : Ann := ⟨fun k => bif Nat.beq k 3 then [2, 6, 7, 10, 13, 16, 19, 26] else [], fun k => false, fun k => []⟩
def privitylaw36_awake.sh (base : Nat)  (H0 : HH) (K : Value → HH → Prop) : Prop :=
 HCall Tryd.prog base 18 #[] H0 fun v1 H2 =>
 ∃ n3 : Int, ∃ (A4 : Option Addr) (l4 c4 : Nat), ∃ (A5 : Option Addr) (l5 c5 : Nat), v1 = (.agg #[(.int .u64 n3), (.slice A4 l4 c4), (.slice A5 l5 c5)]) ∧ HCall Tryd.prog base 11 #[(.agg #[(.int .u64 n3), (.slice A4 l4 c4), (.slice A5 l5 c5)])] H2 fun v6 H7 =>
 ∃ n8 : Int, ∃ (A9 : Option Addr) (l9 c9 : Nat), ∃ (A10 : Option Addr) (l10 c10 : Nat), ∃ (A11 : Option Addr) (l11 c11 : Nat), v6 = (.tuple #[(.agg #[(.int .u64 n8), (.slice A9 l9 c9), (.slice A10 l10 c10)]), (.agg #[(.slice A11 l11 c11)])]) ∧ HRun Tryd.prog base (Instr.alloc 26 true (.tuple #[])) H7 fun v12 H13 =>
 ∃ a14 : Addr, v12 = (.pointer ((some a14))) ∧ HRun Tryd.prog base (Instr.alloc 28 true (.tuple #[])) H13 fun v15 H16 =>
 ∃ a17 : Addr, v15 = (.pointer ((some a17))) ∧ HRun Tryd.prog base (Instr.storeAt 26 (.pointer ((some a14))) (.agg #[(.int .u64 n8), (.slice A9 l9 c9), (.slice A10 l10 c10)])) H16 fun _ H18 =>
 HRun Tryd.prog base (Instr.storeAt 28 (.pointer ((some a17))) (.agg #[(.slice A11 l11 c11)])) H18 fun _ H19 =>
 ∃ n20 : Int, ∃ n21 : Int, ∃ n22 : Int, ∃ n23 : Int, ∃ n24 : Int, AQ Tryd.prog (Instr.build 50 #[(0, (.int .i64 1)), (1, (.int .i64 1))]) (.agg #[(.int .i64 n20), (.int .i64 n21), (.int .i64 n22), (.int .i64 n23), (.int .u64 n24)]) ∧
 ∃ n25 : Int, ∃ n26 : Int, ∃ n27 : Int, ∃ n28 : Int, ∃ n29 : Int, AQ Tryd.prog (Instr.build 50 #[(0, (.int .i64 1)), (1, (.int .i64 1))]) (.agg #[(.int .i64 n25), (.int .i64 n26), (.int .i64 n27), (.int .i64 n28), (.int .u64 n29)]) ∧
 ∃ n30 : Int, ∃ n31 : Int, ∃ n32 : Int, ∃ n33 : Int, ∃ n34 : Int, AQ Tryd.prog (Instr.build 50 #[(0, (.int .i64 3)), (2, (.int .i64 0)), (3, (.int .i64 1))]) (.agg #[(.int .i64 n30), (.int .i64 n31), (.int .i64 n32), (.int .i64 n33), (.int .u64 n34)]) ∧
 ∃ n35 : Int, ∃ n36 : Int, ∃ n37 : Int, ∃ n38 : Int, ∃ n39 : Int, AQ Tryd.prog (Instr.build 50 #[(0, (.int .i64 6)), (2, (.int .i64 2)), (3, (.int .i64 2))]) (.agg #[(.int .i64 n35), (.int .i64 n36), (.int .i64 n37), (.int .i64 n38), (.int .u64 n39)]) ∧
 HRun Tryd.prog base (Instr.buildSlice 23 4 #[(0, (.agg #[(.int .i64 n20), (.int .i64 n21), (.int .i64 n22), (.int .i64 n23), (.int .u64 n24)])), (1, (.agg #[(.int .i64 n25), (.int .i64 n26), (.int .i64 n27), (.int .i64 n28), (.int .u64 n29)])), (2, (.agg #[(.int .i64 n30), (.int .i64 n31), (.int .i64 n32), (.int .i64 n33), (.int .u64 n34)])), (3, (.agg #[(.int .i64 n35), (.int .i64 n36), (.int .i64 n37), (.int .i64 n38), (.int .u64 n39)]))]) H19 fun v40 H41 =>
 ∃ (A42 : Option Addr) (l42 c42 : Nat), v40 = (.slice A42 l42 c42) ∧ HRun Tryd.prog base (Instr.buildSlice 24 1 #[(0, (.int .i64 3))]) H41 fun v43 H44 =>
 ∃ (A45 : Option Addr) (l45 c45 : Nat), v43 = (.slice A45 l45 c45) ∧ ∃ n46 : Int, ∃ (A47 : Option Addr) (l47 c47 : Nat), ∃ (A48 : Option Addr) (l48 c48 : Nat), AQ Tryd.prog (Instr.build 26 #[(0, (.int .u64 31)), (1, (.slice A42 l42 c42)), (2, (.slice A45 l45 c45))]) (.agg #[(.int .u64 n46), (.slice A47 l47 c47), (.slice A48 l48 c48)]) ∧
 HRun Tryd.prog base (Instr.alloc 26 true (.tuple #[])) H44 fun v49 H50 =>
 ∃ a51 : Addr, v49 = (.pointer ((some a51))) ∧ HRun Tryd.prog base (Instr.storeAt 26 (.pointer ((some a51))) (.agg #[(.int .u64 n46), (.slice A47 l47 c47), (.slice A48 l48 c48)])) H50 fun _ H52 =>
 ∃ n53 : Int, ∃ (A54 : Option Addr) (l54 c54 : Nat), ∃ (A55 : Option Addr) (l55 c55 : Nat), QRun Tryd.prog (Instr.loadAt 26 (.pointer ((some a14)))) H52 (.agg #[(.int .u64 n53), (.slice A54 l54 c54), (.slice A55 l55 c55)]) ∧
 ∃ n56 : Int, ∃ (A57 : Option Addr) (l57 c57 : Nat), ∃ (A58 : Option Addr) (l58 c58 : Nat), QRun Tryd.prog (Instr.loadAt 26 (.pointer ((some a51)))) H52 (.agg #[(.int .u64 n56), (.slice A57 l57 c57), (.slice A58 l58 c58)]) ∧
 HCall Tryd.prog base 19 #[(.agg #[(.int .u64 n53), (.slice A54 l54 c54), (.slice A55 l55 c55)]), (.agg #[(.int .u64 n56), (.slice A57 l57 c57), (.slice A58 l58 c58)])] H52 fun v59 H60 =>
 ∃ b61 : Bool, v59 = (.bool b61) ∧ if b61 = true then
 ∃ a62 : Addr, AQ Tryd.prog (Instr.fieldAt 28 (.pointer ((some a17))) 0) (.pointer ((some a62))) ∧
 ∃ (A63 : Option Addr) (l63 c63 : Nat), QRun Tryd.prog (Instr.loadAt 24 (.pointer ((some a62)))) H60 (.slice A63 l63 c63) ∧
 HRun Tryd.prog base (Instr.buildSlice 24 5 #[(0, (.int .i64 0)), (1, (.int .i64 1)), (2, (.int .i64 2)), (3, (.int .i64 2)), (4, (.int .i64 3))]) H60 fun v64 H65 =>
 ∃ (A66 : Option Addr) (l66 c66 : Nat), v64 = (.slice A66 l66 c66) ∧ QRun Tryd.prog (Instr.loadAt 24 (.pointer ((some a62)))) H65 (.slice A63 l63 c63) ∧
 HCall Tryd.prog base 20 #[(.slice A63 l63 c63), (.slice A66 l66 c66)] H65 fun v67 H68 =>
 ∃ b69 : Bool, v67 = (.bool b69) ∧ if b69 = true then
 ∃ n70 : Int, ∃ (A71 : Option Addr) (l71 c71 : Nat), ∃ (A72 : Option Addr) (l72 c72 : Nat), QRun Tryd.prog (Instr.loadAt 26 (.pointer ((some a14)))) H68 (.agg #[(.int .u64 n70), (.slice A71 l71 c71), (.slice A72 l72 c72)]) ∧
 ∃ (A73 : Option Addr) (l73 c73 : Nat), QRun Tryd.prog (Instr.loadAt 28 (.pointer ((some a17)))) H68 (.agg #[(.slice A73 l73 c73)]) ∧
 HCall Tryd.prog base 18 #[] H68 fun v74 H75 =>
 ∃ n76 : Int, ∃ (A77 : Option Addr) (l77 c77 : Nat), ∃ (A78 : Option Addr) (l78 c78 : Nat), v74 = (.agg #[(.int .u64 n76), (.slice A77 l77 c77), (.slice A78 l78 c78)]) ∧ QRun Tryd.prog (Instr.loadAt 28 (.pointer ((some a17)))) H75 (.agg #[(.slice A73 l73 c73)]) ∧
 QRun Tryd.prog (Instr.loadAt 26 (.pointer ((some a14)))) H75 (.agg #[(.int .u64 n70), (.slice A71 l71 c71), (.slice A72 l72 c72)]) ∧
 HCall Tryd.prog base 7 #[(.agg #[(.int .u64 n76), (.slice A77 l77 c77), (.slice A78 l78 c78)]), (.agg #[(.int .u64 n70), (.slice A71 l71 c71), (.slice A72 l72 c72)]), (.agg #[(.slice A73 l73 c73)])] H75 fun v79 H80 =>
 ∃ b81 : Bool, v79 = (.bool b81) ∧ if b81 = true then
 ∃ n82 : Int, ∃ (A83 : Option Addr) (l83 c83 : Nat), ∃ (A84 : Option Addr) (l84 c84 : Nat), QRun Tryd.prog (Instr.loadAt 26 (.pointer ((some a14)))) H80 (.agg #[(.int .u64 n82), (.slice A83 l83 c83), (.slice A84 l84 c84)]) ∧
 ∃ (A85 : Option Addr) (l85 c85 : Nat), AQ Tryd.prog (Instr.build 28 #[]) (.agg #[(.slice A85 l85 c85)]) ∧
 HCall Tryd.prog base 18 #[] H80 fun v86 H87 =>
 ∃ n88 : Int, ∃ (A89 : Option Addr) (l89 c89 : Nat), ∃ (A90 : Option Addr) (l90 c90 : Nat), v86 = (.agg #[(.int .u64 n88), (.slice A89 l89 c89), (.slice A90 l90 c90)]) ∧ QRun Tryd.prog (Instr.loadAt 26 (.pointer ((some a14)))) H87 (.agg #[(.int .u64 n82), (.slice A83 l83 c83), (.slice A84 l84 c84)]) ∧
 HCall Tryd.prog base 7 #[(.agg #[(.int .u64 n88), (.slice A89 l89 c89), (.slice A90 l90 c90)]), (.agg #[(.int .u64 n82), (.slice A83 l83 c83), (.slice A84 l84 c84)]), (.agg #[(.slice A85 l85 c85)])] H87 fun v91 H92 =>
 ∃ b93 : Bool, v91 = (.bool b93) ∧ if (!b93) = true then
 ∃ n94 : Int, ∃ (A95 : Option Addr) (l95 c95 : Nat), ∃ (A96 : Option Addr) (l96 c96 : Nat), AQ Tryd.prog (Instr.build 26 #[(0, (.int .u64 31))]) (.agg #[(.int .u64 n94), (.slice A95 l95 c95), (.slice A96 l96 c96)]) ∧
 ∃ n97 : Int, ∃ (A98 : Option Addr) (l98 c98 : Nat), ∃ (A99 : Option Addr) (l99 c99 : Nat), AQ Tryd.prog (Instr.build 26 #[(0, (.int .u64 31))]) (.agg #[(.int .u64 n97), (.slice A98 l98 c98), (.slice A99 l99 c99)]) ∧
 ∃ (A100 : Option Addr) (l100 c100 : Nat), AQ Tryd.prog (Instr.build 28 #[]) (.agg #[(.slice A100 l100 c100)]) ∧
 HCall Tryd.prog base 7 #[(.agg #[(.int .u64 n94), (.slice A95 l95 c95), (.slice A96 l96 c96)]), (.agg #[(.int .u64 n97), (.slice A98 l98 c98), (.slice A99 l99 c99)]), (.agg #[(.slice A100 l100 c100)])] H92 fun v101 H102 =>
 ∃ b103 : Bool, v101 = (.bool b103) ∧ K (.bool b103) H102
 else
 K (.bool false) H92
 else
 K (.bool false) H80
 else
 K (.bool false) H68
 else
 K (.bool false) H60
theorem privitylaw36_awake.spec {base : Nat}  {H0 : HH} {K : Value → HH → Prop} (h : privitylaw36_awake.sh base  H0 K) : HCall Tryd.prog base 8 #[] H0 K := spec_of_wpC (n := 44) (ann := privitylaw36_awake.ann) mix Tryd.func8 (by kernel_rfl) (cast (show privitylaw36_awake.sh base  H0 K = wpC Tryd.prog base 44 privitylaw36_awake.ann (bodyOf Tryd.f8) (ofL []) H0 (retQ Tryd.prog 44 Tryd.f8 K) by kernel_rfl) h)
def privitylaw36_few.ann : Ann := ⟨fun k => [], fun k => false, fun k => []⟩
def privitylaw36_few.sh (base : Nat) (x0_0 : Int) (Ax0_1 : Option Addr) (lx0_1 cx0_1 : Nat) (Ax0_2 : Option Addr) (lx0_2 cx0_2 : Nat) (H0 : HH) (K : Value → HH → Prop) : Prop :=
 HRun Tryd.prog base (Instr.box 26 (.agg #[(.int .u64 x0_0), (.slice Ax0_1 lx0_1 cx0_1), (.slice Ax0_2 lx0_2 cx0_2)])) H0 fun v1 H2 =>
 ∃ a3 : Addr, v1 = (.pointer ((some a3))) ∧ ∃ a4 : Addr, AQ Tryd.prog (Instr.fieldAt 26 (.pointer ((some a3))) 1) (.pointer ((some a4))) ∧
 ∃ (A5 : Option Addr) (l5 c5 : Nat), QRun Tryd.prog (Instr.loadAt 23 (.pointer ((some a4)))) H2 (.slice A5 l5 c5) ∧
 if (decide ((((l5 : Nat) : Int) : Int) ≤ 60)) = true then
 ∃ a6 : Addr, AQ Tryd.prog (Instr.fieldAt 26 (.pointer ((some a3))) 2) (.pointer ((some a6))) ∧
 ∃ (A7 : Option Addr) (l7 c7 : Nat), QRun Tryd.prog (Instr.loadAt 24 (.pointer ((some a6)))) H2 (.slice A7 l7 c7) ∧
 K (.bool ((decide ((((l7 : Nat) : Int) : Int) ≤ 60)))) H2
 else
 K (.bool false) H2
theorem privitylaw36_few.spec {base : Nat} {x0_0 : Int} {Ax0_1 : Option Addr} {lx0_1 cx0_1 : Nat} {Ax0_2 : Option Addr} {lx0_2 cx0_2 : Nat} {H0 : HH} {K : Value → HH → Prop} (h : privitylaw36_few.sh base x0_0 Ax0_1 lx0_1 cx0_1 Ax0_2 lx0_2 cx0_2 H0 K) : HCall Tryd.prog base 6 #[(.agg #[(.int .u64 x0_0), (.slice Ax0_1 lx0_1 cx0_1), (.slice Ax0_2 lx0_2 cx0_2)])] H0 K := spec_of_wpC (n := 13) (ann := privitylaw36_few.ann) mix Tryd.func6 (by kernel_rfl) (cast (show privitylaw36_few.sh base x0_0 Ax0_1 lx0_1 cx0_1 Ax0_2 lx0_2 cx0_2 H0 K = wpC Tryd.prog base 13 privitylaw36_few.ann (bodyOf Tryd.f6) (ofL [(.agg #[(.int .u64 x0_0), (.slice Ax0_1 lx0_1 cx0_1), (.slice Ax0_2 lx0_2 cx0_2)])]) H0 (retQ Tryd.prog 13 Tryd.f6 K) by kernel_rfl) h)
def privitylaw36_OptimizeCertificatesCompose.ann : Ann := ⟨fun k => [], fun k => bif Nat.beq k 12 then true else false, fun k => bif Nat.beq k 5 then [1, 3, 4] else bif Nat.beq k 12 then [1, 3, 4, 5] else []⟩
def privitylaw36_OptimizeEquivalent.ann : Ann := ⟨fun k => [], fun k => false, fun k => []⟩
def privitylaw36_OptimizeCertificateSound.ann : Ann := ⟨fun k => bif Nat.beq k 12 then [] else [], fun k => false, fun k => bif Nat.beq k 10 then [1, 7, 9, 11] else []⟩
def privitylaw36_OptimizeCertificateSound.P0 (base : Nat) (l : List Value) (H0 : HH) (K : Value → HH → Prop) : Prop := HCodeL Tryd.prog base 142 (codeAt [.r, .r, .r, .r, .r, .r, .r, .l, .r, .b] (bodyOf Tryd.f5)) [1, 7, 9, 11] l H0 (qAt Tryd.prog base 142 privitylaw36_OptimizeCertificateSound.ann [.r, .r, .r, .r, .r, .r, .r, .l, .r, .b] [] (bodyOf Tryd.f5) (retQ Tryd.prog 142 Tryd.f5 K))
def privitylaw36_OptimizeCertificateSound.sh (base : Nat) (x0_0 : Int) (Ax0_1 : Option Addr) (lx0_1 cx0_1 : Nat) (Ax0_2 : Option Addr) (lx0_2 cx0_2 : Nat) (x0_3 : Int) (Ax0_4 : Option Addr) (lx0_4 cx0_4 : Nat) (Ax0_5 : Option Addr) (lx0_5 cx0_5 : Nat) (Ax0_6 : Option Addr) (lx0_6 cx0_6 : Nat) (Ax0_7 : Option Addr) (lx0_7 cx0_7 : Nat) (H0 : HH) (K : Value → HH → Prop) : Prop :=
 HRun Tryd.prog base (Instr.box 46 (.agg #[(.int .u64 x0_0), (.slice Ax0_1 lx0_1 cx0_1), (.slice Ax0_2 lx0_2 cx0_2), (.int .u64 x0_3), (.slice Ax0_4 lx0_4 cx0_4), (.slice Ax0_5 lx0_5 cx0_5), (.slice Ax0_6 lx0_6 cx0_6), (.slice Ax0_7 lx0_7 cx0_7)])) H0 fun v1 H2 =>
 ∃ a3 : Addr, v1 = (.pointer ((some a3))) ∧ ∃ a4 : Addr, AQ Tryd.prog (Instr.fieldAt 46 (.pointer ((some a3))) 0) (.pointer ((some a4))) ∧
 ∃ n5 : Int, ∃ (A6 : Option Addr) (l6 c6 : Nat), ∃ (A7 : Option Addr) (l7 c7 : Nat), QRun Tryd.prog (Instr.loadAt 26 (.pointer ((some a4)))) H2 (.agg #[(.int .u64 n5), (.slice A6 l6 c6), (.slice A7 l7 c7)]) ∧
 ∃ a8 : Addr, AQ Tryd.prog (Instr.fieldAt 46 (.pointer ((some a3))) 3) (.pointer ((some a8))) ∧
 ∃ (A9 : Option Addr) (l9 c9 : Nat), QRun Tryd.prog (Instr.loadAt 35 (.pointer ((some a8)))) H2 (.slice A9 l9 c9) ∧
 HCall Tryd.prog base 9 #[(.agg #[(.int .u64 n5), (.slice A6 l6 c6), (.slice A7 l7 c7)]), (.slice A9 l9 c9), (.int .i64 60)] H2 fun v10 H11 =>
 ∃ b12 : Bool, v10 = (.bool b12) ∧ if (!b12) = false then
 ∃ a13 : Addr, AQ Tryd.prog (Instr.fieldAt 46 (.pointer ((some a3))) 1) (.pointer ((some a13))) ∧
 ∃ n14 : Int, ∃ (A15 : Option Addr) (l15 c15 : Nat), ∃ (A16 : Option Addr) (l16 c16 : Nat), QRun Tryd.prog (Instr.loadAt 26 (.pointer ((some a13)))) H11 (.agg #[(.int .u64 n14), (.slice A15 l15 c15), (.slice A16 l16 c16)]) ∧
 HCall Tryd.prog base 6 #[(.agg #[(.int .u64 n14), (.slice A15 l15 c15), (.slice A16 l16 c16)])] H11 fun v17 H18 =>
 ∃ b19 : Bool, v17 = (.bool b19) ∧ if (!b19) = false then
 ∃ a20 : Addr, AQ Tryd.prog (Instr.fieldAt 46 (.pointer ((some a3))) 2) (.pointer ((some a20))) ∧
 ∃ a21 : Addr, AQ Tryd.prog (Instr.fieldAt 28 (.pointer ((some a20))) 0) (.pointer ((some a21))) ∧
 ∃ (A22 : Option Addr) (l22 c22 : Nat), QRun Tryd.prog (Instr.loadAt 24 (.pointer ((some a21)))) H18 (.slice A22 l22 c22) ∧
 if (decide ((((l22 : Nat) : Int) : Int) > 70)) = false then
 ∃ a23 : Addr, AQ Tryd.prog (Instr.fieldAt 46 (.pointer ((some a3))) 0) (.pointer ((some a23))) ∧
 ∃ n24 : Int, ∃ (A25 : Option Addr) (l25 c25 : Nat), ∃ (A26 : Option Addr) (l26 c26 : Nat), QRun Tryd.prog (Instr.loadAt 26 (.pointer ((some a23)))) H18 (.agg #[(.int .u64 n24), (.slice A25 l25 c25), (.slice A26 l26 c26)]) ∧
 ∃ a27 : Addr, AQ Tryd.prog (Instr.fieldAt 46 (.pointer ((some a3))) 1) (.pointer ((some a27))) ∧
 ∃ n28 : Int, ∃ (A29 : Option Addr) (l29 c29 : Nat), ∃ (A30 : Option Addr) (l30 c30 : Nat), QRun Tryd.prog (Instr.loadAt 26 (.pointer ((some a27)))) H18 (.agg #[(.int .u64 n28), (.slice A29 l29 c29), (.slice A30 l30 c30)]) ∧
 ∃ a31 : Addr, AQ Tryd.prog (Instr.fieldAt 46 (.pointer ((some a3))) 2) (.pointer ((some a31))) ∧
 ∃ (A32 : Option Addr) (l32 c32 : Nat), QRun Tryd.prog (Instr.loadAt 28 (.pointer ((some a31)))) H18 (.agg #[(.slice A32 l32 c32)]) ∧
 HCall Tryd.prog base 7 #[(.agg #[(.int .u64 n24), (.slice A25 l25 c25), (.slice A26 l26 c26)]), (.agg #[(.int .u64 n28), (.slice A29 l29 c29), (.slice A30 l30 c30)]), (.agg #[(.slice A32 l32 c32)])] H18 fun v33 H34 =>
 ∃ b35 : Bool, v33 = (.bool b35) ∧ if (!b35) = true then
 HCall Tryd.prog base 8 #[] H34 fun v36 H37 =>
 ∃ b38 : Bool, v36 = (.bool b38) ∧ K (.bool b38) H37
 else
 ∃ a39 : Addr, AQ Tryd.prog (Instr.fieldAt 46 (.pointer ((some a3))) 0) (.pointer ((some a39))) ∧
 ∃ n40 : Int, ∃ (A41 : Option Addr) (l41 c41 : Nat), ∃ (A42 : Option Addr) (l42 c42 : Nat), QRun Tryd.prog (Instr.loadAt 26 (.pointer ((some a39)))) H34 (.agg #[(.int .u64 n40), (.slice A41 l41 c41), (.slice A42 l42 c42)]) ∧
 ∃ a43 : Addr, AQ Tryd.prog (Instr.fieldAt 46 (.pointer ((some a3))) 3) (.pointer ((some a43))) ∧
 ∃ (A44 : Option Addr) (l44 c44 : Nat), QRun Tryd.prog (Instr.loadAt 35 (.pointer ((some a43)))) H34 (.slice A44 l44 c44) ∧
 HCall Tryd.prog base 12 #[(.agg #[(.int .u64 n40), (.slice A41 l41 c41), (.slice A42 l42 c42)]), (.slice A44 l44 c44)] H34 fun v45 H46 =>
 ∃ (A47 : Option Addr) (l47 c47 : Nat), ∃ n48 : Int, v45 = (.tuple #[(.slice A47 l47 c47), (.int .i64 n48)]) ∧ ∃ a49 : Addr, AQ Tryd.prog (Instr.fieldAt 46 (.pointer ((some a3))) 1) (.pointer ((some a49))) ∧
 ∃ n50 : Int, ∃ (A51 : Option Addr) (l51 c51 : Nat), ∃ (A52 : Option Addr) (l52 c52 : Nat), QRun Tryd.prog (Instr.loadAt 26 (.pointer ((some a49)))) H46 (.agg #[(.int .u64 n50), (.slice A51 l51 c51), (.slice A52 l52 c52)]) ∧
 ∃ a53 : Addr, AQ Tryd.prog (Instr.fieldAt 46 (.pointer ((some a3))) 3) (.pointer ((some a53))) ∧
 ∃ (A54 : Option Addr) (l54 c54 : Nat), QRun Tryd.prog (Instr.loadAt 35 (.pointer ((some a53)))) H46 (.slice A54 l54 c54) ∧
 HCall Tryd.prog base 12 #[(.agg #[(.int .u64 n50), (.slice A51 l51 c51), (.slice A52 l52 c52)]), (.slice A54 l54 c54)] H46 fun v55 H56 =>
 ∃ (A57 : Option Addr) (l57 c57 : Nat), ∃ n58 : Int, v55 = (.tuple #[(.slice A57 l57 c57), (.int .i64 n58)]) ∧ ∃ a59 : Addr, AQ Tryd.prog (Instr.fieldAt 46 (.pointer ((some a3))) 0) (.pointer ((some a59))) ∧
 ∃ n60 : Int, ∃ (A61 : Option Addr) (l61 c61 : Nat), ∃ (A62 : Option Addr) (l62 c62 : Nat), QRun Tryd.prog (Instr.loadAt 26 (.pointer ((some a59)))) H56 (.agg #[(.int .u64 n60), (.slice A61 l61 c61), (.slice A62 l62 c62)]) ∧
 ∃ a63 : Addr, AQ Tryd.prog (Instr.fieldAt 46 (.pointer ((some a3))) 3) (.pointer ((some a63))) ∧
 ∃ (A64 : Option Addr) (l64 c64 : Nat), QRun Tryd.prog (Instr.loadAt 35 (.pointer ((some a63)))) H56 (.slice A64 l64 c64) ∧
 HCall Tryd.prog base 14 #[(.agg #[(.int .u64 n60), (.slice A61 l61 c61), (.slice A62 l62 c62)]), (.slice A64 l64 c64)] H56 fun v65 H66 =>
 ∃ (A67 : Option Addr) (l67 c67 : Nat), ∃ n68 : Int, v65 = (.tuple #[(.slice A67 l67 c67), (.int .i64 n68)]) ∧ ∃ a69 : Addr, AQ Tryd.prog (Instr.fieldAt 46 (.pointer ((some a3))) 1) (.pointer ((some a69))) ∧
 ∃ n70 : Int, ∃ (A71 : Option Addr) (l71 c71 : Nat), ∃ (A72 : Option Addr) (l72 c72 : Nat), QRun Tryd.prog (Instr.loadAt 26 (.pointer ((some a69)))) H66 (.agg #[(.int .u64 n70), (.slice A71 l71 c71), (.slice A72 l72 c72)]) ∧
 ∃ a73 : Addr, AQ Tryd.prog (Instr.fieldAt 46 (.pointer ((some a3))) 3) (.pointer ((some a73))) ∧
 ∃ (A74 : Option Addr) (l74 c74 : Nat), QRun Tryd.prog (Instr.loadAt 35 (.pointer ((some a73)))) H66 (.slice A74 l74 c74) ∧
 HCall Tryd.prog base 14 #[(.agg #[(.int .u64 n70), (.slice A71 l71 c71), (.slice A72 l72 c72)]), (.slice A74 l74 c74)] H66 fun v75 H76 =>
 ∃ (A77 : Option Addr) (l77 c77 : Nat), ∃ n78 : Int, v75 = (.tuple #[(.slice A77 l77 c77), (.int .i64 n78)]) ∧ if ((n48 : Int) != n58) = false then
 if ((n68 : Int) != n78) = false then
 if ((n48 : Int) != n68) = false then
 HCall Tryd.prog base 13 #[(.slice A47 l47 c47), (.slice A57 l57 c57)] H76 fun v79 H80 =>
 ∃ b81 : Bool, v79 = (.bool b81) ∧ if (!b81) = true then
 K (.bool false) H80
 else
 privitylaw36_OptimizeCertificateSound.P0 base [(.pointer ((some a3))), (.slice A67 l67 c67), (.slice A77 l77 c77), (.int .i64 0)] H80 K
 else
 K (.bool false) H76
 else
 K (.bool false) H76
 else
 K (.bool false) H76
 else
 HCall Tryd.prog base 8 #[] H18 fun v82 H83 =>
 ∃ b84 : Bool, v82 = (.bool b84) ∧ K (.bool b84) H83
 else
 HCall Tryd.prog base 8 #[] H18 fun v85 H86 =>
 ∃ b87 : Bool, v85 = (.bool b87) ∧ K (.bool b87) H86
 else
 HCall Tryd.prog base 8 #[] H11 fun v88 H89 =>
 ∃ b90 : Bool, v88 = (.bool b90) ∧ K (.bool b90) H89
theorem privitylaw36_OptimizeCertificateSound.spec {base : Nat} {x0_0 : Int} {Ax0_1 : Option Addr} {lx0_1 cx0_1 : Nat} {Ax0_2 : Option Addr} {lx0_2 cx0_2 : Nat} {x0_3 : Int} {Ax0_4 : Option Addr} {lx0_4 cx0_4 : Nat} {Ax0_5 : Option Addr} {lx0_5 cx0_5 : Nat} {Ax0_6 : Option Addr} {lx0_6 cx0_6 : Nat} {Ax0_7 : Option Addr} {lx0_7 cx0_7 : Nat} {H0 : HH} {K : Value → HH → Prop} (h : privitylaw36_OptimizeCertificateSound.sh base x0_0 Ax0_1 lx0_1 cx0_1 Ax0_2 lx0_2 cx0_2 x0_3 Ax0_4 lx0_4 cx0_4 Ax0_5 lx0_5 cx0_5 Ax0_6 lx0_6 cx0_6 Ax0_7 lx0_7 cx0_7 H0 K) : HCall Tryd.prog base 5 #[(.agg #[(.int .u64 x0_0), (.slice Ax0_1 lx0_1 cx0_1), (.slice Ax0_2 lx0_2 cx0_2), (.int .u64 x0_3), (.slice Ax0_4 lx0_4 cx0_4), (.slice Ax0_5 lx0_5 cx0_5), (.slice Ax0_6 lx0_6 cx0_6), (.slice Ax0_7 lx0_7 cx0_7)])] H0 K := spec_of_wpC (n := 142) (ann := privitylaw36_OptimizeCertificateSound.ann) mix Tryd.func5 (by kernel_rfl) (cast (show privitylaw36_OptimizeCertificateSound.sh base x0_0 Ax0_1 lx0_1 cx0_1 Ax0_2 lx0_2 cx0_2 x0_3 Ax0_4 lx0_4 cx0_4 Ax0_5 lx0_5 cx0_5 Ax0_6 lx0_6 cx0_6 Ax0_7 lx0_7 cx0_7 H0 K = wpC Tryd.prog base 142 privitylaw36_OptimizeCertificateSound.ann (bodyOf Tryd.f5) (ofL [(.agg #[(.int .u64 x0_0), (.slice Ax0_1 lx0_1 cx0_1), (.slice Ax0_2 lx0_2 cx0_2), (.int .u64 x0_3), (.slice Ax0_4 lx0_4 cx0_4), (.slice Ax0_5 lx0_5 cx0_5), (.slice Ax0_6 lx0_6 cx0_6), (.slice Ax0_7 lx0_7 cx0_7)])]) H0 (retQ Tryd.prog 142 Tryd.f5 K) by kernel_rfl) h)
def privitylaw36_OptimizeCertificateSound.B0 (base : Nat) (x1 : Addr) (Ax7 : Option Addr) (lx7 cx7 : Nat) (Ax9 : Option Addr) (lx9 cx9 : Nat) (y11 : Int) (g : Fr) (N0 : Value → HH → Prop) (H0 : HH) (K : Value → HH → Prop) : Prop :=
 if (decide ((y11 : Int) < (((lx7 : Nat) : Int)))) = true then
 ∃ a91 : Addr, AQ Tryd.prog (Instr.fieldAt 46 (.pointer ((some x1))) 2) (.pointer ((some a91))) ∧
 ∃ a92 : Addr, AQ Tryd.prog (Instr.fieldAt 28 (.pointer ((some a91))) 0) (.pointer ((some a92))) ∧
 ∃ (A93 : Option Addr) (l93 c93 : Nat), QRun Tryd.prog (Instr.loadAt 24 (.pointer ((some a92)))) H0 (.slice A93 l93 c93) ∧
 if (decide ((y11 : Int) ≥ (((l93 : Nat) : Int)))) = false then
 ∃ a94 : Addr, AQ Tryd.prog (Instr.fieldAt 46 (.pointer ((some x1))) 2) (.pointer ((some a94))) ∧
 ∃ a95 : Addr, AQ Tryd.prog (Instr.fieldAt 28 (.pointer ((some a94))) 0) (.pointer ((some a95))) ∧
 ∃ (A96 : Option Addr) (l96 c96 : Nat), QRun Tryd.prog (Instr.loadAt 24 (.pointer ((some a95)))) H0 (.slice A96 l96 c96) ∧
 ∃ a97 : Addr, AQ Tryd.prog (Instr.indexAt 24 (.slice A96 l96 c96) (.int .i64 y11)) (.pointer ((some a97))) ∧
 ∃ n98 : Int, QRun Tryd.prog (Instr.loadAt 3 (.pointer ((some a97)))) H0 (.int .i64 n98) ∧
 if (decide ((n98 : Int) ≥ (((lx9 : Nat) : Int)))) = false then
 ∃ a99 : Addr, AQ Tryd.prog (Instr.fieldAt 46 (.pointer ((some x1))) 2) (.pointer ((some a99))) ∧
 ∃ a100 : Addr, AQ Tryd.prog (Instr.fieldAt 28 (.pointer ((some a99))) 0) (.pointer ((some a100))) ∧
 ∃ (A101 : Option Addr) (l101 c101 : Nat), QRun Tryd.prog (Instr.loadAt 24 (.pointer ((some a100)))) H0 (.slice A101 l101 c101) ∧
 ∃ a102 : Addr, AQ Tryd.prog (Instr.indexAt 24 (.slice A101 l101 c101) (.int .i64 y11)) (.pointer ((some a102))) ∧
 ∃ n103 : Int, QRun Tryd.prog (Instr.loadAt 3 (.pointer ((some a102)))) H0 (.int .i64 n103) ∧
 if (decide ((n103 : Int) ≥ 0)) = true then
 ∃ a104 : Addr, AQ Tryd.prog (Instr.indexAt 39 (.slice Ax7 lx7 cx7) (.int .i64 y11)) (.pointer ((some a104))) ∧
 ∃ n105 : Int, QRun Tryd.prog (Instr.loadAt 22 (.pointer ((some a104)))) H0 (.int .u64 n105) ∧
 ∃ a106 : Addr, AQ Tryd.prog (Instr.fieldAt 46 (.pointer ((some x1))) 2) (.pointer ((some a106))) ∧
 ∃ a107 : Addr, AQ Tryd.prog (Instr.fieldAt 28 (.pointer ((some a106))) 0) (.pointer ((some a107))) ∧
 ∃ (A108 : Option Addr) (l108 c108 : Nat), QRun Tryd.prog (Instr.loadAt 24 (.pointer ((some a107)))) H0 (.slice A108 l108 c108) ∧
 ∃ a109 : Addr, AQ Tryd.prog (Instr.indexAt 24 (.slice A108 l108 c108) (.int .i64 y11)) (.pointer ((some a109))) ∧
 ∃ n110 : Int, QRun Tryd.prog (Instr.loadAt 3 (.pointer ((some a109)))) H0 (.int .i64 n110) ∧
 ∃ a111 : Addr, AQ Tryd.prog (Instr.indexAt 39 (.slice Ax9 lx9 cx9) (.int .i64 n110)) (.pointer ((some a111))) ∧
 ∃ n112 : Int, QRun Tryd.prog (Instr.loadAt 22 (.pointer ((some a111)))) H0 (.int .u64 n112) ∧
 if ((n105 : Int) != n112) = true then
 K (.bool false) H0
 else
 N0 (.int .i64 ((IntKind.i64.wrap (y11 + 1)))) H0
 else
 N0 (.int .i64 ((IntKind.i64.wrap (y11 + 1)))) H0
 else
 K (.bool false) H0
 else
 K (.bool false) H0
 else
 HCall Tryd.prog base 8 #[] H0 fun v113 H114 =>
 ∃ b115 : Bool, v113 = (.bool b115) ∧ K (.bool b115) H114
theorem privitylaw36_OptimizeCertificateSound.loop0 {base : Nat} {x1 : Addr} {Ax7 : Option Addr} {lx7 cx7 : Nat} {Ax9 : Option Addr} {lx9 cx9 : Nat} {y11_i : Int} {H0 : HH} {K : Value → HH → Prop} (J : Nat → Int → HH → Prop) (n : Nat) (h0 : J n y11_i H0)
    (hs : ∀ (n : Nat) (y11 : Int) (g : Fr) (H0 : HH), J n y11 H0 → privitylaw36_OptimizeCertificateSound.B0 base x1 Ax7 lx7 cx7 Ax9 lx9 cx9 y11 g (fun w11 H => ∃ n', n' < n ∧ ∃ (y11' : Int), w11 = (.int .i64 y11') ∧ J n' y11' H) H0 K) : privitylaw36_OptimizeCertificateSound.P0 base [(.pointer ((some x1))), (.slice Ax7 lx7 cx7), (.slice Ax9 lx9 cx9), (.int .i64 y11_i)] H0 K := by
  refine loop_rule (ann := privitylaw36_OptimizeCertificateSound.ann) (body := codeAt [.r, .r, .r, .r, .r, .r, .r, .l, .r, .b, .lp] (bodyOf Tryd.f5)) mix (by kernel_rfl) 2787593149816317989171650501038845995255812 (by kernel_rfl) [1, 7, 9] [(.pointer ((some x1))), (.slice Ax7 lx7 cx7), (.slice Ax9 lx9 cx9)] (by kernel_rfl) (fun fr ⟨e1, e7, e9, e11, _⟩ => ⟨e1, e7, e9, trivial⟩) (fun n g H => ∃ (y11 : Int), g 11 = (.int .i64 y11) ∧ J n y11 H) n (fun fr ⟨e1, e7, e9, e11, _⟩ => ⟨y11_i, e11, h0⟩) ?_
  rintro n g H0 ⟨e1, e7, e9, _⟩ ⟨y11, e11, hJ⟩
  rw [← ov_eq (g := g) [(1, (.pointer ((some x1)))), (7, (.slice Ax7 lx7 cx7)), (9, (.slice Ax9 lx9 cx9)), (11, (.int .i64 y11))] (by simp only [List.mem_cons, List.not_mem_nil, or_false, forall_eq_or_imp, forall_eq, false_implies, implies_true]; exact ⟨e1, e7, e9, e11⟩)]
  have key : ∀ NN : Value → HH → Prop, privitylaw36_OptimizeCertificateSound.B0 base x1 Ax7 lx7 cx7 Ax9 lx9 cx9 y11 g NN H0 K = wpC Tryd.prog base 142 privitylaw36_OptimizeCertificateSound.ann (codeAt [.r, .r, .r, .r, .r, .r, .r, .l, .r, .b, .lp] (bodyOf Tryd.f5)) (ov g [(1, (.pointer ((some x1)))), (7, (.slice Ax7 lx7 cx7)), (9, (.slice Ax9 lx9 cx9)), (11, (.int .i64 y11))]) H0 (thenQ (fun fr H => NN (fr 11) H) (qAt Tryd.prog base 142 privitylaw36_OptimizeCertificateSound.ann [.r, .r, .r, .r, .r, .r, .r, .l, .r, .b] [] (bodyOf Tryd.f5) (retQ Tryd.prog 142 Tryd.f5 K))) := fun NN => by kernel_rfl
  refine cast ?_ (hs n y11 g H0 hJ)
  refine (key (fun w11 H => ∃ n', n' < n ∧ ∃ (y11' : Int), w11 = (.int .i64 y11') ∧ J n' y11' H)).trans ?_
  kernel_rfl
end Go.Proofs.YtjpaichcaaacbabDoor.HL
end
section
set_option linter.unusedVariables false
set_option linter.unusedSimpArgs false
set_option linter.unusedSectionVars false
set_option maxHeartbeats 8000000
namespace Go.Proofs.YtjpaichcaaacbabDoor.HL
open Go Go.Proofs.YtjpaichcaaacbabDoorNum Go.Proofs.YtjpaichcaaacbabDoor.FEv
def sA (k : Int) : Bool := k == 3 || (k == 4 || (k == 6 || k == 5))
def sB (k : Int) : Bool := k == 3 || (k == 4 || k == 6)
def cm (k : Int) : Bool := k == 3 || k == 6
section
variable {base : Nat} {H : HH} {K : Value → HH → Prop}
theorem h_sides (k : Int) (hk : K (.tuple #[.bool (sA k), .bool (sB k)]) H) : HCall Tryd.prog base 24 #[.int .i64 k] H K := by
  refine optimize_sides.spec ?_
  unfold optimize_sides.sh
  unfold sA sB at hk
  by_cases h3 : k = 3
  · subst h3; simpa using hk
  by_cases h4 : k = 4
  · subst h4; simpa using hk
  by_cases h6 : k = 6
  · subst h6; simpa using hk
  by_cases h5 : k = 5
  · subst h5; simpa using hk
  have e3 : (k == 3) = false := by simpa using h3
  have e4 : (k == 4) = false := by simpa using h4
  have e5 : (k == 5) = false := by simpa using h5
  have e6 : (k == 6) = false := by simpa using h6
  rw [e3, e4, e5, e6] at hk
  simpa [h3, h4, h5, h6] using hk
theorem h_either (k : Int) (hk : K (.bool (cm k)) H) : HCall Tryd.prog base 30 #[.int .i64 k] H K := by
  refine optimize_either.spec ?_
  unfold optimize_either.sh
  unfold cm at hk
  by_cases h3 : k = 3
  · subst h3; simpa using hk
  · rw [show (k == 3) = false from by simpa using h3] at hk
    simpa [h3] using hk
end
def OwnZ (base : Nat) (F H : HH) (A : Option Addr) (n c : Nat) (l : List Int) : Prop := Own base H 3 1 (.slice A n c) n (is l) ∧ Frz F H (.slice A n c)
section
variable {base : Nat} {F H H' : HH} {A A' : Option Addr} {n n' c c' : Nat} {l l' : List Int} {K : Value → HH → Prop}
theorem is_len (l : List Int) : (is l).length = l.length := by simp [is]
theorem OwnZ.len (h : OwnZ base F H A n c l) : n = l.length := by have := h.1.1; rw [is_len] at this; omega
theorem OwnZ.row (h : OwnZ base F H A n c l) : Outs H A n l := by
  obtain ⟨A', c', e, _, h2⟩ := h.1.slice
  cases e
  exact ⟨h.len, h2⟩
theorem OwnZ.ext (h : OwnZ base F H A n c l) : Ext F H := h.2.ext
theorem OwnZ.nil (base : Nat) (H : HH) : OwnZ base H H none 0 0 [] := ⟨Own.nil _ _ _ _, Frz.nil _⟩
theorem OwnZ.more (h : OwnZ base F H A n c l) (X : Ext H H') : OwnZ base F H' A n c l := ⟨h.1.ext X, h.2.more X⟩
theorem OwnZ.push (h : OwnZ base F H A n c l) (hl : n ≤ 100000) (x : Int) {C : Option Addr → Nat → Nat → HH → Prop} (hk : ∀ A' c' H', OwnZ base F H' A' (n + 1) c' (l ++ [x]) → Grows H H' (.slice A n c) (.slice A' (n + 1) c') → C A' (n + 1) c' H') {ty : Nat} :
    HRun Tryd.prog base (Instr.buildSlice tInts 1 #[(0, .int .i64 x)]) H fun v1 H1 => ∃ (A1 : Option Addr) (l1 c1 : Nat), v1 = .slice A1 l1 c1 ∧ HRun Tryd.prog base (Builtin.append_ #[tInts, tInts] ty #[.slice A n c, .slice A1 l1 c1]) H1 fun v2 H2 => ∃ (A' : Option Addr) (l' c' : Nat), v2 = .slice A' l' c' ∧ C A' l' c' H2 :=
  h_push unInts inf3 rfl (by decide) rfl h.1 (by omega) (fun A3 c3 H3 ho3 g3 => hk A3 c3 H3 ⟨by simpa [is] using ho3, h.2.grow g3⟩ g3)
theorem Outs.ix (h : Outs H A n l) (c : Nat) {x : Int} (h0 : 0 ≤ x) (h1 : x < n) : ∃ a, AQ Tryd.prog (Instr.indexAt tInts (.slice A n c) (.int .i64 x)) (.pointer (some a)) ∧ QRun Tryd.prog (Instr.loadAt 3 (.pointer (some a))) H (.int .i64 (l.getD x.toNat 0)) := by
  have := h.at c (i := x.toNat) (by omega)
  rwa [Int.toNat_of_nonneg h0] at this
theorem Gs.ix {gs : List Gate} (h : Gs H A n gs) (c : Nat) {x : Int} (h0 : 0 ≤ x) (h1 : x < n) : ∃ a, AQ Tryd.prog (Instr.indexAt tGates (.slice A n c) (.int .i64 x)) (.pointer (some a)) ∧ GAt H a (gs.getD x.toNat gate0) := by
  have := h.at c (i := x.toNat) (by omega)
  rwa [Int.toNat_of_nonneg h0] at this
/-- Two rows of numbers are compared. -/
theorem h_ints (h : Outs H A n l) (h' : Outs H A' n' l') (hl : l.length ≤ 1000) (hk : K (.bool (decide (l = l'))) H) : HCall Tryd.prog base 20 #[.slice A n c, .slice A' n' c'] H K := by
  refine privityref36_Ints.spec ?_
  unfold privityref36_Ints.sh
  have e1 := h.1
  have e2 := h'.1
  by_cases e : n = n'
  rotate_left
  · rw [if_pos (by rw [bne_iff_ne]; omega)]
    have : l ≠ l' := fun hl => e (by rw [e1, e2, hl])
    simpa [this] using hk
  · subst e
    rw [if_neg (by simp)]
    refine privityref36_Ints.loop0 (fun m y H' => H' = H ∧ ∃ j : Nat, y = j ∧ j ≤ n ∧ m = n - j ∧ ∀ t, t < j → l.getD t 0 = l'.getD t 0) n ⟨rfl, 0, rfl, Nat.zero_le _, by omega, fun t h => by omega⟩ ?_
    rintro m y g H' ⟨rfl, j, rfl, hj, hm', ht⟩
    unfold privityref36_Ints.B0
    by_cases hlt : j < n
    · rw [if_pos (decide_eq_true (by omega))]
      obtain ⟨a, q1, q2⟩ := h.at c (i := j) hlt
      obtain ⟨a', q3, q4⟩ := h'.at c' (i := j) hlt
      refine ⟨a, q1, _, q2, a', q3, _, q4, ?_⟩
      by_cases e3 : l.getD j 0 = l'.getD j 0
      · rw [if_neg (by simpa using e3)]
        exact ⟨m - 1, by omega, _, rfl, rfl, j + 1, nxt (n := 1000000) (by omega) (by decide), by omega, by omega, fun t h => by
          rcases Nat.lt_or_ge t j with h1 | h1
          · exact ht t h1
          · obtain rfl : t = j := by omega
            exact e3⟩
      · rw [if_pos (by simpa using e3)]
        have : l ≠ l' := fun hl => e3 (by rw [hl])
        simpa [this] using hk
    · rw [if_neg (fun h => hlt (by have := of_decide_eq_true h; omega))]
      have : l = l' := by
        apply List.ext_getElem (by omega)
        intro t h1 h2
        have := ht t (by omega)
        simpa [h1, h2] using this
      simpa [this] using hk
end
abbrev tCert : Nat := 28
def TB (H : HH) (b : Nat) (A : Option Addr) (n c : Nat) : Prop := H b = some (.cells #[.slice A n c] tCert (0, 0))
theorem ft0 (b : Nat) : AQ Tryd.prog (Instr.fieldAt tCert (.pointer (some ⟨b, 0, none⟩)) 0) (.pointer (some ⟨b, 0, none⟩)) := by
  have := aq_fld (P := Tryd.prog) (s := tCert) (f := 0) (off := 0) (sz := 1) (by kernel_rfl) (by decide) ⟨b, 0, none⟩
  rwa [add0] at this
section
variable {base : Nat} {H H' : HH} {K : Value → HH → Prop} {A : Option Addr} {n c b : Nat}
theorem TB.ext (h : TB H b A n c) (he : Ext H H') : TB H' b A n c := he _ _ h
theorem TB.to (h : TB H b A n c) : QRun Tryd.prog (Instr.loadAt tInts (.pointer (some ⟨b, 0, none⟩))) H (.slice A n c) := q_ld scInts (by rw [cellH_blk h]; rfl)
theorem TB.all (h : TB H b A n c) : QRun Tryd.prog (Instr.loadAt tCert (.pointer (some ⟨b, 0, none⟩))) H (.agg #[.slice A n c]) :=
  q_lda (cs := [.slice A n c]) (by kernel_rfl) (by kernel_rfl) (fun j u hu => by
    rw [add0, cellH_blk h, ← Array.getElem?_toList]
    exact hu)
theorem h_tbox (hk : ∀ b H', Ext H H' → TB H' b A n c → K (.pointer (some ⟨b, 0, none⟩)) H') : HRun Tryd.prog base (Instr.box tCert (.agg #[.slice A n c])) H K :=
  h_box (fun b hb hbase => hk b _ (Ext.upd hb _) (upd_self _ _ _))
end
theorem aq_neqg (g g' : Gate) {x y : Operand} : AQ Tryd.prog (binSem .neq tGate x y (.agg (gv g).toArray) (.agg (gv g').toArray)) (.bool (decide (g ≠ g'))) := fun W => by
  have h1 := run_eqGuard_agg (P := Tryd.prog) (w := W) .neq tGate x y (gv g).toArray (gv g').toArray (by kernel_rfl)
  have h2 := run_neq_struct (P := Tryd.prog) (w := W) tGate (gv g).toArray (gv g').toArray
  rw [eq_gate g g' W, gate_eq] at h2
  unfold binSem
  simp [h1, h2]
end Go.Proofs.YtjpaichcaaacbabDoor.HL
end
section
set_option linter.unusedVariables false
set_option linter.unusedSimpArgs false
set_option linter.unusedSectionVars false
set_option maxHeartbeats 8000000
namespace Go.Proofs.YtjpaichcaaacbabDoor.HL
open Go Go.Proofs.YtjpaichcaaacbabDoorNum Go.Proofs.YtjpaichcaaacbabDoor.FEv
def inG (gs : List Gate) (n : Nat) : List Nat := (List.range n).filter fun i => (gs.getD i gate0).kind == 1
theorem inG_succ (gs : List Gate) (n : Nat) : inG gs (n + 1) = if (gs.getD n gate0).kind = 1 then inG gs n ++ [n] else inG gs n := by
  unfold inG
  rw [List.range_succ, List.filter_append]
  by_cases h : (gs.getD n gate0).kind = 1
  · rw [if_pos h, List.filter_cons, if_pos (by rw [h]; rfl), List.filter_nil]
  · rw [if_neg h, List.filter_cons, if_neg (by simpa using h), List.filter_nil, List.append_nil]
theorem inG_le (gs : List Gate) (n : Nat) : (inG gs n).length ≤ n := by
  unfold inG
  have := List.length_filter_le (fun i => (gs.getD i gate0).kind == 1) (List.range n)
  simpa using this
theorem inG_mem {gs : List Gate} {n i : Nat} (h : i ∈ inG gs n) : i < n ∧ (gs.getD i gate0).kind = 1 := by
  unfold inG at h
  rw [List.mem_filter] at h
  exact ⟨List.mem_range.1 h.1, by simpa using h.2⟩
def zs (l : List Nat) : List Int := l.map fun (k : Nat) => (k : Int)
theorem zs_get (l : List Nat) (i : Nat) : (zs l).getD i 0 = ((l.getD i 0 : Nat) : Int) := by
  unfold zs
  rw [List.getD_eq_getElem?_getD, List.getD_eq_getElem?_getD, List.getElem?_map]
  cases l[i]? <;> rfl
theorem zs_snoc (l : List Nat) (k : Nat) : zs (l ++ [k]) = zs l ++ [(k : Int)] := by simp [zs]
section
variable {base : Nat} {H : HH} {K : Value → HH → Prop} {A A' : Option Addr} {n n' c c' : Nat} {P : Int} {gs : List Gate}
theorem h_inputs (hg : Gs H A n gs) (hz : gs.length ≤ 100000) (hk : ∀ A1 c1 H', Ext H H' → Outs H' A1 (inG gs gs.length).length (zs (inG gs gs.length)) → K (.slice A1 (inG gs gs.length).length c1) H') : HCall Tryd.prog base 16 #[.agg #[.int .u64 P, .slice A n c, .slice A' n' c']] H K := by
  refine optimize_inputs.spec ?_
  unfold optimize_inputs.sh
  obtain rfl := hg.1
  refine h_cbox (fun xb H1 X1 cb => ⟨_, rfl, _, fc1 xb, _, _, _, cb.qgs, ?_⟩)
  refine optimize_inputs.loop0 (fun r A1 l1 c1 y H' => ∃ j : Nat, y = j ∧ j ≤ gs.length ∧ r = gs.length - j ∧ l1 = (inG gs j).length ∧ ∃ F, Ext H F ∧ OwnZ base F H' A1 l1 c1 (zs (inG gs j))) gs.length ⟨0, rfl, Nat.zero_le _, rfl, rfl, H1, X1, OwnZ.nil _ _⟩ ?_
  rintro r A1 l1 c1 y fr H2 ⟨j, rfl, hj, rfl, hl1, F, XF, o2⟩
  unfold optimize_inputs.B0
  have hle := inG_le gs j
  by_cases hlt : j < gs.length
  · rw [if_pos (decide_eq_true (by omega))]
    obtain ⟨a, q1, q2⟩ := (hg.ext (XF.trans o2.ext)).at c (i := j) hlt
    have nx : IntKind.i64.wrap ((j : Int) + 1) = ((j + 1 : Nat) : Int) := nxt (n := 1000000) (by omega) (by decide)
    refine ⟨a, q1, _, _, _, _, _, q2.all, h_gvar (fun ad H3 X3 ga => ⟨_, fg0 ad, _, ga.kind, ?_⟩)⟩
    have is := inG_succ gs j
    by_cases k1 : (gs.getD j gate0).kind = 1
    · rw [if_pos (by simpa using k1)]
      rw [if_pos k1] at is
      refine (o2.more X3).push (by omega) _ (fun A4 c4 H4 o4 g4 => ?_)
      refine ⟨gs.length - j - 1, by omega, _, _, _, _, rfl, rfl, j + 1, nx, by omega, by omega, by rw [is, List.length_append]; simp [hl1], F, XF, ?_⟩
      rw [is, zs_snoc]; exact o4
    · rw [if_neg (by simpa using k1)]
      rw [if_neg k1] at is
      exact ⟨gs.length - j - 1, by omega, _, _, _, _, rfl, rfl, j + 1, nx, by omega, by omega, by rw [is]; exact hl1, F, XF, by rw [is]; exact o2.more X3⟩
  · rw [if_neg (fun h => hlt (by have := of_decide_eq_true h; omega))]
    obtain rfl : j = gs.length := by omega
    subst hl1
    exact hk _ _ _ (XF.trans o2.ext) o2.row
end
def corrB (g h : Gate) (tt : List Int) : Bool :=
  h.kind == g.kind && (h.k == g.k && (!sA g.kind || (decide (0 ≤ tt.getD g.a.toNat 0) && (if sB g.kind = true then decide (0 ≤ tt.getD g.b.toNat 0) && ((h.a == tt.getD g.a.toNat 0 && h.b == tt.getD g.b.toNat 0) || (cm g.kind && (h.a == tt.getD g.b.toNat 0 && h.b == tt.getD g.a.toNat 0))) else h.a == tt.getD g.a.toNat 0))))
theorem sB_sA {k : Int} (h : sB k = true) : sA k = true := by
  unfold sB at h; unfold sA
  simp only [Bool.or_eq_true, beq_iff_eq] at h ⊢
  omega
theorem cm_sB {k : Int} (h : cm k = true) : sB k = true := by
  unfold cm at h; unfold sB
  simp only [Bool.or_eq_true, beq_iff_eq] at h ⊢
  omega
section
variable {base : Nat} {H : HH} {K : Value → HH → Prop} {A : Option Addr} {n c : Nat} {tt : List Int} {g h : Gate}
theorem h_alike (ht : Outs H A n tt) (ha : sA g.kind = true → 0 ≤ g.a ∧ g.a < n) (hb : sB g.kind = true → 0 ≤ g.b ∧ g.b < n) (hk : ∀ H', Ext H H' → K (.bool (corrB g h tt)) H') : HCall Tryd.prog base 17 #[.agg (gv g).toArray, .agg (gv h).toArray, .slice A n c] H K := by
  refine optimize_alike.spec ?_
  unfold optimize_alike.sh
  refine h_gbox (g := g) (fun a H1 X1 ga => ⟨_, rfl, h_gbox (g := h) (fun b H2 X2 gb => ⟨_, rfl, ?_⟩)⟩)
  have ga := ga.ext X2
  have X := X1.trans X2
  have ht := ht.ext X
  have hkv : ∀ v, corrB g h tt = v → K (.bool v) H2 := fun v e => e ▸ hk H2 X
  refine ⟨_, fg0 b, _, gb.kind, _, fg0 a, _, ga.kind, ?_⟩
  cases b1 : (h.kind == g.kind) with
  | false =>
    rw [if_neg (by simpa [bne] using b1)]
    exact hkv _ (by unfold corrB; simp only [b1, Bool.true_and, Bool.false_and, Bool.and_true, Bool.and_false, Bool.true_or, Bool.false_or, Bool.or_false, Bool.or_true, Bool.not_true, Bool.not_false, Bool.false_eq_true, ↓reduceIte])
  | true =>
  rw [if_pos (by simpa [bne] using b1)]
  refine ⟨_, fg4 b, _, gb.k, _, fg4 a, _, ga.k, ?_⟩
  cases b2 : (h.k == g.k) with
  | false =>
    rw [if_pos (by simpa [bne] using b2)]
    exact hkv _ (by unfold corrB; simp only [b1, b2, Bool.true_and, Bool.false_and, Bool.and_true, Bool.and_false, Bool.true_or, Bool.false_or, Bool.or_false, Bool.or_true, Bool.not_true, Bool.not_false, Bool.false_eq_true, ↓reduceIte])
  | true =>
  rw [if_neg (by simpa [bne] using b2)]
  refine ⟨_, fg0 a, _, ga.kind, h_sides g.kind ⟨_, _, rfl, ?_⟩⟩
  cases sa : sA g.kind with
  | false =>
    rw [if_pos (by decide)]
    exact hkv _ (by unfold corrB; simp only [b1, b2, sa, Bool.true_and, Bool.false_and, Bool.and_true, Bool.and_false, Bool.true_or, Bool.false_or, Bool.or_false, Bool.or_true, Bool.not_true, Bool.not_false, Bool.false_eq_true, ↓reduceIte])
  | true =>
  rw [if_neg (by decide)]
  obtain ⟨x0, x1⟩ := ha sa
  obtain ⟨a5, t1, t2⟩ := ht.ix c x0 x1
  refine ⟨_, fg2 a, _, ga.sa, a5, t1, _, t2, ?_⟩
  cases sb : sB g.kind with
  | false =>
    rw [if_pos (by decide)]
    cases b3 : decide (0 ≤ tt.getD g.a.toNat 0) with
    | true =>
      rw [if_pos rfl]
      refine ⟨_, fg2 b, _, gb.sa, ?_⟩
      exact hkv _ (by unfold corrB; simp only [b1, b2, sa, sb, b3, Bool.true_and, Bool.false_and, Bool.and_true, Bool.and_false, Bool.true_or, Bool.false_or, Bool.or_false, Bool.or_true, Bool.not_true, Bool.not_false, Bool.false_eq_true, ↓reduceIte])
    | false =>
      rw [if_neg (by decide)]
      exact hkv _ (by unfold corrB; simp only [b1, b2, sa, sb, b3, Bool.true_and, Bool.false_and, Bool.and_true, Bool.and_false, Bool.true_or, Bool.false_or, Bool.or_false, Bool.or_true, Bool.not_true, Bool.not_false, Bool.false_eq_true, ↓reduceIte])
  | true =>
  rw [if_neg (by decide)]
  obtain ⟨y0, y1⟩ := hb sb
  obtain ⟨a6, t3, t4⟩ := ht.ix c y0 y1
  refine ⟨_, fg3 a, _, ga.sb, a6, t3, _, t4, ?_⟩
  have hkv : ∀ v, (h.kind == g.kind && (h.k == g.k && (!sA g.kind || (decide (0 ≤ tt.getD g.a.toNat 0) && (if sB g.kind = true then decide (0 ≤ tt.getD g.b.toNat 0) && ((h.a == tt.getD g.a.toNat 0 && h.b == tt.getD g.b.toNat 0) || (cm g.kind && (h.a == tt.getD g.b.toNat 0 && h.b == tt.getD g.a.toNat 0))) else h.a == tt.getD g.a.toNat 0))))) = v → K (.bool v) H2 := hkv
  generalize tt.getD g.a.toNat 0 = x at *
  generalize tt.getD g.b.toNat 0 = y at *
  rw [b1, b2, sa, sb] at hkv
  simp only [Bool.true_and, Bool.false_and, Bool.and_true, Bool.and_false, Bool.true_or, Bool.false_or, Bool.or_false, Bool.or_true, Bool.not_true, Bool.not_false, Bool.false_eq_true, ↓reduceIte] at hkv
  by_cases e3 : x < 0
  · rw [if_neg (by simpa using e3)]
    exact hkv _ (by rw [decide_eq_false (by omega : ¬ 0 ≤ x)]; rfl)
  rw [if_pos (by simpa using e3)]
  rw [decide_eq_true (by omega : 0 ≤ x), Bool.true_and] at hkv
  by_cases e4 : y < 0
  · rw [if_pos (by simpa using e4)]
    exact hkv _ (by rw [decide_eq_false (by omega : ¬ 0 ≤ y)]; rfl)
  rw [if_neg (by simpa using e4)]
  rw [decide_eq_true (by omega : 0 ≤ y), Bool.true_and] at hkv
  have last : (h.a == x && h.b == y) = false → HCall Tryd.prog base 30 #[.int .i64 g.kind] H2 (fun v37 H38 => ∃ b39 : Bool, v37 = .bool b39 ∧ if b39 = true then ∃ a40 : Addr, AQ Tryd.prog (Instr.fieldAt tGate (.pointer (some b)) 2) (.pointer (some a40)) ∧ ∃ n41 : Int, QRun Tryd.prog (Instr.loadAt 3 (.pointer (some a40))) H38 (.int .i64 n41) ∧ if (n41 == y) = true then ∃ a42 : Addr, AQ Tryd.prog (Instr.fieldAt tGate (.pointer (some b)) 3) (.pointer (some a42)) ∧ ∃ n43 : Int, QRun Tryd.prog (Instr.loadAt 3 (.pointer (some a42))) H38 (.int .i64 n43) ∧ K (.bool (n43 == x)) H38 else K (.bool false) H38 else K (.bool false) H38) := fun e5 => by
    rw [e5, Bool.false_or] at hkv
    refine h_either g.kind ⟨_, rfl, ?_⟩
    cases hc : cm g.kind with
    | false =>
      rw [if_neg (by decide)]
      exact hkv _ (by rw [hc]; rfl)
    | true =>
      rw [if_pos rfl]
      rw [hc, Bool.true_and] at hkv
      refine ⟨_, fg2 b, _, gb.sa, ?_⟩
      cases e7 : (h.a == y) with
      | true =>
        rw [if_pos rfl]
        exact ⟨_, fg3 b, _, gb.sb, hkv _ (by rw [e7]; rfl)⟩
      | false =>
        rw [if_neg (by decide)]
        exact hkv _ (by rw [e7]; rfl)
  refine ⟨_, fg2 b, _, gb.sa, ?_⟩
  cases e5 : (h.a == x) with
  | true =>
    rw [if_pos rfl]
    refine ⟨_, fg3 b, _, gb.sb, ?_⟩
    cases e6 : (h.b == y) with
    | true =>
      rw [if_neg (by decide)]
      exact hkv _ (by rw [e5, e6]; rfl)
    | false =>
      rw [if_pos rfl]
      exact ⟨_, fg0 a, _, ga.kind, last (by rw [e5, e6]; rfl)⟩
  | false =>
    rw [if_neg (by decide)]
    exact ⟨_, fg0 a, _, ga.kind, last (by rw [e5]; rfl)⟩
end
end Go.Proofs.YtjpaichcaaacbabDoor.HL
end
section
set_option linter.unusedVariables false
set_option linter.unusedSimpArgs false
set_option linter.unusedSectionVars false
set_option maxHeartbeats 8000000
namespace Go.Proofs.YtjpaichcaaacbabDoor.HL
open Go Go.Proofs.YtjpaichcaaacbabDoorNum Go.Proofs.YtjpaichcaaacbabDoor.FEv
/-- A circuit in memory. -/
structure Circ (H : HH) (A : Option Addr) (n : Nat) (gs : List Gate) (A' : Option Addr) (n' : Nat) (outs : List Int) : Prop where
  g : Gs H A n gs
  o : Outs H A' n' outs
  nn : ∀ g ∈ gs, 0 ≤ g.k
  lg : gs.length ≤ 100000
  lo : outs.length ≤ 100000
theorem Circ.ext {H H' : HH} {A A' : Option Addr} {n n' : Nat} {gs : List Gate} {outs : List Int} (h : Circ H A n gs A' n' outs) (X : Ext H H') : Circ H' A n gs A' n' outs := ⟨h.g.ext X, h.o.ext X, h.nn, h.lg, h.lo⟩
/-- The certificate is valid. -/
structure CK (P : Int) (gs : List Gate) (outs : List Int) (P' : Int) (gs' : List Gate) (outs' : List Int) (tt : List Int) : Prop where
  v : validB P gs outs = true
  v' : validB P' gs' outs' = true
  p : P = P'
  len : tt.length = gs.length
  olen : outs.length = outs'.length
  rng : ∀ i, i < tt.length → -1 ≤ tt.getD i 0 ∧ tt.getD i 0 < (gs'.length : Int)
  inl : (inG gs gs.length).length = (inG gs' gs'.length).length
  ins : ∀ i, i < (inG gs gs.length).length → tt.getD ((inG gs gs.length).getD i 0) 0 = (((inG gs' gs'.length).getD i 0 : Nat) : Int) ∧ gs.getD ((inG gs gs.length).getD i 0) gate0 = gs'.getD ((inG gs' gs'.length).getD i 0) gate0
  cor : ∀ i, i < gs.length → (gs.getD i gate0).kind ≠ 1 → 0 ≤ tt.getD i 0 → corrB (gs.getD i gate0) (gs'.getD (tt.getD i 0).toNat gate0) tt = true
  out : ∀ i, i < outs.length → tt.getD (outs.getD i 0).toNat 0 = outs'.getD i 0
theorem inG_get {gs : List Gate} {i : Nat} (h : i < (inG gs gs.length).length) : (inG gs gs.length).getD i 0 < gs.length ∧ (gs.getD ((inG gs gs.length).getD i 0) gate0).kind = 1 := by
  have e : (inG gs gs.length).getD i 0 = (inG gs gs.length)[i] := by simp [h]
  exact inG_mem (by rw [e]; exact List.getElem_mem _)
theorem VOK.outA {P : Int} {gs : List Gate} {outs : List Int} (h : VOK P gs outs) {i : Nat} (hi : i < outs.length) : 0 ≤ outs.getD i 0 ∧ outs.getD i 0 < (gs.length : Int) := by
  have e : outs.getD i 0 = outs[i] := by simp [hi]
  exact h.outs _ (by rw [e]; exact List.getElem_mem _)
theorem GOK.sideA {P : Int} {i : Nat} {g : Gate} (h : GOK P i g) (hs : sA g.kind = true) : 0 ≤ g.a ∧ g.a < i := by
  unfold sA at hs
  simp only [Bool.or_eq_true, beq_iff_eq] at hs
  by_cases h5 : g.kind = 5
  · exact (h.sc h5).2
  · have := h.two (by omega); exact ⟨this.1, this.2.1⟩
theorem GOK.sideB {P : Int} {i : Nat} {g : Gate} (h : GOK P i g) (hs : sB g.kind = true) : 0 ≤ g.b ∧ g.b < i := by
  unfold sB at hs
  simp only [Bool.or_eq_true, beq_iff_eq] at hs
  have := h.two (by omega); exact ⟨this.2.2.1, this.2.2.2⟩
theorem all_succ {Q : Nat → Prop} {j : Nat} (h : ∀ t, t < j → Q t) (hj : Q j) : ∀ t, t < j + 1 → Q t := fun t ht => by
  rcases Nat.lt_or_ge t j with h1 | h1
  · exact h t h1
  · obtain rfl : t = j := by omega
    exact hj
section
variable {base : Nat} {H : HH} {K : Value → HH → Prop} {A A' B B' T : Option Addr} {n n' c c' m m' d d' nt ct : Nat} {P P' : Int} {gs gs' : List Gate} {outs outs' : List Int} {tt : List Int}
theorem h_check (hG : Gl H) (h1 : Circ H A n gs A' n' outs) (h2 : Circ H B m gs' B' m' outs') (ht : Outs H T nt tt)
    (hk1 : CK P gs outs P' gs' outs' tt → ∀ H', Ext H H' → K (.bool true) H') (hk2 : ¬ CK P gs outs P' gs' outs' tt → ∀ H', Ext H H' → K (.bool false) H') :
    HCall Tryd.prog base 7 #[.agg #[.int .u64 P, .slice A n c, .slice A' n' c'], .agg #[.int .u64 P', .slice B m d, .slice B' m' d'], .agg #[.slice T nt ct]] H K := by
  refine optimize_CheckCertificate.spec ?_
  unfold optimize_CheckCertificate.sh
  refine h_cbox (fun xb H1 X1 cb => ⟨_, rfl, h_cbox (fun yb H2 X2 db => ⟨_, rfl, h_tbox (fun tb H3 X3 tk => ⟨_, rfl, ?_⟩)⟩)⟩)
  have X13 := X1.trans (X2.trans X3)
  have cb3 := (cb.ext X2).ext X3
  have db3 := db.ext X3
  refine ⟨_, _, _, _, _, _, _, cb3.all, h_valid (hG.ext X13) (h1.g.ext X13) (h1.o.ext X13) (fun H4 X4 => ⟨_, rfl, ?_⟩)⟩
  cases hv1 : validB P gs outs with
  | false =>
    rw [if_neg (by decide)]
    exact hk2 (fun h => by rw [h.v] at hv1; cases hv1) H4 (X13.trans X4)
  | true =>
  rw [if_pos (by decide)]
  have X14 := X13.trans X4
  refine ⟨_, _, _, _, _, _, _, (db3.ext X4).all, h_valid (hG.ext X14) (h2.g.ext X14) (h2.o.ext X14) (fun H5 X5 => ⟨_, rfl, ?_⟩)⟩
  have X15 := X14.trans X5
  have hk1' : CK P gs outs P' gs' outs' tt → ∀ H', Ext H5 H' → K (.bool true) H' := fun h H' X => hk1 h H' (X15.trans X)
  have hk2' : ¬ CK P gs outs P' gs' outs' tt → ∀ H', Ext H5 H' → K (.bool false) H' := fun h H' X => hk2 h H' (X15.trans X)
  clear hk1 hk2
  cases hv2 : validB P' gs' outs' with
  | false =>
    rw [if_neg (by decide)]
    exact hk2' (fun h => by rw [h.v'] at hv2; cases hv2) H5 (.refl _)
  | true =>
  rw [if_pos (by decide)]
  have cb5 := (cb3.ext X4).ext X5
  have db5 := (db3.ext X4).ext X5
  have tk5 := (tk.ext X4).ext X5
  have c1 := h1.ext X15
  have c2 := h2.ext X15
  have t5 := ht.ext X15
  have v1 := validB_iff.1 hv1
  have v2 := validB_iff.1 hv2
  obtain rfl := h1.g.1
  obtain rfl := h1.o.1
  obtain rfl := h2.g.1
  obtain rfl := h2.o.1
  obtain rfl := ht.1
  have lg := h1.lg
  have lg' := h2.lg
  have lo := h1.lo
  clear h1 h2 ht hG cb cb3 db db3 tk X1 X2 X3 X4 X5 X13 X14 X15
  refine ⟨_, fc0 xb, _, cb5.qp, _, fc0 yb, _, db5.qp, ?_⟩
  by_cases eP : P = P'
  rotate_left
  · rw [if_neg (by simpa using eP)]
    exact hk2' (fun h => eP h.p) H5 (.refl _)
  rw [if_pos (by simpa using eP)]
  refine ⟨_, ft0 tb, _, _, _, tk5.to, _, fc1 xb, _, _, _, cb5.qgs, ?_⟩
  by_cases eL : tt.length = gs.length
  rotate_left
  · rw [if_neg (by rw [Bool.not_eq_false, bne_iff_ne]; omega)]
    exact hk2' (fun h => eL h.len) H5 (.refl _)
  rw [if_pos (by rw [eL]; simp)]
  refine ⟨_, fc2 xb, _, _, _, cb5.qouts, _, fc2 yb, _, _, _, db5.qouts, ?_⟩
  by_cases eO : outs.length = outs'.length
  rotate_left
  · rw [if_pos (by rw [bne_iff_ne]; omega)]
    exact hk2' (fun h => eO h.olen) H5 (.refl _)
  rw [if_neg (by rw [eO]; simp)]
  refine ⟨_, ft0 tb, _, _, _, tk5.to, ?_⟩
  refine optimize_CheckCertificate.loop0 (fun r y H' => H' = H5 ∧ ∃ j : Nat, y = j ∧ j ≤ tt.length ∧ r = tt.length - j ∧ ∀ t, t < j → -1 ≤ tt.getD t 0 ∧ tt.getD t 0 < (gs'.length : Int)) tt.length ⟨rfl, 0, rfl, Nat.zero_le _, rfl, fun t h => by omega⟩ ?_
  rintro r y fr H6 ⟨rfl, j, rfl, hj, rfl, hrng⟩
  unfold optimize_CheckCertificate.B0
  by_cases hlt : j < tt.length
  · rw [if_pos (decide_eq_true (by omega))]
    obtain ⟨a, q1, q2⟩ := t5.at ct (i := j) hlt
    refine ⟨a, q1, _, q2, ?_⟩
    by_cases e1 : tt.getD j 0 < -1
    · rw [if_neg (by simpa using e1)]
      exact hk2' (fun h => by have := h.rng j hlt; omega) H6 (.refl _)
    rw [if_pos (by simpa using e1)]
    refine ⟨_, fc1 yb, _, _, _, db5.qgs, ?_⟩
    by_cases e2 : tt.getD j 0 ≥ (gs'.length : Int)
    · rw [if_pos (decide_eq_true e2)]
      exact hk2' (fun h => by have := h.rng j hlt; omega) H6 (.refl _)
    rw [if_neg (fun h => e2 (of_decide_eq_true h))]
    exact ⟨tt.length - j - 1, by omega, _, rfl, rfl, j + 1, nxt (n := 1000000) (by omega) (by decide), by omega, by omega, all_succ hrng ⟨by omega, by omega⟩⟩
  rw [if_neg (fun h => hlt (by have := of_decide_eq_true h; omega))]
  obtain rfl : j = tt.length := by omega
  clear hlt hj
  refine ⟨_, _, _, _, _, _, _, cb5.all, _, _, _, _, _, _, _, db5.all, h_inputs c1.g lg (fun Ax cx H7 X7 rx => ⟨_, _, _, rfl, (db5.ext X7).all, h_inputs (c2.g.ext X7) lg' (fun Ay cy H8 X8 ry => ⟨_, _, _, rfl, ?_⟩)⟩)⟩
  by_cases eI : (inG gs gs.length).length = (inG gs' gs'.length).length
  rotate_left
  · rw [if_pos (by rw [bne_iff_ne]; omega)]
    exact hk2' (fun h => eI h.inl) H8 (X7.trans X8)
  rw [if_neg (by rw [eI]; simp)]
  have X68 := X7.trans X8
  have cb8 := cb5.ext X68
  have db8 := db5.ext X68
  have tk8 := tk5.ext X68
  have d1 := c1.ext X68
  have d2 := c2.ext X68
  have t8 := t5.ext X68
  have rx8 := rx.ext X8
  have hk1 : CK P gs outs P' gs' outs' tt → ∀ H', Ext H8 H' → K (.bool true) H' := fun h H' X => hk1' h H' (X68.trans X)
  have hk2 : ¬ CK P gs outs P' gs' outs' tt → ∀ H', Ext H8 H' → K (.bool false) H' := fun h H' X => hk2' h H' (X68.trans X)
  clear cb5 db5 tk5 c1 c2 t5 rx hk1' hk2' X7 X8 X68
  have il := inG_le gs gs.length
  refine optimize_CheckCertificate.loop1 (fun r y H' => H' = H8 ∧ ∃ j : Nat, y = j ∧ j ≤ (inG gs gs.length).length ∧ r = (inG gs gs.length).length - j ∧ ∀ i, i < j → tt.getD ((inG gs gs.length).getD i 0) 0 = (((inG gs' gs'.length).getD i 0 : Nat) : Int) ∧ gs.getD ((inG gs gs.length).getD i 0) gate0 = gs'.getD ((inG gs' gs'.length).getD i 0) gate0) (inG gs gs.length).length ⟨rfl, 0, rfl, Nat.zero_le _, rfl, fun t h => by omega⟩ ?_
  rintro r y fr H9 ⟨rfl, j, rfl, hj, rfl, hins⟩
  unfold optimize_CheckCertificate.B1
  by_cases hlt : j < (inG gs gs.length).length
  · rw [if_pos (decide_eq_true (by omega))]
    obtain ⟨ia, ik⟩ := inG_get hlt
    obtain ⟨ja, jk⟩ := inG_get (gs := gs') (i := j) (by omega)
    obtain ⟨a1, q1, q2⟩ := rx8.at cx (i := j) hlt
    obtain ⟨a2, q3, q4⟩ := ry.at cy (i := j) (by omega)
    rw [zs_get] at q2 q4
    obtain ⟨a3, q5, q6⟩ := t8.at ct (i := (inG gs gs.length).getD j 0) (by omega)
    obtain ⟨a4, q7, q8⟩ := d1.g.at c ia
    obtain ⟨a5, q9, q10⟩ := d2.g.at d ja
    refine ⟨_, ft0 tb, _, _, _, tk8.to, a1, q1, _, q2, a3, q5, _, q6, a2, q3, _, q4, ?_⟩
    by_cases e1 : tt.getD ((inG gs gs.length).getD j 0) 0 = (((inG gs' gs'.length).getD j 0 : Nat) : Int)
    rotate_left
    · rw [if_neg (by rw [Bool.not_eq_false, bne_iff_ne]; exact e1)]
      exact hk2 (fun h => e1 (h.ins j hlt).1) H9 (.refl _)
    rw [if_pos (by rw [e1]; simp)]
    refine ⟨_, fc1 xb, _, _, _, cb8.qgs, a1, q1, _, q2, a4, q7, _, _, _, _, _, q8.all, _, fc1 yb, _, _, _, db8.qgs, a2, q3, _, q4, a5, q9, _, _, _, _, _, q10.all, _, aq_neqg _ _, ?_⟩
    by_cases e2 : gs.getD ((inG gs gs.length).getD j 0) gate0 = gs'.getD ((inG gs' gs'.length).getD j 0) gate0
    rotate_left
    · rw [if_pos (decide_eq_true e2)]
      exact hk2 (fun h => e2 (h.ins j hlt).2) H9 (.refl _)
    rw [if_neg (fun h => (of_decide_eq_true h) e2)]
    exact ⟨(inG gs gs.length).length - j - 1, by omega, _, rfl, rfl, j + 1, nxt (n := 1000000) (by omega) (by decide), by omega, by omega, all_succ hins ⟨e1, e2⟩⟩
  rw [if_neg (fun h => hlt (by have := of_decide_eq_true h; omega))]
  obtain rfl : j = (inG gs gs.length).length := by omega
  clear hlt hj rx8 ry
  refine ⟨_, fc1 xb, _, _, _, cb8.qgs, ?_⟩
  refine optimize_CheckCertificate.loop2 (fun r y H' => Ext H9 H' ∧ ∃ j : Nat, y = j ∧ j ≤ gs.length ∧ r = gs.length - j ∧ ∀ i, i < j → (gs.getD i gate0).kind ≠ 1 → 0 ≤ tt.getD i 0 → corrB (gs.getD i gate0) (gs'.getD (tt.getD i 0).toNat gate0) tt = true) gs.length ⟨.refl _, 0, rfl, Nat.zero_le _, rfl, fun t h => by omega⟩ ?_
  rintro r y fr H10 ⟨X10, j, rfl, hj, rfl, hcor⟩
  unfold optimize_CheckCertificate.B2
  by_cases hlt : j < gs.length
  · rw [if_pos (decide_eq_true (by omega))]
    have nx : IntKind.i64.wrap ((j : Int) + 1) = ((j + 1 : Nat) : Int) := nxt (n := 1000000) (by omega) (by decide)
    obtain ⟨a1, q1, q2⟩ := (d1.g.ext X10).at c hlt
    refine ⟨a1, q1, _, _, _, _, _, q2.all, h_gvar (fun ad H11 X11 ga => ?_)⟩
    have X911 := X10.trans X11
    obtain ⟨a3, q5, q6⟩ := (t8.ext X911).at ct (i := j) (by omega)
    refine ⟨_, ft0 tb, _, _, _, (tk8.ext X911).to, a3, q5, _, q6, _, fg0 ad, _, ga.kind, ?_⟩
    by_cases e1 : (gs.getD j gate0).kind = 1
    · rw [if_neg (by rw [e1]; decide)]
      exact ⟨gs.length - j - 1, by omega, _, rfl, X911, j + 1, nx, by omega, by omega, all_succ hcor (fun h => absurd e1 h)⟩
    rw [if_pos (by rw [bne_iff_ne]; exact e1)]
    by_cases e2 : tt.getD j 0 ≥ 0
    rotate_left
    · rw [if_neg (fun h => e2 (of_decide_eq_true h))]
      exact ⟨gs.length - j - 1, by omega, _, rfl, X911, j + 1, nx, by omega, by omega, all_succ hcor (fun _ h => absurd h e2)⟩
    rw [if_pos (decide_eq_true e2)]
    have hr := hrng j (by omega)
    obtain ⟨a4, q7, q8⟩ := (d2.g.ext X911).ix d e2 hr.2
    have gok := v1.gok d1.nn hlt
    refine ⟨_, _, _, _, _, ga.all, _, fc1 yb, _, _, _, (db8.ext X911).qgs, a4, q7, _, _, _, _, _, q8.all, _, ft0 tb, _, _, _, (tk8.ext X911).to, h_alike (g := gs.getD j gate0) (h := gs'.getD (tt.getD j 0).toNat gate0) (t8.ext X911) (fun hs => by have := gok.sideA hs; omega) (fun hs => by have := gok.sideB hs; omega) (fun H12 X12 => ⟨_, rfl, ?_⟩)⟩
    cases e3 : corrB (gs.getD j gate0) (gs'.getD (tt.getD j 0).toNat gate0) tt with
    | false =>
      rw [if_pos (by decide)]
      exact hk2 (fun h => by rw [h.cor j hlt e1 e2] at e3; cases e3) H12 (X911.trans X12)
    | true =>
      rw [if_neg (by decide)]
      exact ⟨gs.length - j - 1, by omega, _, rfl, X911.trans X12, j + 1, nx, by omega, by omega, all_succ hcor (fun _ _ => e3)⟩
  rw [if_neg (fun h => hlt (by have := of_decide_eq_true h; omega))]
  obtain rfl : j = gs.length := by omega
  clear hlt hj
  refine ⟨_, fc2 xb, _, _, _, (cb8.ext X10).qouts, ?_⟩
  refine optimize_CheckCertificate.loop3 (fun r y H' => H' = H10 ∧ ∃ j : Nat, y = j ∧ j ≤ outs.length ∧ r = outs.length - j ∧ ∀ i, i < j → tt.getD (outs.getD i 0).toNat 0 = outs'.getD i 0) outs.length ⟨rfl, 0, rfl, Nat.zero_le _, rfl, fun t h => by omega⟩ ?_
  rintro r y fr H11 ⟨rfl, j, rfl, hj, rfl, hout⟩
  unfold optimize_CheckCertificate.B3
  by_cases hlt : j < outs.length
  · rw [if_pos (decide_eq_true (by omega))]
    have ho := v1.outA hlt
    have ho' := v2.outA (i := j) (by omega)
    obtain ⟨a1, q1, q2⟩ := (d1.o.ext X10).at c' hlt
    obtain ⟨a2, q3, q4⟩ := (t8.ext X10).ix ct ho.1 (by omega)
    obtain ⟨a3, q5, q6⟩ := (d2.o.ext X10).at d' (i := j) (by omega)
    refine ⟨a1, q1, _, q2, _, ft0 tb, _, _, _, (tk8.ext X10).to, a2, q3, _, q4, ?_⟩
    by_cases e1 : tt.getD (outs.getD j 0).toNat 0 < 0
    · rw [if_neg (by simpa using e1)]
      exact hk2 (fun h => by have := h.out j hlt; omega) H11 X10
    rw [if_pos (by simpa using e1)]
    refine ⟨_, ft0 tb, _, _, _, (tk8.ext X10).to, a2, q3, _, q4, _, fc2 yb, _, _, _, (db8.ext X10).qouts, a3, q5, _, q6, ?_⟩
    by_cases e2 : tt.getD (outs.getD j 0).toNat 0 = outs'.getD j 0
    rotate_left
    · rw [if_pos (by rw [bne_iff_ne]; exact e2)]
      exact hk2 (fun h => e2 (h.out j hlt)) H11 X10
    rw [if_neg (by rw [e2]; simp)]
    exact ⟨outs.length - j - 1, by omega, _, rfl, rfl, j + 1, nxt (n := 1000000) (by omega) (by decide), by omega, by omega, all_succ hout e2⟩
  rw [if_neg (fun h => hlt (by have := of_decide_eq_true h; omega))]
  obtain rfl : j = outs.length := by omega
  exact hk1 ⟨hv1, hv2, eP, eL, eO, hrng, eI, hins, hcor, hout⟩ H11 X10
end
end Go.Proofs.YtjpaichcaaacbabDoor.HL
end
namespace Go.Proofs.YtjpaichcaaacbabDoor.HL
end Go.Proofs.YtjpaichcaaacbabDoor.HL
section
set_option linter.unusedVariables false
set_option linter.unusedSimpArgs false
set_option linter.unusedSectionVars false
set_option maxHeartbeats 4000000
namespace Go.Proofs.YtjpaichcaaacbabDoor.HL
open Go Go.Proofs.YtjpaichcaaacbabDoorNum Go.Proofs.YtjpaichcaaacbabDoor.FEv
/-- What identifies equivalent gates. -/
structure Key where
  kind : Int
  a : Int
  b : Int
  k : Int
deriving DecidableEq
def keyF (f : Nat → Nat) (g : Gate) : Key :=
  if cm g.kind = true ∧ (f g.a.toNat : Int) > (f g.b.toNat : Int) then ⟨g.kind, (f g.b.toNat : Int), (f g.a.toNat : Int), g.k⟩
  else ⟨g.kind, if sA g.kind = true then (f g.a.toNat : Int) else 0, if sB g.kind = true then (f g.b.toNat : Int) else 0, g.k⟩
/-- The operands come earlier. -/
def WF (gs : List Gate) : Prop := ∀ t, t < gs.length → (sA (gs.getD t gate0).kind = true → 0 ≤ (gs.getD t gate0).a ∧ (gs.getD t gate0).a < t) ∧ (sB (gs.getD t gate0).kind = true → 0 ≤ (gs.getD t gate0).b ∧ (gs.getD t gate0).b < t)
theorem VOK.wf {P : Int} {gs : List Gate} {outs : List Int} (h : VOK P gs outs) (hnn : ∀ g ∈ gs, 0 ≤ g.k) : WF gs := fun t ht => ⟨(h.gok hnn ht).sideA, (h.gok hnn ht).sideB⟩
def isKey (gs : List Gate) (f : Nat → Nat) (x : Key) (t : Nat) : Bool := (gs.getD t gate0).kind != 1 && decide (keyF f (gs.getD t gate0) = x)
def repG (gs : List Gate) (f : Nat → Nat) (i : Nat) : Nat := if (gs.getD i gate0).kind = 1 then i else ((List.range i).find? (isKey gs f (keyF f (gs.getD i gate0)))).getD i
/-- The representatives of the first gates. -/
def fL (gs : List Gate) : Nat → List Nat
  | 0 => []
  | i + 1 => fL gs i ++ [repG gs (fun k => (fL gs i).getD k 0) i]
def fN (gs : List Gate) (k : Nat) : Nat := (fL gs (k + 1)).getD k 0
theorem fL_len (gs : List Gate) : ∀ i, (fL gs i).length = i
  | 0 => rfl
  | i + 1 => by rw [fL, List.length_append, fL_len gs i]; rfl
theorem getD_app_lt {α : Type} {l l' : List α} {d : α} {k : Nat} (h : k < l.length) : (l ++ l').getD k d = l.getD k d := by
  rw [List.getD_eq_getElem?_getD, List.getD_eq_getElem?_getD, List.getElem?_append_left h]
theorem getD_app_len {α : Type} {l : List α} {x d : α} {k : Nat} (h : k = l.length) : (l ++ [x]).getD k d = x := by
  subst h
  rw [List.getD_eq_getElem?_getD, List.getElem?_append_right (Nat.le_refl _), Nat.sub_self]; rfl
theorem fL_get (gs : List Gate) {k : Nat} : ∀ {i : Nat}, k < i → (fL gs i).getD k 0 = fN gs k
  | 0, h => by omega
  | i + 1, h => by
    rcases Nat.lt_or_ge k i with h1 | h1
    · rw [fL, getD_app_lt (by rw [fL_len]; exact h1)]; exact fL_get gs h1
    · obtain rfl : k = i := by omega
      rfl
theorem keyF_congr {f f' : Nat → Nat} {g : Gate} {t : Nat} (ha : sA g.kind = true → 0 ≤ g.a ∧ g.a < t) (hb : sB g.kind = true → 0 ≤ g.b ∧ g.b < t) (h : ∀ k, k < t → f k = f' k) : keyF f g = keyF f' g := by
  by_cases sb : sB g.kind = true
  · unfold keyF
    obtain ⟨y0, y1⟩ := hb sb
    obtain ⟨x0, x1⟩ := ha (sB_sA sb)
    rw [h _ (by omega), h _ (by omega)]
  · have hc : ¬ cm g.kind = true := fun h => sb (cm_sB h)
    have key : ∀ f : Nat → Nat, keyF f g = ⟨g.kind, if sA g.kind = true then (f g.a.toNat : Int) else 0, 0, g.k⟩ := fun f => by
      unfold keyF
      rw [if_neg (fun h => hc h.1), if_neg sb]
    rw [key f, key f']
    by_cases sa : sA g.kind = true
    · obtain ⟨x0, x1⟩ := ha sa
      rw [if_pos sa, if_pos sa, h _ (by omega)]
    · rw [if_neg sa, if_neg sa]
theorem find_congr {α : Type} {p q : α → Bool} {l : List α} (h : ∀ x ∈ l, p x = q x) : l.find? p = l.find? q := by
  induction l with
  | nil => rfl
  | cons x l ih =>
    rw [List.find?_cons, List.find?_cons, h x (List.mem_cons_self ..), ih (fun y hy => h y (List.mem_cons_of_mem _ hy))]
/-- What the map of the keys met holds, over the final representatives. -/
def met (gs : List Gate) (i : Nat) (x : Key) : Option Nat := (List.range i).find? (isKey gs (fN gs) x)
section
variable {gs : List Gate} (W : WF gs)
include W
theorem fN_eq {i : Nat} (hi : i < gs.length) : fN gs i = if (gs.getD i gate0).kind = 1 then i else (met gs i (keyF (fN gs) (gs.getD i gate0))).getD i := by
  have e : fN gs i = repG gs (fun k => (fL gs i).getD k 0) i := by unfold fN; rw [fL]; exact getD_app_len (fL_len gs i).symm
  rw [e]
  unfold repG met
  have hk : ∀ k, k < i → (fL gs i).getD k 0 = fN gs k := fun k h => fL_get gs h
  have key : ∀ t, t ≤ i → keyF (fun k => (fL gs i).getD k 0) (gs.getD t gate0) = keyF (fN gs) (gs.getD t gate0) := fun t ht => keyF_congr (W t (by omega)).1 (W t (by omega)).2 (fun k h => hk k (by omega))
  rw [key i (Nat.le_refl _)]
  split
  · rfl
  · congr 1
    refine find_congr (fun t ht => ?_)
    unfold isKey
    rw [key t (by have := List.mem_range.1 ht; omega)]
theorem met_succ (i : Nat) (x : Key) : met gs (i + 1) x = (met gs i x).or (if isKey gs (fN gs) x i = true then some i else none) := by
  unfold met
  rw [List.range_succ, List.find?_append, List.find?_singleton]
theorem met_spec {i t : Nat} {x : Key} (h : met gs i x = some t) : t < i ∧ (gs.getD t gate0).kind ≠ 1 ∧ keyF (fN gs) (gs.getD t gate0) = x ∧ ∀ t', t' < t → isKey gs (fN gs) x t' = false := by
  unfold met at h
  rw [List.find?_range_eq_some] at h
  obtain ⟨h1, h2, h3⟩ := h
  unfold isKey at h1
  rw [Bool.and_eq_true, bne_iff_ne, decide_eq_true_eq] at h1
  exact ⟨List.mem_range.1 h2, h1.1, h1.2, fun t' ht => by have := h3 t' ht; simpa using this⟩
theorem fN_le {i : Nat} (hi : i < gs.length) : fN gs i ≤ i := by
  rw [fN_eq W hi]
  split
  · exact Nat.le_refl _
  · cases h : met gs i (keyF (fN gs) (gs.getD i gate0)) with
    | none => exact Nat.le_refl _
    | some t => have := (met_spec W h).1; exact Nat.le_of_lt this
theorem fN_in {i : Nat} (hi : i < gs.length) (h : (gs.getD i gate0).kind = 1) : fN gs i = i := by rw [fN_eq W hi, if_pos h]
end
def onB (nd : Nat → Bool) (j : Nat) : Nat → Bool := fun t => t == j || nd t
/-- A gate is met, from behind. -/
def ndStep (gs : List Gate) (nd : Nat → Bool) (i : Nat) : Nat → Bool :=
  let n1 := if (gs.getD i gate0).kind = 1 then onB nd i else nd
  if n1 i = false then n1 else
  let n2 := if sA (gs.getD i gate0).kind = true then onB n1 (fN gs (gs.getD i gate0).a.toNat) else n1
  if sB (gs.getD i gate0).kind = true then onB n2 (fN gs (gs.getD i gate0).b.toNat) else n2
def ndOut (gs : List Gate) (outs : List Int) (j : Nat) : Nat → Bool := fun t => (outs.take j).any fun o => fN gs o.toNat == t
/-- The last m gates are met. -/
def ndBack (gs : List Gate) (outs : List Int) : Nat → Nat → Bool
  | 0 => ndOut gs outs outs.length
  | m + 1 => ndStep gs (ndBack gs outs m) (gs.length - 1 - m)
def ndAll (gs : List Gate) (outs : List Int) : Nat → Bool := ndBack gs outs gs.length
def mapG (gs : List Gate) (tl : List Int) (g : Gate) : Gate := ⟨g.kind, g.frm, if sA g.kind = true then tl.getD (fN gs g.a.toNat) 0 else g.a, if sB g.kind = true then tl.getD (fN gs g.b.toNat) 0 else g.b, g.k⟩
def cL (gs : List Gate) (nd : Nat → Bool) : Nat → List Int × List Gate
  | 0 => ([], [])
  | i + 1 =>
    let r := cL gs nd i
    if nd (fN gs i) = false then (r.1 ++ [-1], r.2)
    else if fN gs i ≠ i then (r.1 ++ [r.1.getD (fN gs i) 0], r.2)
    else (r.1 ++ [(r.2.length : Int)], r.2 ++ [mapG gs r.1 (gs.getD i gate0)])
theorem cL_len (gs : List Gate) (nd : Nat → Bool) : ∀ i, (cL gs nd i).1.length = i
  | 0 => rfl
  | i + 1 => by
    have := cL_len gs nd i
    unfold cL
    dsimp only
    split
    · simp [this]
    · split
      · simp [this]
      · simp [this]
def optT (gs : List Gate) (outs : List Int) : List Int := (cL gs (ndAll gs outs) gs.length).1
def optG (gs : List Gate) (outs : List Int) : List Gate := (cL gs (ndAll gs outs) gs.length).2
def optO (gs : List Gate) (outs : List Int) : List Int := outs.map fun o => (optT gs outs).getD o.toNat 0
end Go.Proofs.YtjpaichcaaacbabDoor.HL
end
namespace Go.Proofs.YtjpaichcaaacbabDoor.HL
end Go.Proofs.YtjpaichcaaacbabDoor.HL
section
set_option linter.unusedVariables false
set_option linter.unusedSimpArgs false
set_option linter.unusedSectionVars false
set_option maxHeartbeats 8000000
namespace Go.Proofs.YtjpaichcaaacbabDoor.HL
open Go Go.Proofs.YtjpaichcaaacbabDoorNum Go.Proofs.YtjpaichcaaacbabDoor.FEv Go.Proofs.YtjpaichcaaacbabDoorW.PrintWords
theorem h_doM {α : Type} {P : Program} {base : Nat} {H : HH} {s : Sem α} {K : α → HH → Prop} {b : Nat} {o o' : Obj} {v : α} (hb : H b = some o) (hbase : base ≤ b)
    (hr : ∀ W : World, Sat H W → ∃ W', s.run P W = .ok v W' ∧ W'.os = W.os ∧ W'.tape = W.tape ∧ W'.output = W.output ∧ W'.heap.size = W.heap.size ∧ (∀ k, k ≠ b → W'.heap[k]? = W.heap[k]?) ∧ W'.heap[b]? = some o')
    (h : K v (upd H b o')) : HRun P base s H K := fun W hs hb' => by
  obtain ⟨W', h1, h2, h3, h4, h5, h6, h7⟩ := hr W hs
  refine ⟨v, W', _, h1, h, ⟨h2, h3, h4, by omega, fun k hk hn => h6 k (fun e => ?_), fun k o hk => ?_, fun k hk hn => ?_⟩⟩
  · subst e
    rcases hn with hn | hn
    · omega
    · rw [hb] at hn; cases hn
  · by_cases e : k = b
    · subst e; rw [upd_self] at hk; cases hk; exact h7
    · rw [upd_ne _ e] at hk; rw [h6 k e]; exact hs k o hk
  · rw [upd_ne _ (fun e => by subst e; rw [hb] at hn; cases hn)]; exact hn
theorem run_objM {P : Program} {b : Nat} {es : Array MapEntry} {c : Nat} {W : World} (h : W.heap[b]? = some (.map es c)) : (getObj b).run P W = .ok (.map es c) W := by simp [getObj, Sem.run, h]
theorem run_setobjM {P : Program} {b : Nat} {es : Array MapEntry} {c : Nat} {o : Obj} {W : World} (h : W.heap[b]? = some (.map es c)) : (setObj b o).run P W = .ok () { W with heap := W.heap.setIfInBounds b o } := by simp [setObj, Sem.run, h]
abbrev tKey : Nat := 73
abbrev tMet : Nat := 71
theorem unMet : Tryd.prog.underlying tMet = some (.map tKey 3) := by kernel_rfl
def kv (x : Key) : List Value := [.int .i64 x.kind, .int .i64 x.a, .int .i64 x.b, .int .u64 x.k]
theorem eq_key (g g' : Key) (W : World) : (Op.equalIn (9999 + 1) tKey (.agg (kv g).toArray) (.agg (kv g').toArray)).run Tryd.prog W = .ok (g.kind == g'.kind && (g.a == g'.a && (g.b == g'.b && g.k == g'.k))) W := by
  refine eqA_of Tryd.underlying73 (by kernel_rfl) ?_
  refine eqf_cons rfl (a := .int .i64 g.kind) (b := .int .i64 g'.kind) (by kernel_rfl) (by kernel_rfl) (run_equalIn_int _ _ _ _ .i64 _ _ (by kernel_rfl)) ?_
  refine eqf_cons rfl (a := .int .i64 g.a) (b := .int .i64 g'.a) (by kernel_rfl) (by kernel_rfl) (run_equalIn_int _ _ _ _ .i64 _ _ (by kernel_rfl)) ?_
  refine eqf_cons rfl (a := .int .i64 g.b) (b := .int .i64 g'.b) (by kernel_rfl) (by kernel_rfl) (run_equalIn_int _ _ _ _ .i64 _ _ (by kernel_rfl)) ?_
  exact eqf_last rfl (a := .int .u64 g.k) (b := .int .u64 g'.k) (by kernel_rfl) (by kernel_rfl) (run_equalIn_int _ _ _ _ .u64 _ _ (by kernel_rfl))
theorem key_eq (g g' : Key) : (g.kind == g'.kind && (g.a == g'.a && (g.b == g'.b && g.k == g'.k))) = decide (g = g') := by
  obtain ⟨a, b, c, d⟩ := g
  obtain ⟨a', b', c', d'⟩ := g'
  simp only [Key.mk.injEq, Bool.decide_and]
  rfl
theorem run_eqkey (g g' : Key) (W : World) : (Op.equal tKey (.agg (kv g).toArray) (.agg (kv g').toArray)).run Tryd.prog W = .ok (decide (g = g')) W := by
  have := eq_key g g' W
  rw [key_eq] at this
  exact this
theorem run_ckey (e : Bool) (x : Key) (W : World) : (Instr.checkKey e 10000 tKey (.agg (kv x).toArray)).run Tryd.prog W = .ok () W := by
  cases e <;> kernel_rfl
/-- What a search finds. -/
def look (ml : List (Key × Nat)) (x : Key) : Option Nat := (ml.find? fun e => decide (x = e.1)).map (·.2)
def ents (ml : List (Key × Nat)) : List (Value × Value) := ml.map fun e => (Value.agg (kv e.1).toArray, Value.int .i64 (e.2 : Int))
theorem run_asking (x : Key) (W : World) : ∀ (es : List MapEntry) (ml : List (Key × Nat)) (i : Nat), es.map (fun e => (e.key, e.val)) = ents ml → ∃ r, (Instr.findAsking tKey (.agg (kv x).toArray) es i).run Tryd.prog W = .ok r W ∧ r.map (·.2) = (look ml x).map fun (k : Nat) => Value.int .i64 (k : Int)
  | [], [], i, _ => ⟨none, rfl, rfl⟩
  | [], y :: ys, i, h => by simp [ents] at h
  | e :: es, [], i, h => by simp [ents] at h
  | e :: es, y :: ys, i, h => by
    unfold ents at h
    simp only [List.map_cons, List.cons.injEq, Prod.mk.injEq] at h
    obtain ⟨⟨h1, h2⟩, h3⟩ := h
    obtain ⟨r, ih1, ih2⟩ := run_asking x W es ys (i + 1) h3
    unfold Instr.findAsking
    rw [h1]
    by_cases hxy : x = y.1
    · refine ⟨some (i, e.val), ?_, ?_⟩
      · simp [run_eqkey, hxy]
      · unfold look
        rw [List.find?_cons, decide_eq_true hxy, h2]; rfl
    · refine ⟨r, ?_, ?_⟩
      · simp [run_eqkey, hxy, ih1]
      · rw [ih2]
        unfold look
        rw [List.find?_cons, decide_eq_false hxy]
theorem run_findK (x : Key) (W : World) (es : List MapEntry) (ml : List (Key × Nat)) (h : es.map (fun e => (e.key, e.val)) = ents ml) : ∃ r, (Instr.findKey tKey (.agg (kv x).toArray) es).run Tryd.prog W = .ok r W ∧ r.map (·.2) = (look ml x).map fun (k : Nat) => Value.int .i64 (k : Int) := by
  unfold Instr.findKey
  match es, ml, h with
  | [], [], _ => exact ⟨none, by simp [run_under Tryd.underlying73, Instr.findNow], rfl⟩
  | [], y :: ys, h => simp [ents] at h
  | e :: es, [], h => simp [ents] at h
  | e :: es, y :: ys, h =>
    obtain ⟨r, h1, h2⟩ := run_asking x W (e :: es) (y :: ys) 0 h
    refine ⟨r, ?_, h2⟩
    simp [run_under Tryd.underlying73, Instr.findNow, Instr.sameNow, h1]
def MapK (H : HH) (b : Nat) (ml : List (Key × Nat)) : Prop := ∃ (es : Array MapEntry) (clock : Nat), H b = some (.map es clock) ∧ es.toList.map (fun e => (e.key, e.val)) = ents ml
section
variable {base : Nat} {H : HH} {b : Nat} {ml : List (Key × Nat)}
theorem zeroInt : (Tryd.prog.info? 3).bind (·.zero) = some (.int .i64 0) := by kernel_rfl
theorem MapK.look (h : MapK H b ml) (x : Key) : QRun Tryd.prog (Instr.lookup tMet (.map (some b)) (.agg (kv x).toArray) true) H (.tuple #[.int .i64 (((HL.look ml x).getD 0 : Nat) : Int), .bool (HL.look ml x).isSome]) := fun W hs => by
  obtain ⟨es, clock, h1, h2⟩ := h
  obtain ⟨r, hr1, hr2⟩ := run_findK x W es.toList ml h2
  have hg := run_objM (P := Tryd.prog) (hs _ _ h1)
  obtain ⟨i, hi, hz⟩ := Option.bind_eq_some_iff.1 zeroInt
  unfold Instr.lookup
  cases hl : HL.look ml x with
  | none =>
    rw [hl] at hr2
    cases r with
    | none => simp [run_under unMet, hg, run_ckey, hr1, zeroValue, run_ti hi, hz]
    | some q => cases hr2
  | some k =>
    rw [hl] at hr2
    cases r with
    | none => cases hr2
    | some q =>
      obtain ⟨q1, q2⟩ := q
      have e : q2 = .int .i64 (k : Int) := by simpa using hr2
      subst e
      simp [run_under unMet, hg, run_ckey, hr1]
theorem MapK.add (h : MapK H b ml) (hbase : base ≤ b) {x : Key} (hx : HL.look ml x = none) (k : Nat) {K : Unit → HH → Prop} (hk : ∀ H', MapK H' b (ml ++ [(x, k)]) → (∀ k, k ≠ b → H' k = H k) → K () H') : HRun Tryd.prog base (Instr.mapUpdate tMet (.map (some b)) (.agg (kv x).toArray) (.int .i64 (k : Int))) H K := by
  obtain ⟨es, clock, h1, h2⟩ := h
  refine h_doM (o' := .map (es.push { key := .agg (kv x).toArray, val := .int .i64 (k : Int), born := clock }) (clock + 1)) h1 hbase (fun W hs => ⟨{ W with heap := W.heap.setIfInBounds b (.map (es.push { key := .agg (kv x).toArray, val := .int .i64 (k : Int), born := clock }) (clock + 1)) }, ?_, rfl, rfl, rfl, ?_, ?_, ?_⟩) (hk _ ⟨_, _, upd_self _ _ _, ?_⟩ (fun k hk => upd_ne _ hk))
  · have hg := run_objM (P := Tryd.prog) (hs _ _ h1)
    obtain ⟨r, hr1, hr2⟩ := run_findK x W es.toList ml h2
    rw [hx] at hr2
    cases r with
    | some q => cases hr2
    | none =>
      unfold Instr.mapUpdate
      simp [run_under unMet, hg, run_ckey, hr1, run_setobjM (hs _ _ h1)]
  · simp
  · intro k hk
    rw [Array.getElem?_setIfInBounds, if_neg (fun e => hk e.symm)]
  · have := (Array.getElem?_eq_some_iff.1 (hs _ _ h1)).1
    rw [Array.getElem?_setIfInBounds, if_pos rfl, if_pos this]
  · simp [h2, ents]
theorem h_mkMet {K : Value → HH → Prop} (hk : ∀ b H', base ≤ b → H b = none → Ext H H' → MapK H' b [] → K (.map (some b)) H') : HRun Tryd.prog base (Instr.makeMap tMet none) H K :=
  h_new (o := .map #[] 0) (f := fun b => .map (some b)) (fun W => rfl) (fun b hb hbase => hk b _ hbase hb (Ext.upd hb _) ⟨_, _, upd_self _ _ _, rfl⟩)
end
end Go.Proofs.YtjpaichcaaacbabDoor.HL
end
section
set_option linter.unusedVariables false
set_option linter.unusedSimpArgs false
set_option linter.unusedSectionVars false
set_option maxHeartbeats 8000000
namespace Go.Proofs.YtjpaichcaaacbabDoor.HL
open Go Go.Proofs.YtjpaichcaaacbabDoorNum Go.Proofs.YtjpaichcaaacbabDoor.FEv
theorem fL_snoc (gs : List Gate) (i : Nat) : fL gs (i + 1) = fL gs i ++ [fN gs i] := by
  have e : fN gs i = repG gs (fun k => (fL gs i).getD k 0) i := by unfold fN; rw [fL]; exact getD_app_len (fL_len gs i).symm
  rw [fL, e]
theorem look_snoc (ml : List (Key × Nat)) (x y : Key) (k : Nat) : look (ml ++ [(x, k)]) y = (look ml y).or (if y = x then some k else none) := by
  unfold look
  rw [List.find?_append, List.find?_singleton]
  by_cases e : y = x
  · rw [if_pos e, if_pos (decide_eq_true e)]
    cases ml.find? (fun e => decide (y = e.1)) <;> rfl
  · rw [if_neg e, if_neg (fun h => e (of_decide_eq_true h))]
    cases ml.find? (fun e => decide (y = e.1)) <;> rfl
theorem info82 : (Tryd.prog.info? tKey).map (·.size) = some 4 := by kernel_rfl
theorem fk (b j : Nat) (h : j < 4) : AQ Tryd.prog (Instr.fieldAt tKey (.pointer (some ⟨b, 0, none⟩)) j) (.pointer (some ⟨b, j, none⟩)) := by
  match j, h with
  | 0, _ => have := aq_fld (P := Tryd.prog) (s := tKey) (f := 0) (off := 0) (sz := 1) (by kernel_rfl) (by decide) ⟨b, 0, none⟩; rwa [add0] at this
  | 1, _ => have := aq_fld (P := Tryd.prog) (s := tKey) (f := 1) (off := 1) (sz := 1) (by kernel_rfl) (by decide) ⟨b, 0, none⟩; rwa [add0] at this
  | 2, _ => have := aq_fld (P := Tryd.prog) (s := tKey) (f := 2) (off := 2) (sz := 1) (by kernel_rfl) (by decide) ⟨b, 0, none⟩; rwa [add0] at this
  | 3, _ => have := aq_fld (P := Tryd.prog) (s := tKey) (f := 3) (off := 3) (sz := 1) (by kernel_rfl) (by decide) ⟨b, 0, none⟩; rwa [add0] at this
/-- The variable that holds a key. -/
structure KV (base : Nat) (F H : HH) (b : Nat) (x : Key) : Prop where
  ext : Ext F H
  new : F b = none
  own : base ≤ b
  at_ : H b = some (.cells (kv x).toArray tKey (0, 0))
section
variable {base : Nat} {F H H' : HH} {b : Nat} {x : Key} {K : Unit → HH → Prop}
theorem KV.qa (h : KV base F H b x) : QRun Tryd.prog (Instr.loadAt 3 (.pointer (some ⟨b, 1, none⟩))) H (.int .i64 x.a) := q_ld sc3 (by rw [cellH_blk h.at_]; rfl)
theorem KV.qb (h : KV base F H b x) : QRun Tryd.prog (Instr.loadAt 3 (.pointer (some ⟨b, 2, none⟩))) H (.int .i64 x.b) := q_ld sc3 (by rw [cellH_blk h.at_]; rfl)
theorem KV.all (h : KV base F H b x) : QRun Tryd.prog (Instr.loadAt tKey (.pointer (some ⟨b, 0, none⟩))) H (.agg #[.int .i64 x.kind, .int .i64 x.a, .int .i64 x.b, .int .u64 x.k]) :=
  q_lda (cs := kv x) (by kernel_rfl) info82 (fun j u hu => by
    rw [add0, cellH_blk h.at_, ← Array.getElem?_toList]
    exact hu)
theorem KV.sta (h : KV base F H b x) (v : Int) (hK : ∀ H', KV base F H' b ⟨x.kind, v, x.b, x.k⟩ → K () H') : HRun Tryd.prog base (Instr.storeAt 3 (.pointer (some ⟨b, 1, none⟩)) (.int .i64 v)) H K :=
  h_st info3 rfl h.at_ h.own (show 1 < 4 by decide) (hK _ ⟨ext_same h.ext h.new (fun k hk => upd_ne _ hk), h.new, h.own, upd_self _ _ _⟩)
theorem KV.stb (h : KV base F H b x) (v : Int) (hK : ∀ H', KV base F H' b ⟨x.kind, x.a, v, x.k⟩ → K () H') : HRun Tryd.prog base (Instr.storeAt 3 (.pointer (some ⟨b, 2, none⟩)) (.int .i64 v)) H K :=
  h_st info3 rfl h.at_ h.own (show 2 < 4 by decide) (hK _ ⟨ext_same h.ext h.new (fun k hk => upd_ne _ hk), h.new, h.own, upd_self _ _ _⟩)
theorem h_kvar {old : Value} {C : Addr → HH → Prop} (hk : ∀ b H', KV base H H' b x → C ⟨b, 0, none⟩ H') :
    HRun Tryd.prog base (Instr.alloc tKey true old) H fun v H1 => ∃ a : Addr, v = .pointer (some a) ∧ HRun Tryd.prog base (Instr.storeAt tKey (.pointer (some a)) (.agg #[.int .i64 x.kind, .int .i64 x.a, .int .i64 x.b, .int .u64 x.k])) H1 fun _ H2 => C a H2 :=
  h_var (vs := kv x) (z := .agg (kv ⟨0, 0, 0, 0⟩).toArray) (by kernel_rfl) rfl info82 rfl (fun b H' he hbase hn hb => hk _ H' ⟨he, hn, hbase, hb⟩)
theorem MapK.ext {ml : List (Key × Nat)} (h : MapK H b ml) (X : Ext H H') : MapK H' b ml := by
  obtain ⟨es, cl, h1, h2⟩ := h
  exact ⟨es, cl, X _ _ h1, h2⟩
end
theorem OwnZ.nil' {base : Nat} {F H : HH} (X : Ext F H) : OwnZ base F H none 0 0 [] := ⟨Own.nil _ _ _ _, X, fun b hb => by simp [Value.ownBlock] at hb⟩
section
variable {base : Nat} {F H : HH} {K : Value → HH → Prop} {N0 : Value → Value → HH → Prop} {A Ao : Option Addr} {n c co mb : Nat} {gs : List Gate} {ml : List (Key × Nat)} {fr : Fr}
theorem fi_round (W : WF gs) (hg : Gs F A n gs) (hz : gs.length ≤ 100000) {i : Nat} (hi : i < gs.length) (M : MapK H mb ml) (hml : ∀ x, look ml x = met gs i x) (o : OwnZ base F H Ao i co (zs (fL gs i))) (hmb : base ≤ mb) (hF : F mb = none)
    (hN : ∀ A' c' H' ml', MapK H' mb ml' → (∀ x, look ml' x = met gs (i + 1) x) → OwnZ base F H' A' (i + 1) c' (zs (fL gs (i + 1))) → N0 (.slice A' (i + 1) c') (.int .i64 (IntKind.i64.wrap ((i : Int) + 1))) H') :
    optimize_firsts.B0 base (some mb) A gs.length c gs.length Ao i co i fr N0 H K := by
  unfold optimize_firsts.B0
  obtain rfl := hg.1
  rw [if_pos (decide_eq_true (by omega))]
  obtain ⟨a, q1, q2⟩ := (hg.ext o.ext).at c hi
  refine ⟨a, q1, _, _, _, _, _, q2.all, h_gvar (fun ad H1 X1 ga => ⟨_, fg0 ad, _, ga.kind, ?_⟩)⟩
  have M1 := M.ext X1
  have o1 := o.more X1
  have hsn := fL_snoc gs i
  have mapNe : ∀ {H' : HH} {ml' : List (Key × Nat)} {A' : Option Addr} {n' c' : Nat} {l : List Int}, MapK H' mb ml' → OwnZ base F H' A' n' c' l → (Value.slice A' n' c').ownBlock ≠ some mb := fun M' o' e => by
    obtain ⟨es, cl, h1, _⟩ := M'
    obtain ⟨_, cu, hc⟩ := o'.1.known e
    rw [h1] at hc; cases hc
  have push : ∀ {H' : HH} {ml' : List (Key × Nat)}, MapK H' mb ml' → (∀ x, look ml' x = met gs (i + 1) x) → OwnZ base F H' Ao i co (zs (fL gs i)) → HRun Tryd.prog base (Instr.buildSlice tInts 1 #[(0, .int .i64 (fN gs i : Int))]) H' fun v1 H1 => ∃ (A1 : Option Addr) (l1 c1 : Nat), v1 = .slice A1 l1 c1 ∧ HRun Tryd.prog base (Builtin.append_ #[tInts, tInts] tInts #[.slice Ao i co, .slice A1 l1 c1]) H1 fun v2 H2 => ∃ (A' : Option Addr) (l' c' : Nat), v2 = .slice A' l' c' ∧ N0 (.slice A' l' c') (.int .i64 (IntKind.i64.wrap ((i : Int) + 1))) H2 := fun {H'} {ml'} M' hm o' =>
    o'.push (by omega) _ (fun A2 c2 H2 o2 g2 => hN A2 c2 H2 ml' (by
      obtain ⟨es, cl, h1, h2⟩ := M'
      exact ⟨es, cl, g2.keep _ _ (mapNe ⟨es, cl, h1, h2⟩ o') h1, h2⟩) hm (by rw [hsn, zs_snoc]; exact o2))
  by_cases k1 : (gs.getD i gate0).kind = 1
  · rw [if_pos (by simpa using k1)]
    have e := fN_in W hi k1
    have := push M1 (fun x => by
      rw [met_succ W, hml]
      unfold isKey
      rw [show ((gs.getD i gate0).kind != 1) = false by rw [k1]; rfl, Bool.false_and]
      cases met gs i x <;> rfl) o1
    rw [e] at this
    exact this
  rw [if_neg (by simpa using k1)]
  obtain ⟨wa, wb⟩ := W i hi
  obtain ⟨g, hgd⟩ : ∃ g, g = gs.getD i gate0 := ⟨_, rfl⟩
  rw [← hgd] at ga wa wb k1
  refine ⟨_, fg0 ad, _, ga.kind, _, fg4 ad, _, ga.k, _, _, _, _, (show AQ Tryd.prog (Instr.build tKey #[(0, .int .i64 g.kind), (3, .int .u64 g.k)]) (.agg #[.int .i64 g.kind, .int .i64 0, .int .i64 0, .int .u64 g.k]) from fun W => by kernel_rfl), ?_⟩
  refine h_kvar (x := ⟨g.kind, 0, 0, g.k⟩) (fun kb H2 kx => ⟨_, fg0 ad, _, (ga.ext kx.ext).kind, h_sides g.kind ⟨_, _, rfl, ?_⟩⟩)
  have rd : ∀ {H' : HH} {z : Int}, Ext H1 H' → 0 ≤ z → z < i → ∃ a, AQ Tryd.prog (Instr.indexAt tInts (.slice Ao i co) (.int .i64 z)) (.pointer (some a)) ∧ QRun Tryd.prog (Instr.loadAt 3 (.pointer (some a))) H' (.int .i64 (fN gs z.toNat : Int)) := fun X h0 h1 => by
    obtain ⟨a, u1, u2⟩ := (o1.row.ext X).ix co h0 h1
    rw [zs_get, fL_get gs (by omega)] at u2
    exact ⟨a, u1, u2⟩
  -- behind the key
  have s2 : ∀ {H' : HH}, KV base H1 H' kb (keyF (fN gs) g) → optimize_firsts.R2 base N0 [.map (some mb), .slice Ao i co, .int .i64 (i : Int), .pointer (some ⟨kb, 0, none⟩), .slice A gs.length c, .int .i64 ((gs.length : Nat) : Int), .int .i64 (i : Int)] H' K := fun {H'} kx => by
    refine optimize_firsts.cut2 ?_
    unfold optimize_firsts.T2 optimize_firsts.S2
    have M' := M1.ext kx.ext
    have o' := o1.more kx.ext
    refine ⟨_, _, _, _, kx.all, _, _, M'.look _, ?_⟩
    have hl := hml (keyF (fN gs) g)
    have ef := fN_eq W hi
    rw [← hgd, if_neg k1, ← hl] at ef
    have ik : ∀ y, isKey gs (fN gs) y i = decide (keyF (fN gs) g = y) := fun y => by
      unfold isKey
      rw [← hgd, show (g.kind != 1) = true from bne_iff_ne.2 k1, Bool.true_and]
    cases hlk : look ml (keyF (fN gs) g) with
    | none =>
      rw [hlk] at ef
      rw [if_pos (by rfl)]
      refine ⟨_, _, _, _, kx.all, M'.add hmb hlk i (fun H3 M3 s3 => ?_)⟩
      refine optimize_firsts.cut3 ?_
      unfold optimize_firsts.T3 optimize_firsts.S3
      have o3 : OwnZ base F H3 Ao i co (zs (fL gs i)) := ⟨o'.1.move (fun g o hg ho => by rw [s3 g (fun e => mapNe M' o' (by rw [hg, e]))]; exact ho), ext_same o'.ext hF s3, o'.2.off⟩
      have := push M3 (fun y => by
        rw [look_snoc, met_succ W, hml, ik]
        by_cases e : y = keyF (fN gs) g
        · rw [if_pos e, if_pos (decide_eq_true e.symm)]
        · rw [if_neg e, if_neg (fun h => e (of_decide_eq_true h).symm)]) o3
      rw [show fN gs i = i from ef] at this
      exact this
    | some t =>
      rw [hlk] at ef
      rw [if_neg (show ¬ ((!(some t).isSome) = true) from fun h => by cases h)]
      refine optimize_firsts.cut3 ?_
      unfold optimize_firsts.T3 optimize_firsts.S3
      have := push M' (fun y => by
        rw [met_succ W, hml, ik]
        by_cases e : keyF (fN gs) g = y
        · subst e
          rw [hl] at hlk
          rw [hlk]; rfl
        · rw [if_neg (fun h => e (of_decide_eq_true h))]
          cases met gs i y <;> rfl) o'
      rw [show fN gs i = t from ef] at this
      exact this
  have s1 : ∀ {H' : HH}, KV base H1 H' kb ⟨g.kind, if sA g.kind = true then (fN gs g.a.toNat : Int) else 0, if sB g.kind = true then (fN gs g.b.toNat : Int) else 0, g.k⟩ → optimize_firsts.R1 base N0 [.map (some mb), .slice Ao i co, .int .i64 (i : Int), .pointer (some ad), .pointer (some ⟨kb, 0, none⟩), .slice A gs.length c, .int .i64 ((gs.length : Nat) : Int), .int .i64 (i : Int)] H' K := fun {H'} kx => by
    refine optimize_firsts.cut1 ?_
    unfold optimize_firsts.T1 optimize_firsts.S1
    refine ⟨_, fg0 ad, _, (ga.ext kx.ext).kind, h_either g.kind ⟨_, rfl, ?_⟩⟩
    cases hc : cm g.kind with
    | false =>
      rw [if_neg (by decide)]
      refine s2 ?_
      unfold keyF
      rw [if_neg (fun h => by rw [hc] at h; cases h.1)]
      exact kx
    | true =>
      rw [if_pos rfl]
      have sb := cm_sB hc
      have sa := sB_sA sb
      rw [if_pos sa, if_pos sb] at kx
      refine ⟨_, fk kb 1 (by decide), _, kx.qa, _, fk kb 2 (by decide), _, kx.qb, ?_⟩
      by_cases hgt : (fN gs g.a.toNat : Int) > (fN gs g.b.toNat : Int)
      · rw [if_pos (decide_eq_true hgt)]
        refine ⟨_, fk kb 2 (by decide), _, kx.qb, _, fk kb 1 (by decide), _, kx.qa, _, fk kb 1 (by decide), kx.sta _ (fun H5 k5 => ⟨_, fk kb 2 (by decide), k5.stb _ (fun H6 k6 => s2 ?_)⟩)⟩
        unfold keyF
        rw [if_pos ⟨hc, hgt⟩]
        exact k6
      · rw [if_neg (fun h => hgt (of_decide_eq_true h))]
        refine s2 ?_
        unfold keyF
        rw [if_neg (fun h => hgt h.2), if_pos sa, if_pos sb]
        exact kx
  have s0 : ∀ {H' : HH}, KV base H1 H' kb ⟨g.kind, if sA g.kind = true then (fN gs g.a.toNat : Int) else 0, 0, g.k⟩ → optimize_firsts.R0 base N0 [.map (some mb), .slice Ao i co, .int .i64 (i : Int), .pointer (some ad), .pointer (some ⟨kb, 0, none⟩), .bool (sB g.kind), .slice A gs.length c, .int .i64 ((gs.length : Nat) : Int), .int .i64 (i : Int)] H' K := fun {H'} kx => by
    refine optimize_firsts.cut0 ?_
    unfold optimize_firsts.T0 optimize_firsts.S0
    by_cases sb : sB g.kind = true
    · rw [if_pos sb]
      obtain ⟨y0, y1⟩ := wb sb
      obtain ⟨a6, t3, t4⟩ := rd kx.ext y0 y1
      refine ⟨_, fg3 ad, _, (ga.ext kx.ext).sb, a6, t3, _, t4, _, fk kb 2 (by decide), kx.stb _ (fun H5 k5 => s1 ?_)⟩
      rw [if_pos sb]
      exact k5
    · rw [if_neg sb]
      refine s1 ?_
      rw [if_neg sb]
      exact kx
  by_cases sa : sA g.kind = true
  · rw [if_pos sa]
    obtain ⟨x0, x1⟩ := wa sa
    obtain ⟨a5, t1, t2⟩ := rd kx.ext x0 x1
    refine ⟨_, fg2 ad, _, (ga.ext kx.ext).sa, a5, t1, _, t2, _, fk kb 1 (by decide), kx.sta _ (fun H5 k5 => s0 ?_)⟩
    rw [if_pos sa]
    exact k5
  · rw [if_neg sa]
    refine s0 ?_
    rw [if_neg sa]
    exact kx
end
section
variable {base : Nat} {H : HH} {K : Value → HH → Prop} {A A' : Option Addr} {n n' c c' : Nat} {P : Int} {gs : List Gate}
theorem h_firsts (W : WF gs) (hg : Gs H A n gs) (hz : gs.length ≤ 100000) (hk : ∀ A1 c1 H', Ext H H' → Outs H' A1 gs.length (zs (fL gs gs.length)) → K (.slice A1 gs.length c1) H') : HCall Tryd.prog base 23 #[.agg #[.int .u64 P, .slice A n c, .slice A' n' c']] H K := by
  refine optimize_firsts.spec ?_
  unfold optimize_firsts.sh
  obtain rfl := hg.1
  refine h_cbox (fun xb H1 X1 cb => ⟨_, rfl, h_mkMet (fun mb H2 hmb hn X2 M => ⟨_, rfl, _, fc1 xb, _, _, _, (cb.ext X2).qgs, ?_⟩)⟩)
  refine optimize_firsts.loop0 (fun r A1 l1 c1 y H' => ∃ j : Nat, y = j ∧ j ≤ gs.length ∧ r = gs.length - j ∧ l1 = j ∧ ∃ ml, MapK H' mb ml ∧ (∀ x, look ml x = met gs j x) ∧ OwnZ base H1 H' A1 j c1 (zs (fL gs j))) gs.length ⟨0, rfl, Nat.zero_le _, rfl, rfl, [], M, fun x => rfl, OwnZ.nil' X2⟩ ?_
  rintro r A1 l1 c1 y fr H3 ⟨j, rfl, hj, rfl, rfl, ml, M3, hml, o3⟩
  by_cases hlt : l1 < gs.length
  · refine fi_round W (hg.ext X1) hz hlt M3 hml o3 hmb hn (fun A4 c4 H4 ml' M4 hm4 o4 => ?_)
    exact ⟨gs.length - l1 - 1, by omega, _, _, _, _, rfl, rfl, l1 + 1, nxt (n := 1000000) (by omega) (by decide), by omega, by omega, rfl, ml', M4, hm4, o4⟩
  · unfold optimize_firsts.B0
    rw [if_neg (fun h => hlt (by have := of_decide_eq_true h; omega))]
    obtain rfl : l1 = gs.length := by omega
    exact hk _ _ _ (X1.trans o3.ext) o3.row
end
end Go.Proofs.YtjpaichcaaacbabDoor.HL
end
section
set_option linter.unusedVariables false
set_option linter.unusedSimpArgs false
set_option linter.unusedSectionVars false
set_option maxHeartbeats 8000000
namespace Go.Proofs.YtjpaichcaaacbabDoor.HL
open Go Go.Proofs.YtjpaichcaaacbabDoorNum Go.Proofs.YtjpaichcaaacbabDoor.FEv
section
variable {base : Nat} {F H H' : HH} {A : Option Addr} {n c : Nat} {l : List Int} {K : Unit → HH → Prop}
theorem OwnZ.put (o : OwnZ base F H A n c l) {j : Nat} (hj : j < n) (x : Int) (hk : ∀ g cur H', (Value.slice A n c).ownBlock = some g → H g = some (.cells cur 3 (0, 0)) → F g = none → OwnZ base F H' A n c (l.set j x) → (∀ k, k ≠ g → H' k = H k) → K () H') :
    ∃ a, AQ Tryd.prog (Instr.indexAt tInts (.slice A n c) (.int .i64 j)) (.pointer (some a)) ∧ HRun Tryd.prog base (Instr.storeAt 3 (.pointer (some a)) (.int .i64 x)) H K := by
  obtain ⟨g, cur, e1, hb, hg, hi, hc⟩ := Own.at o.1 hj
  subst e1
  have hn : F g = none := o.2.off g (by simp [Value.ownBlock])
  refine ⟨_, aq_own unInts info3 hj, h_st info3 rfl hg hb hi (hk g cur _ (by simp [Value.ownBlock]) hg hn ⟨?_, ext_same o.ext hn (fun k hk => upd_ne _ hk), o.2.off⟩ (fun k hk => upd_ne _ hk))⟩
  have := Own.put o.1 (by simp [Value.ownBlock]) hg j (.int .i64 x)
  rwa [show (is l).set j (.int .i64 x) = is (l.set j x) by simp [is, List.map_set]] at this
/-- A block changes that is not its own. -/
theorem OwnZ.same (o : OwnZ base F H A n c l) {g : Nat} (hF : F g = none) (hne : (Value.slice A n c).ownBlock ≠ some g) (s : ∀ k, k ≠ g → H' k = H k) : OwnZ base F H' A n c l :=
  ⟨o.1.move (fun k x hk hx => by rw [s k (fun e => hne (by rw [hk, e]))]; exact hx), ext_same o.ext hF s, o.2.off⟩
theorem OwnZ.tag (o : OwnZ base F H A n c l) {g : Nat} (hg : (Value.slice A n c).ownBlock = some g) : ∃ cur, H g = some (.cells cur 3 (0, 0)) := (o.1.known hg).2
theorem Rl.same {gs : List Gate} (o : Rl base F H A n c gs) {g : Nat} (hF : F g = none) (hne : (Value.slice A n c).ownBlock ≠ some g) (s : ∀ k, k ≠ g → H' k = H k) : Rl base F H' A n c gs :=
  ⟨ext_same o.ext hF s, o.own.move (fun k x hk hx => by rw [s k (fun e => hne (by rw [hk, e]))]; exact hx), o.off⟩
theorem Rl.tag {gs : List Gate} (o : Rl base F H A n c gs) {g : Nat} (hg : (Value.slice A n c).ownBlock = some g) : ∃ cur, H g = some (.cells cur tGate (0, 0)) := (o.own.known hg).2
theorem Rl.more {gs : List Gate} (o : Rl base F H A n c gs) (X : Ext H H') : Rl base F H' A n c gs := ⟨o.ext.trans X, o.own.ext X, o.off⟩
end
/-- The new circuit's box, its gates, the certificate's row. -/
structure S3 (base : Nat) (F H : HH) (ob : Nat) (P : Int) (Ag : Option Addr) (ng cg : Nat) (Ac : Option Addr) (n cc : Nat) (tl : List Int) (og : List Gate) : Prop where
  obF : F ob = none
  obB : base ≤ ob
  cb : CB H ob P Ag ng cg none 0 0
  ct : OwnZ base F H Ac n cc tl
  rl : Rl base F H Ag ng cg og
section
variable {base : Nat} {F H H' : HH} {ob : Nat} {P : Int} {Ag Ac : Option Addr} {ng cg n cc : Nat} {tl : List Int} {og : List Gate}
theorem S3.ext (h : S3 base F H ob P Ag ng cg Ac n cc tl og) : Ext F H := h.ct.ext
theorem S3.more (h : S3 base F H ob P Ag ng cg Ac n cc tl og) (X : Ext H H') : S3 base F H' ob P Ag ng cg Ac n cc tl og := ⟨h.obF, h.obB, h.cb.ext X, h.ct.more X, h.rl.more X⟩
theorem S3.ctob (h : S3 base F H ob P Ag ng cg Ac n cc tl og) : (Value.slice Ac n cc).ownBlock ≠ some ob := fun e => by
  obtain ⟨cu, hc⟩ := h.ct.tag e
  have := h.cb
  unfold CB at this
  rw [this] at hc
  exact absurd (cells_tag hc) (by decide)
theorem S3.rlob (h : S3 base F H ob P Ag ng cg Ac n cc tl og) : (Value.slice Ag ng cg).ownBlock ≠ some ob := fun e => by
  obtain ⟨cu, hc⟩ := h.rl.tag e
  have := h.cb
  unfold CB at this
  rw [this] at hc
  exact absurd (cells_tag hc) (by decide)
theorem S3.ctrl (h : S3 base F H ob P Ag ng cg Ac n cc tl og) {g : Nat} (h1 : (Value.slice Ac n cc).ownBlock = some g) : (Value.slice Ag ng cg).ownBlock ≠ some g := fun e => by
  obtain ⟨cu, hc⟩ := h.ct.tag h1
  obtain ⟨cu', hc'⟩ := h.rl.tag e
  rw [hc] at hc'
  exact absurd (cells_tag hc') (by decide)
/-- A block changes that is none of them. -/
theorem S3.same (h : S3 base F H ob P Ag ng cg Ac n cc tl og) {g : Nat} (hF : F g = none) (h1 : g ≠ ob) (h2 : (Value.slice Ac n cc).ownBlock ≠ some g) (h3 : (Value.slice Ag ng cg).ownBlock ≠ some g) (s : ∀ k, k ≠ g → H' k = H k) : S3 base F H' ob P Ag ng cg Ac n cc tl og :=
  ⟨h.obF, h.obB, by have := h.cb; unfold CB at this ⊢; rw [s ob (fun e => h1 e.symm)]; exact this, h.ct.same hF h2 s, h.rl.same hF h3 s⟩
theorem S3.putc (h : S3 base F H ob P Ag ng cg Ac n cc tl og) {j : Nat} (hj : j < n) (x : Int) {K : Unit → HH → Prop} (hk : ∀ g cur H', H g = some (.cells cur 3 (0, 0)) → S3 base F H' ob P Ag ng cg Ac n cc (tl.set j x) og → (∀ k, k ≠ g → H' k = H k) → K () H') :
    ∃ a, AQ Tryd.prog (Instr.indexAt tInts (.slice Ac n cc) (.int .i64 j)) (.pointer (some a)) ∧ HRun Tryd.prog base (Instr.storeAt 3 (.pointer (some a)) (.int .i64 x)) H K :=
  h.ct.put hj x (fun g cur H' hg1 hg hF o s => hk g cur H' hg ⟨h.obF, h.obB, by
    have := h.cb
    unfold CB at this ⊢
    rw [s ob (fun e => h.ctob (by rw [hg1, e]))]; exact this, o, h.rl.same hF (h.ctrl hg1) s⟩ s)
/-- A gate is added. -/
theorem S3.addg (h : S3 base F H ob P Ag ng cg Ac n cc tl og) (hl : ng ≤ 100000) (g : Gate) {K : Unit → HH → Prop} {ty : Nat} (hk : ∀ A' c' H', S3 base F H' ob P A' (ng + 1) c' Ac n cc tl (og ++ [g]) → K () H') :
    HRun Tryd.prog base (Instr.buildSlice tGates 1 #[(0, .agg (gv g).toArray)]) H fun v1 H1 => ∃ (A1 : Option Addr) (l1 c1 : Nat), v1 = .slice A1 l1 c1 ∧ HRun Tryd.prog base (Builtin.append_ #[tGates, tGates] ty #[.slice Ag ng cg, .slice A1 l1 c1]) H1 fun v2 H2 => ∃ (A2 : Option Addr) (l2 c2 : Nat), v2 = .slice A2 l2 c2 ∧
      ∃ a, AQ Tryd.prog (Instr.fieldAt tC (.pointer (some ⟨ob, 0, none⟩)) 1) (.pointer (some a)) ∧ HRun Tryd.prog base (Instr.storeAt tGates (.pointer (some a)) (.slice A2 l2 c2)) H2 K := by
  have hfill : Instr.fill (fun i => some (i * 5, 5)) (madeCells (Value.agg (gv gate0).toArray).cells (1 * 5)) [(0, .agg (gv g).toArray)] = some (gv g).toArray := by kernel_rfl
  refine h_lit (sz := 5) (z := .agg (gv gate0).toArray) (cs := (gv g).toArray) unGates (by kernel_rfl) (by decide) hfill (by decide) (fun gb hgb hbase => ⟨_, _, _, rfl, ?_⟩)
  have X1 : Ext H (upd H gb (.cells (gv g).toArray tGate)) := Ext.upd hgb _
  have h1 := h.more X1
  have hrd : Rd (upd H gb (.cells (gv g).toArray tGate)) (some ⟨gb, 0, none⟩) (gv g) := .inr ⟨_, rfl, fun i u hu => by
    rw [add0, cellH_blk (upd_self _ _ _), ← Array.getElem?_toList]; exact hu⟩
  generalize upd H gb (.cells (gv g).toArray tGate) = H1 at X1 h1 hrd ⊢
  refine h_app (m := 1) (ys := gv g) (z := .agg (gv gate0).toArray) unGates aq_gate0 rfl (by decide) h1.rl.own hrd rfl (fun u hu => gv_one hu) (fun e => by cases e) (by omega) (by decide) (fun A2 c2 H2 ho gr => ⟨_, _, _, rfl, _, fc1 ob, ?_⟩)
  have hfr : Frz F H1 (.slice Ag ng cg) := ⟨h1.ext, h1.rl.off⟩
  have hfr2 := hfr.grow gr
  have cb2 : CB H2 ob P Ag ng cg none 0 0 := gr.keep ob _ h1.rlob h1.cb
  have ct2 : OwnZ base F H2 Ac n cc tl := ⟨h1.ct.1.move (fun k x hk hx => gr.keep k x (fun e => h1.ctrl hk e) hx), hfr2.ext, h1.ct.2.off⟩
  refine cb_gates cb2 h.obB (fun H3 cb3 s3 => hk A2 c2 H3 ⟨h.obF, h.obB, cb3, ct2.same h.obF (fun e => ?_) s3, ⟨ext_same hfr2.ext h.obF s3, ?_, hfr2.off⟩⟩)
  · obtain ⟨cu, hc⟩ := ct2.tag e
    unfold CB at cb2
    rw [cb2] at hc
    exact absurd (cells_tag hc) (by decide)
  · have ho' : Own base H2 tGate 5 (.slice A2 (ng + 1) c2) (ng + 1) (gc (og ++ [g])) := by
      have : gc (og ++ [g]) = gc og ++ gv g := by simp [gc]
      rw [this]; exact ho
    refine ho'.move (fun k x hkx hx => by
      have hne : k ≠ ob := fun e => by
        obtain ⟨_, cu, hc⟩ := ho'.known hkx
        unfold CB at cb2
        rw [e, cb2] at hc
        exact absurd (cells_tag hc) (by decide)
      rw [s3 k hne]
      exact hx)
end
/-- A gate's own variable: a field changes. -/
theorem gb_set {base : Nat} {H : HH} {b j : Nat} {g g' : Gate} {v : Int} {K : Unit → HH → Prop} (hb : H b = some (.cells (gv g).toArray tGate (0, 0))) (hbase : base ≤ b) (hj : j < 5) (he : (gv g).toArray.setIfInBounds j (.int .i64 v) = (gv g').toArray)
    (hk : ∀ H', H' b = some (.cells (gv g').toArray tGate (0, 0)) → (∀ k, k ≠ b → H' k = H k) → K () H') : HRun Tryd.prog base (Instr.storeAt 3 (.pointer (some ⟨b, j, none⟩)) (.int .i64 v)) H K :=
  h_st info3 rfl hb hbase (by show j < (gv g).toArray.size; exact hj) (by rw [he]; exact hk _ (upd_self _ _ _) (fun k hk => upd_ne _ hk))
section
variable {base : Nat} {F H : HH} {K : Value → HH → Prop} {N1 : Value → HH → Prop} {A A' Af : Option Addr} {n' c c' cf' nb xb : Nat} {P : Int} {gs : List Gate} {outs : List Int} {nd : Nat → Bool} {x2 x3 : Addr} {fr : Fr}
theorem onB_self (nd : Nat → Bool) (j : Nat) : onB nd j j = true := by simp [onB]
theorem onB_ne (nd : Nat → Bool) {j t : Nat} (h : t ≠ j) : onB nd j t = nd t := by
  unfold onB
  rw [show (t == j) = false by simpa using h, Bool.false_or]
/-- Something more is needed. -/
theorem bb_on {m j : Nat} (h : BB base H nb m nd) (hj : j < m) (hF : F nb = none) (X : Ext F H) {K : Unit → HH → Prop} (hk : ∀ H', Ext F H' → BB base H' nb m (onB nd j) → (∀ k, k ≠ nb → H' k = H k) → K () H') : HRun Tryd.prog base (Instr.storeAt 4 (.pointer (some ⟨nb, j, none⟩)) (.bool true)) H K :=
  h.put hj true (onB_self nd j) (fun k _ hne => onB_ne nd hne) (fun H' h' s => hk H' (ext_same X hF s) h' s)
/-- A round of the search backwards. -/
theorem nd_round (W : WF gs) (hg : Gs F A gs.length gs) (cb : CB F xb P A gs.length c A' n' c') (hz : gs.length ≤ 100000) {i : Nat} (hi : i < gs.length) (X : Ext F H) (hF : F nb = none) (rf : Outs F Af gs.length (zs (fL gs gs.length))) (bb : BB base H nb gs.length nd)
    (hN : ∀ H', Ext F H' → BB base H' nb gs.length (ndStep gs nd i) → N1 (.int .i64 (IntKind.i64.wrap ((i : Int) - 1))) H') :
    optimize_Optimize.B1 base ⟨xb, 0, none⟩ x2 x3 Af gs.length cf' (some ⟨nb, 0, none⟩) gs.length gs.length i fr N1 H K := by
  unfold optimize_Optimize.B1
  rw [if_pos (decide_eq_true (by omega))]
  obtain ⟨a, q1, q2⟩ := (hg.ext X).at c hi
  refine ⟨_, fc1 xb, _, _, _, (cb.ext X).qgs, a, q1, _, _, _, _, _, q2.all, h_bare (fun gb H1 B => ?_)⟩
  obtain ⟨wa, wb⟩ := W i hi
  have hN : ∀ H' nd', nd' = ndStep gs nd i → Ext F H' → BB base H' nb gs.length nd' → N1 (.int .i64 (IntKind.i64.wrap ((i : Int) - 1))) H' := fun H' nd' e X b => hN H' X (e ▸ b)
  unfold ndStep at hN
  dsimp only at hN
  obtain ⟨g, hgd⟩ : ∃ g, g = gs.getD i gate0 := ⟨_, rfl⟩
  rw [← hgd] at B wa wb hN
  obtain ⟨n1, hn1⟩ : ∃ n1, n1 = if g.kind = 1 then onB nd i else nd := ⟨_, rfl⟩
  rw [← hn1] at hN
  obtain ⟨n2, hn2⟩ : ∃ n2, n2 = if sA g.kind = true then onB n1 (fN gs g.a.toNat) else n1 := ⟨_, rfl⟩
  rw [← hn2] at hN
  have X1 := X.trans B.ext
  have bb1 := bb.ext B.ext
  have hgn : gb ≠ nb := fun e => by
    obtain ⟨_, cu, hc⟩ := bb1.blk
    have := B.at_
    rw [e, hc] at this
    exact absurd (cells_tag this) (by decide)
  have keep : ∀ {H' : HH}, (∀ k, k ≠ nb → H' k = H1 k) → GAt H' ⟨gb, 0, none⟩ g := fun s => gat_blk (by rw [s gb hgn]; exact B.at_)
  have rd : ∀ {H' : HH} {z : Int}, Ext F H' → 0 ≤ z → z < i → ∃ a, AQ Tryd.prog (Instr.indexAt tInts (.slice Af gs.length cf') (.int .i64 z)) (.pointer (some a)) ∧ QRun Tryd.prog (Instr.loadAt 3 (.pointer (some a))) H' (.int .i64 (fN gs z.toNat : Int)) := fun X h0 h1 => by
    obtain ⟨a, u1, u2⟩ := (rf.ext X).ix cf' h0 (by omega)
    rw [zs_get, fL_get gs (by omega)] at u2
    exact ⟨a, u1, u2⟩
  have s1 : ∀ (H' : HH), n1 i = true → Ext F H' → BB base H' nb gs.length n2 → GAt H' ⟨gb, 0, none⟩ g →
      optimize_Optimize.R1 base N1 [.pointer (some ⟨xb, 0, none⟩), .pointer (some x2), .pointer (some x3), .slice Af gs.length cf', .slice (some ⟨nb, 0, none⟩) gs.length gs.length, .int .i64 (i : Int), .pointer (some ⟨gb, 0, none⟩), .bool (sB g.kind)] H' K := fun H' e2 X' b' ga => by
    refine optimize_Optimize.cut1 ?_
    unfold optimize_Optimize.T1 optimize_Optimize.S1
    by_cases sb : sB g.kind = true
    · rw [if_pos sb]
      obtain ⟨y0, y1⟩ := wb sb
      obtain ⟨a6, t3, t4⟩ := rd X' y0 y1
      have hf := fN_le W (i := g.b.toNat) (by omega)
      have hj : fN gs g.b.toNat < gs.length := by omega
      refine ⟨_, fg3 _, _, ga.sb, a6, t3, _, t4, _, (b'.at hj).1, bb_on b' hj hF X' (fun H3 X3 b3 s3 => hN H3 _ ?_ X3 b3)⟩
      rw [if_neg (by rw [e2]; decide), if_pos sb]
    · rw [if_neg sb]
      refine hN H' n2 ?_ X' b'
      rw [if_neg (by rw [e2]; decide), if_neg sb]
  have s0 : ∀ (H' : HH), Ext F H' → BB base H' nb gs.length n1 → (∀ k, k ≠ nb → H' k = H1 k) →
      optimize_Optimize.R0 base N1 [.pointer (some ⟨xb, 0, none⟩), .pointer (some x2), .pointer (some x3), .slice Af gs.length cf', .slice (some ⟨nb, 0, none⟩) gs.length gs.length, .int .i64 (i : Int), .pointer (some ⟨gb, 0, none⟩)] H' K := fun H' X' b' s' => by
    refine optimize_Optimize.cut0 ?_
    unfold optimize_Optimize.T0 optimize_Optimize.S0
    refine ⟨_, (b'.at hi).1, _, (b'.at hi).2, ?_⟩
    have ga := keep s'
    cases e2 : n1 i with
    | false =>
      rw [if_pos (by decide)]
      refine hN H' n1 ?_ X' b'
      rw [if_pos e2]
    | true =>
      rw [if_neg (by decide)]
      refine ⟨_, fg0 _, _, ga.kind, h_sides g.kind ⟨_, _, rfl, ?_⟩⟩
      by_cases sa : sA g.kind = true
      · rw [if_pos sa]
        obtain ⟨x0, x1⟩ := wa sa
        obtain ⟨a5, t1, t2⟩ := rd X' x0 x1
        have hf := fN_le W (i := g.a.toNat) (by omega)
        have hj : fN gs g.a.toNat < gs.length := by omega
        refine ⟨_, fg2 _, _, ga.sa, a5, t1, _, t2, _, (b'.at hj).1, bb_on b' hj hF X' (fun H3 X3 b3 s3 => s1 H3 e2 X3 (by rw [hn2, if_pos sa]; exact b3) (keep (fun k hk => by rw [s3 k hk, s' k hk])))⟩
      · rw [if_neg sa]
        exact s1 H' e2 X' (by rw [hn2, if_neg sa]; exact b') ga
  refine ⟨_, fg0 _, _, B.gat.kind, ?_⟩
  by_cases k1 : g.kind = 1
  · rw [if_pos (by simpa using k1)]
    refine ⟨_, (bb1.at hi).1, bb_on bb1 hi hF X1 (fun H3 X3 b3 s3 => s0 H3 X3 (by rw [hn1, if_pos k1]; exact b3) s3)⟩
  · rw [if_neg (by simpa using k1)]
    exact s0 H1 X1 (by rw [hn1, if_neg k1]; exact bb1) (fun k _ => rfl)
end
end Go.Proofs.YtjpaichcaaacbabDoor.HL
end
section
set_option linter.unusedVariables false
set_option linter.unusedSimpArgs false
set_option linter.unusedSectionVars false
set_option maxHeartbeats 8000000
namespace Go.Proofs.YtjpaichcaaacbabDoor.HL
open Go Go.Proofs.YtjpaichcaaacbabDoorNum Go.Proofs.YtjpaichcaaacbabDoor.FEv
theorem set_pad {l : List Int} {i n : Nat} (hl : l.length = i) (hi : i < n) (x : Int) : (l ++ List.replicate (n - i) 0).set i x = (l ++ [x]) ++ List.replicate (n - (i + 1)) 0 := by
  rw [List.set_append_right _ _ (by omega), hl, Nat.sub_self, show n - i = (n - (i + 1)) + 1 by omega, List.replicate_succ, List.set_cons_zero, List.append_assoc]; rfl
theorem set_pad2 {l r : List Int} {i : Nat} (hl : l.length = i) (y x : Int) : ((l ++ [y]) ++ r).set i x = (l ++ [x]) ++ r := by
  rw [List.set_append_left _ _ (by rw [List.length_append, List.length_singleton]; omega), List.set_append_right _ _ (by omega), hl, Nat.sub_self]; rfl
theorem get_pad {l r : List Int} {i k : Nat} (hl : l.length = i) (hk : k < i) (y : Int) : ((l ++ [y]) ++ r).getD k 0 = l.getD k 0 := by
  rw [getD_app_lt (by rw [List.length_append]; omega), getD_app_lt (by omega)]
section
variable {base : Nat} {F H : HH} {K : Value → HH → Prop} {N2 : Value → HH → Prop} {A A' Af Ag Ac : Option Addr} {n' c c' cf' nb xb ob tb ng cg cc : Nat} {P : Int} {gs : List Gate} {outs : List Int} {nd : Nat → Bool} {x2 x3 : Addr} {fr : Fr}
theorem oc_round (W : WF gs) (hg : Gs F A gs.length gs) (cb : CB F xb P A gs.length c A' n' c') (hz : gs.length ≤ 100000) {i : Nat} (hi : i < gs.length) (rf : Outs F Af gs.length (zs (fL gs gs.length))) (bb : BB base F nb gs.length nd) (tk : TB F tb Ac gs.length cc)
    (S : S3 base F H ob P Ag ng cg Ac gs.length cc ((cL gs nd i).1 ++ List.replicate (gs.length - i) 0) (cL gs nd i).2)
    (hN : ∀ A1 n1 c1 H', S3 base F H' ob P A1 n1 c1 Ac gs.length cc ((cL gs nd (i + 1)).1 ++ List.replicate (gs.length - (i + 1)) 0) (cL gs nd (i + 1)).2 → N2 (.int .i64 (IntKind.i64.wrap ((i : Int) + 1))) H')
    (hng : (cL gs nd i).2.length ≤ i) :
    optimize_Optimize.B2 base ⟨xb, 0, none⟩ x2 x3 Af gs.length cf' (some ⟨nb, 0, none⟩) gs.length gs.length ⟨ob, 0, none⟩ ⟨tb, 0, none⟩ A gs.length c gs.length i fr N2 H K := by
  unfold optimize_Optimize.B2
  rw [if_pos (decide_eq_true (by omega))]
  obtain ⟨a, q1, q2⟩ := (hg.ext S.ext).at c hi
  have hl := cL_len gs nd i
  have hrl := S.rl.len
  have ec : cL gs nd (i + 1) = if nd (fN gs i) = false then ((cL gs nd i).1 ++ [-1], (cL gs nd i).2) else if fN gs i ≠ i then ((cL gs nd i).1 ++ [(cL gs nd i).1.getD (fN gs i) 0], (cL gs nd i).2) else ((cL gs nd i).1 ++ [((cL gs nd i).2.length : Int)], (cL gs nd i).2 ++ [mapG gs (cL gs nd i).1 (gs.getD i gate0)]) := rfl
  rw [ec] at hN
  generalize (cL gs nd i).1 = tl at *
  generalize (cL gs nd i).2 = og at *
  obtain ⟨wa, wb⟩ := W i hi
  obtain ⟨g, hgd⟩ : ∃ g, g = gs.getD i gate0 := ⟨_, rfl⟩
  rw [← hgd] at q2 wa wb hN
  refine ⟨a, q1, _, _, _, _, _, q2.all, h_bare (g := g) (fun gb H1 B => ?_)⟩
  have S1 := S.more B.ext
  have gF : F gb = none := S.ext.none B.new
  have g_ob : gb ≠ ob := fun e => by
    have h1 := B.new
    have h2 := S.cb
    unfold CB at h2
    rw [e, h2] at h1; cases h1
  have g_ct : (Value.slice Ac gs.length cc).ownBlock ≠ some gb := fun e => by
    obtain ⟨cu, hc⟩ := S.ct.tag e
    rw [B.new] at hc; cases hc
  have g_rl : (Value.slice Ag ng cg).ownBlock ≠ some gb := fun e => by
    obtain ⟨cu, hc⟩ := S.rl.tag e
    rw [B.new] at hc; cases hc
  have gkeep : ∀ {H' H2 : HH} {g0 : Nat} {cur : Array Value} {g' : Gate}, H2 gb = some (.cells (gv g').toArray tGate (0, 0)) → H2 g0 = some (.cells cur 3 (0, 0)) → (∀ k, k ≠ g0 → H' k = H2 k) → H' gb = some (.cells (gv g').toArray tGate (0, 0)) := fun h1 h2 s => by
    rw [s gb (fun e => by rw [e, h2] at h1; exact absurd (cells_tag h1) (by decide))]; exact h1
  refine ⟨_, ft0 tb, _, _, _, (tk.ext S1.ext).to, S1.putc hi (-1) (fun g0 cur H2 hg0 S2 s2 => ?_)⟩
  rw [set_pad hl hi] at S2
  have B2 := gkeep B.at_ hg0 s2
  have hfi := fN_le W hi
  have rd : ∀ {H' : HH} {z : Int}, Ext F H' → 0 ≤ z → z < (i : Int) + 1 → ∃ a, AQ Tryd.prog (Instr.indexAt tInts (.slice Af gs.length cf') (.int .i64 z)) (.pointer (some a)) ∧ QRun Tryd.prog (Instr.loadAt 3 (.pointer (some a))) H' (.int .i64 (fN gs z.toNat : Int)) := fun X h0 h1 => by
    obtain ⟨a, u1, u2⟩ := (rf.ext X).ix cf' h0 (by omega)
    rw [zs_get, fL_get gs (by omega)] at u2
    exact ⟨a, u1, u2⟩
  obtain ⟨a3, u1, u2⟩ := rd (z := (i : Int)) S2.ext (by omega) (by omega)
  rw [Int.toNat_natCast] at u2
  have hfl : fN gs i < gs.length := by omega
  refine ⟨a3, u1, _, u2, _, (bb.at hfl).1, _, ((bb.ext S2.ext).at hfl).2, ?_⟩
  cases hnd : nd (fN gs i) with
  | false =>
    rw [if_pos (by decide)]
    rw [if_pos hnd] at hN
    exact hN _ _ _ H2 S2
  | true =>
  rw [if_neg (by decide)]
  rw [if_neg (by rw [hnd]; decide)] at hN
  refine ⟨a3, u1, _, u2, ?_⟩
  by_cases hne : fN gs i = i
  rotate_left
  · rw [if_pos (by rw [bne_iff_ne]; omega)]
    rw [if_pos hne] at hN
    have htk := (tk.ext S2.ext).to
    obtain ⟨a4, v1, v2⟩ := S2.ct.row.at cc hfl
    rw [get_pad hl (by omega)] at v2
    refine ⟨_, ft0 tb, _, _, _, htk, _, ft0 tb, _, _, _, htk, a3, u1, _, u2, a4, v1, _, v2, S2.putc hi _ (fun g1 cur1 H3 hg1 S3' s3 => ?_)⟩
    rw [set_pad2 hl] at S3'
    exact hN _ _ _ H3 S3'
  rw [if_neg (by rw [hne]; simp)]
  rw [if_neg (by omega)] at hN
  -- the last steps
  have e3 : ∀ (g' : Gate) (H' : HH), g' = mapG gs tl g → S3 base F H' ob P Ag ng cg Ac gs.length cc ((tl ++ [-1]) ++ List.replicate (gs.length - (i + 1)) 0) og → H' gb = some (.cells (gv g').toArray tGate (0, 0)) →
      optimize_Optimize.R3 base N2 [.pointer (some ⟨xb, 0, none⟩), .pointer (some x2), .pointer (some x3), .slice Af gs.length cf', .slice (some ⟨nb, 0, none⟩) gs.length gs.length, .pointer (some ⟨ob, 0, none⟩), .pointer (some ⟨tb, 0, none⟩), .int .i64 (i : Int), .pointer (some ⟨gb, 0, none⟩), .slice A gs.length c, .int .i64 ((gs.length : Nat) : Int), .int .i64 (i : Int)] H' K := fun g' H' eg S' hb => by
    refine optimize_Optimize.cut3 ?_
    unfold optimize_Optimize.T3 optimize_Optimize.S3
    refine ⟨_, ft0 tb, _, _, _, (tk.ext S'.ext).to, _, fc1 ob, _, _, _, S'.cb.qgs, S'.putc hi _ (fun g1 cur1 H3 hg1 S4 s4 => ?_)⟩
    rw [set_pad2 hl] at S4
    have hb4 := gkeep hb hg1 s4
    refine ⟨_, fc1 ob, _, _, _, S4.cb.qgs, _, _, _, _, _, (gat_blk hb4).all, S4.addg (by omega) g' (fun A5 c5 H5 S5 => ?_)⟩
    rw [eg] at S5
    rw [hrl] at S5
    exact hN _ _ _ H5 S5
  have st : ∀ {H' H3 : HH} {g1 g2 : Gate}, S3 base F H' ob P Ag ng cg Ac gs.length cc ((tl ++ [-1]) ++ List.replicate (gs.length - (i + 1)) 0) og → (∀ k, k ≠ gb → H3 k = H' k) → S3 base F H3 ob P Ag ng cg Ac gs.length cc ((tl ++ [-1]) ++ List.replicate (gs.length - (i + 1)) 0) og := fun S' s => S'.same gF g_ob g_ct g_rl s
  have e2 : ∀ (g' : Gate) (H' : HH), g' = ⟨g.kind, g.frm, if sA g.kind = true then tl.getD (fN gs g.a.toNat) 0 else g.a, g.b, g.k⟩ → S3 base F H' ob P Ag ng cg Ac gs.length cc ((tl ++ [-1]) ++ List.replicate (gs.length - (i + 1)) 0) og → H' gb = some (.cells (gv g').toArray tGate (0, 0)) →
      optimize_Optimize.R2 base N2 [.pointer (some ⟨xb, 0, none⟩), .pointer (some x2), .pointer (some x3), .slice Af gs.length cf', .slice (some ⟨nb, 0, none⟩) gs.length gs.length, .pointer (some ⟨ob, 0, none⟩), .pointer (some ⟨tb, 0, none⟩), .int .i64 (i : Int), .pointer (some ⟨gb, 0, none⟩), .bool (sB g.kind), .slice A gs.length c, .int .i64 ((gs.length : Nat) : Int), .int .i64 (i : Int)] H' K := fun g' H' eg S' hb => by
    refine optimize_Optimize.cut2 ?_
    unfold optimize_Optimize.T2 optimize_Optimize.S2
    by_cases sb : sB g.kind = true
    · rw [if_pos sb]
      obtain ⟨y0, y1⟩ := wb sb
      obtain ⟨a6, t3, t4⟩ := rd S'.ext y0 (by omega)
      have hf := fN_le W (i := g.b.toNat) (by omega)
      obtain ⟨a7, t5, t6⟩ := S'.ct.row.at cc (i := fN gs g.b.toNat) (by omega)
      rw [get_pad hl (by omega)] at t6
      have gb' := gat_blk hb
      have q3 := gb'.sb
      rw [show g'.b = g.b by rw [eg]] at q3
      refine ⟨_, ft0 tb, _, _, _, (tk.ext S'.ext).to, _, fg3 _, _, q3, a6, t3, _, t4, a7, t5, _, t6, _, fb gb 3 (by decide), gb_set (g' := ⟨g'.kind, g'.frm, g'.a, tl.getD (fN gs g.b.toNat) 0, g'.k⟩) hb B.own (by decide) rfl (fun H3 hb3 s3 => e3 _ H3 ?_ (st (g1 := g) (g2 := g) S' s3) hb3)⟩
      rw [eg]
      unfold mapG
      rw [if_pos sb]
    · rw [if_neg sb]
      refine e3 g' H' ?_ S' hb
      rw [eg]
      unfold mapG
      rw [if_neg sb]
  have gb2 := gat_blk B2
  refine ⟨_, fg0 _, _, gb2.kind, h_sides g.kind ⟨_, _, rfl, ?_⟩⟩
  by_cases sa : sA g.kind = true
  · rw [if_pos sa]
    obtain ⟨x0, x1⟩ := wa sa
    obtain ⟨a6, t3, t4⟩ := rd S2.ext x0 (by omega)
    have hf := fN_le W (i := g.a.toNat) (by omega)
    obtain ⟨a7, t5, t6⟩ := S2.ct.row.at cc (i := fN gs g.a.toNat) (by omega)
    rw [get_pad hl (by omega)] at t6
    refine ⟨_, ft0 tb, _, _, _, (tk.ext S2.ext).to, _, fg2 _, _, gb2.sa, a6, t3, _, t4, a7, t5, _, t6, _, fb gb 2 (by decide), gb_set (g' := ⟨g.kind, g.frm, tl.getD (fN gs g.a.toNat) 0, g.b, g.k⟩) B2 B.own (by decide) rfl (fun H3 hb3 s3 => e2 _ H3 ?_ (st (g1 := g) (g2 := g) S2 s3) hb3)⟩
    rw [if_pos sa]
  · rw [if_neg sa]
    refine e2 g H2 ?_ S2 B2
    rw [if_neg sa]
end
end Go.Proofs.YtjpaichcaaacbabDoor.HL
end
section
set_option linter.unusedVariables false
set_option linter.unusedSimpArgs false
set_option linter.unusedSectionVars false
set_option maxHeartbeats 8000000
namespace Go.Proofs.YtjpaichcaaacbabDoor.HL
open Go Go.Proofs.YtjpaichcaaacbabDoorNum Go.Proofs.YtjpaichcaaacbabDoor.FEv
theorem cL_le (gs : List Gate) (nd : Nat → Bool) : ∀ i, (cL gs nd i).2.length ≤ i
  | 0 => Nat.le_refl _
  | i + 1 => by
    have := cL_le gs nd i
    unfold cL
    dsimp only
    split
    · exact Nat.le_succ_of_le this
    · split
      · exact Nat.le_succ_of_le this
      · rw [List.length_append, List.length_singleton]; omega
theorem ndOut_succ {gs : List Gate} {outs : List Int} {j : Nat} (h : j < outs.length) (t : Nat) : ndOut gs outs (j + 1) t = onB (ndOut gs outs j) (fN gs (outs.getD j 0).toNat) t := by
  unfold ndOut onB
  have eo : outs.getD j 0 = outs[j] := by simp [h]
  rw [List.take_add_one, List.getElem?_eq_getElem h, List.any_append, Option.toList_some, List.any_cons, List.any_nil, Bool.or_false, Bool.or_comm, eo]
  congr 1
  rw [Bool.eq_iff_iff, beq_iff_eq, beq_iff_eq]
  exact eq_comm
/-- A block is hidden. -/
def hideB (H : HH) (b : Nat) : HH := fun k => if k = b then none else H k
theorem hide_ext (H : HH) (b : Nat) : Ext (hideB H b) H := fun k o h => by
  unfold hideB at h
  split at h
  · cases h
  · exact h
theorem hide_at (H : HH) (b : Nat) : hideB H b b = none := by unfold hideB; rw [if_pos rfl]
theorem hide_ne (H : HH) {b k : Nat} (h : k ≠ b) : hideB H b k = H k := by unfold hideB; rw [if_neg h]
theorem ext_hide {F H : HH} {b : Nat} (X : Ext F H) (hF : F b = none) : Ext F (hideB H b) := fun k o h => by
  rw [hide_ne _ (fun e => by rw [e, hF] at h; cases h)]; exact X k o h
section
variable {base : Nat} {H : HH}
theorem h_mkZ {q : Nat} (hq : q ≤ 1000000) {k1 k2 : IntKind} {K : Value → HH → Prop} (h : ∀ A' c' H', OwnZ base H H' A' q c' (List.replicate q 0) → K (.slice A' q c') H') :
    HRun Tryd.prog base (Instr.makeSlice tInts (.int k1 q) (.int k2 q)) H K :=
  h_mkN hq (fun g H' hb o X hn => h _ _ H' ⟨by
    have : ns ((List.range q).map fun _ => 0) = is (List.replicate q 0) := by
      unfold ns is
      rw [List.map_const', List.length_range, List.map_replicate, List.map_replicate]; rfl
    unfold NB at o
    rw [this] at o
    exact o, X, fun b hb' => by
    have e : g = b := by simpa [Value.ownBlock] using hb'
    rw [← e]; exact hn⟩)
theorem h_tvar {A : Option Addr} {n c : Nat} {old : Value} {C : Addr → HH → Prop} (hk : ∀ b H', Ext H H' → H b = none → TB H' b A n c → C ⟨b, 0, none⟩ H') :
    HRun Tryd.prog base (Instr.alloc tCert true old) H fun v H1 => ∃ a : Addr, v = .pointer (some a) ∧ HRun Tryd.prog base (Instr.storeAt tCert (.pointer (some a)) (.agg #[.slice A n c])) H1 fun _ H2 => C a H2 :=
  h_var (vs := [.slice A n c]) (z := .agg #[.slice none 0 0]) (by kernel_rfl) rfl (by kernel_rfl) rfl (fun b H' he hbase hn hb => hk _ H' he hn hb)
/-- A number is pushed; something is read between. -/
theorem OwnZ.pushQ {F : HH} {A : Option Addr} {n c : Nat} {l : List Int} (o : OwnZ base F H A n c l) (hl : n ≤ 100000) (x : Int) {Q : HH → Prop} (hQ : ∀ H', Ext H H' → Q H') {C : Option Addr → Nat → Nat → HH → Prop} (hk : ∀ A' c' H', OwnZ base F H' A' (n + 1) c' (l ++ [x]) → Grows H H' (.slice A n c) (.slice A' (n + 1) c') → C A' (n + 1) c' H') {ty : Nat} :
    HRun Tryd.prog base (Instr.buildSlice tInts 1 #[(0, .int .i64 x)]) H fun v1 H1 => ∃ (A1 : Option Addr) (l1 c1 : Nat), v1 = .slice A1 l1 c1 ∧ Q H1 ∧ HRun Tryd.prog base (Builtin.append_ #[tInts, tInts] ty #[.slice A n c, .slice A1 l1 c1]) H1 fun v2 H2 => ∃ (A' : Option Addr) (l' c' : Nat), v2 = .slice A' l' c' ∧ C A' l' c' H2 := by
  have hfill : Instr.fill (fun i => some (i * 1, 1)) (madeCells (Value.int .i64 0).cells (1 * 1)) [(0, .int .i64 x)] = some #[.int .i64 x] := by kernel_rfl
  refine h_lit (sz := 1) (z := .int .i64 0) (cs := #[.int .i64 x]) unInts (by kernel_rfl) (by decide) hfill (by decide) (fun b hb hbase => ⟨_, _, _, rfl, hQ _ (Ext.upd hb _), ?_⟩)
  have he : Ext H (upd H b (.cells #[.int .i64 x] 3)) := Ext.upd hb _
  refine h_app (m := 1) (ys := [.int .i64 x]) unInts inf3 rfl (by decide) (o.1.ext he) (.inr ⟨_, rfl, fun i w hw => ?_⟩) (by simp) (by simp [Value.oneCell']) (by simp) (by omega) (by decide) (fun A' c' H' h1 h2 => ⟨_, _, _, rfl, hk A' c' H' ⟨by simpa [is] using h1, o.2.grow (h2.trans_ext he)⟩ (h2.trans_ext he)⟩)
  match i, hw with
  | 0, hw =>
    cases hw
    show cellH _ ((⟨b, 0, none⟩ : Addr).add 0) = _
    simp [Addr.add, cellH, upd_self]
/-- The circuit's outputs are another row. -/
theorem cb_outs {b : Nat} {p : Int} {A A' A1 : Option Addr} {n c n' c' n1 c1 : Nat} {K : Unit → HH → Prop} (h : CB H b p A n c A' n' c') (hb : base ≤ b) (hK : ∀ H', CB H' b p A n c A1 n1 c1 → (∀ k, k ≠ b → H' k = H k) → K () H') :
    HRun Tryd.prog base (Instr.storeAt tInts (.pointer (some ⟨b, 2, none⟩)) (.slice A1 n1 c1)) H K :=
  h_st (by kernel_rfl) rfl h hb (show 2 < 3 by decide) (hK _ (upd_self _ _ _) (fun k hk => upd_ne _ hk))
theorem q_res2 {l : List Value} {x y : Nat} {p : Int} {A A' T : Option Addr} {n c n' c' nt ct : Nat} (h2 : l[2]? = some (.pointer (some ⟨x, 0, none⟩))) (h3 : l[3]? = some (.pointer (some ⟨y, 0, none⟩))) (hx : CB H x p A n c A' n' c') (hy : TB H y T nt ct) :
    QRun Tryd.prog (results Tryd.f11 l.toArray) H (.tuple #[.agg #[.int .u64 p, .slice A n c, .slice A' n' c'], .agg #[.slice T nt ct]]) := fun W hs => by
  have er : Tryd.f11.results = #[.cell 2 tC, .cell 3 tCert] := by kernel_rfl
  have hl := hx.all W hs
  have hl' := hy.all W hs
  simp only [Instr.loadAt, Instr.sureAddr] at hl hl'
  have e2 : l.toArray.getD 2 undef = .pointer (some ⟨x, 0, none⟩) := by simp [Array.getD_eq_getD_getElem?, h2]
  have e3 : l.toArray.getD 3 undef = .pointer (some ⟨y, 0, none⟩) := by simp [Array.getD_eq_getD_getElem?, h3]
  unfold results
  rw [er]
  simp_all [asAddr]
end
section
variable {base : Nat} {H : HH} {K : Value → HH → Prop} {A A' : Option Addr} {n n' c c' : Nat} {P : Int} {gs : List Gate} {outs : List Int}
theorem h_optimize (W : WF gs) (hO : ∀ i, i < outs.length → 0 ≤ outs.getD i 0 ∧ outs.getD i 0 < (gs.length : Int)) (hC : Circ H A n gs A' n' outs)
    (hk : ∀ A1 n1 c1 A2 c2 A3 c3 H', Ext H H' → Gs H' A1 n1 (optG gs outs) → n1 ≤ c1 → Outs H' A2 outs.length (optO gs outs) → Outs H' A3 gs.length (optT gs outs) → K (.tuple #[.agg #[.int .u64 P, .slice A1 n1 c1, .slice A2 outs.length c2], .agg #[.slice A3 gs.length c3]]) H') :
    HCall Tryd.prog base 11 #[.agg #[.int .u64 P, .slice A n c, .slice A' n' c']] H K := by
  refine optimize_Optimize.spec ?_
  unfold optimize_Optimize.sh
  obtain rfl := hC.g.1
  obtain rfl := hC.o.1
  have lg := hC.lg
  have lo := hC.lo
  refine h_cbox (fun xb H1 X1 cb1 => ⟨_, rfl, h_alloc (z := .agg #[.int .u64 0, .slice none 0 0, .slice none 0 0]) (by kernel_rfl) (fun rb rn rbase => ⟨_, rfl, h_alloc (z := .agg #[.slice none 0 0]) (by kernel_rfl) (fun tb' tn tbase => ⟨_, rfl, ?_⟩)⟩)⟩)
  have E1 : Ext H1 (upd H1 rb (.cells (Value.agg #[.int .u64 0, .slice none 0 0, .slice none 0 0]).cells tC (0, 0))) := Ext.upd rn _
  have e1 : (upd H1 rb (.cells (Value.agg #[.int .u64 0, .slice none 0 0, .slice none 0 0]).cells tC (0, 0))) rb = some _ := upd_self _ _ _
  generalize upd H1 rb (.cells (Value.agg #[.int .u64 0, .slice none 0 0, .slice none 0 0]).cells tC (0, 0)) = H2 at E1 e1 tn ⊢
  have E2 : Ext H2 (upd H2 tb' (.cells (Value.agg #[.slice none 0 0]).cells tCert (0, 0))) := Ext.upd tn _
  have e2 : (upd H2 tb' (.cells (Value.agg #[.slice none 0 0]).cells tCert (0, 0))) tb' = some _ := upd_self _ _ _
  generalize upd H2 tb' (.cells (Value.agg #[.slice none 0 0]).cells tCert (0, 0)) = H3 at E2 e2 ⊢
  have eR : H3 rb = some (.cells (Value.agg #[.int .u64 0, .slice none 0 0, .slice none 0 0]).cells tC (0, 0)) := E2 _ _ e1
  have X13 := E1.trans E2
  have cb3 := cb1.ext X13
  have rH : H rb = none := X1.none rn
  have tH : H tb' = none := (X1.trans E1).none tn
  have X03 := X1.trans X13
  have C3 := hC.ext X03
  refine ⟨_, _, _, _, _, _, _, cb3.all, h_firsts W C3.g lg (fun Af cf H4 X4 rf => ⟨_, _, _, rfl, _, fc1 xb, _, _, _, (cb3.ext X4).qgs, h_mkB (by omega) (fun nb H5 hnb bb5 X5 nbn => ⟨_, _, _, rfl, _, fc2 xb, _, _, _, ((cb3.ext X4).ext X5).qouts, ?_⟩)⟩)⟩
  have cb4 := cb3.ext X4
  have C4 := C3.ext X4
  -- what the outputs need
  have fle : ∀ {z : Int}, 0 ≤ z → z < (gs.length : Int) → fN gs z.toNat < gs.length := fun {z} h0 h1 => by have := fN_le W (i := z.toNat) (by omega); omega
  have rd : ∀ {H' : HH} {z : Int}, Ext H4 H' → 0 ≤ z → z < (gs.length : Int) → ∃ a, AQ Tryd.prog (Instr.indexAt tInts (.slice Af gs.length cf) (.int .i64 z)) (.pointer (some a)) ∧ QRun Tryd.prog (Instr.loadAt 3 (.pointer (some a))) H' (.int .i64 (fN gs z.toNat : Int)) := fun X h0 h1 => by
    obtain ⟨a, u1, u2⟩ := (rf.ext X).ix cf h0 h1
    rw [zs_get, fL_get gs (by omega)] at u2
    exact ⟨a, u1, u2⟩
  refine optimize_Optimize.loop0 (fun r y H' => ∃ j : Nat, y = j ∧ j ≤ outs.length ∧ r = outs.length - j ∧ Ext H4 H' ∧ BB base H' nb gs.length (ndOut gs outs j)) outs.length ⟨0, rfl, Nat.zero_le _, rfl, X5, bb5.congr (fun k hk => by simp [ndOut])⟩ ?_
  rintro r y fr H6 ⟨j, rfl, hj, rfl, X6, bb6⟩
  unfold optimize_Optimize.B0
  by_cases hlt : j < outs.length
  · rw [if_pos (decide_eq_true (by omega))]
    obtain ⟨o0, o1⟩ := hO j hlt
    obtain ⟨a1, q1, q2⟩ := (C4.o.ext X6).at c' hlt
    obtain ⟨a2, q3, q4⟩ := rd X6 o0 o1
    have hf := fle o0 o1
    refine ⟨a1, q1, _, q2, a2, q3, _, q4, _, (bb6.at hf).1, bb_on bb6 hf nbn X6 (fun H7 X7 b7 s7 => ?_)⟩
    refine ⟨outs.length - j - 1, by omega, _, rfl, j + 1, nxt (n := 1000000) (by omega) (by decide), by omega, by omega, X7, b7.congr (fun t ht => ndOut_succ hlt t)⟩
  rw [if_neg (fun h => hlt (by have := of_decide_eq_true h; omega))]
  obtain rfl : j = outs.length := by omega
  clear hlt hj
  refine ⟨_, fc1 xb, _, _, _, (cb4.ext X6).qgs, ?_⟩
  rw [show IntKind.i64.wrap (((gs.length : Nat) : Int) - 1) = ((gs.length : Nat) : Int) - 1 from w64 (by omega) (by omega)]
  refine optimize_Optimize.loop1 (fun r y H' => ∃ m : Nat, m ≤ gs.length ∧ y = ((gs.length : Nat) : Int) - 1 - m ∧ r = gs.length - m ∧ Ext H4 H' ∧ BB base H' nb gs.length (ndBack gs outs m)) gs.length ⟨0, Nat.zero_le _, by omega, rfl, X6, bb6⟩ ?_
  rintro r y fr H7 ⟨m, hm, rfl, rfl, X7, bb7⟩
  by_cases hlt : m < gs.length
  · rw [show ((gs.length : Nat) : Int) - 1 - (m : Int) = ((gs.length - 1 - m : Nat) : Int) by omega]
    refine nd_round W C4.g cb4 lg (i := gs.length - 1 - m) (by omega) X7 nbn rf bb7 (fun H8 X8 b8 => ?_)
    exact ⟨gs.length - m - 1, by omega, _, rfl, m + 1, by omega, by rw [w64 (by omega) (by omega)]; omega, by omega, X8, b8⟩
  unfold optimize_Optimize.B1
  rw [if_neg (fun h => hlt (by have := of_decide_eq_true h; omega))]
  obtain rfl : m = gs.length := by omega
  clear hlt hm
  have bbF : BB base H7 nb gs.length (ndAll gs outs) := bb7
  have cb7 := cb4.ext X7
  have C7 := C4.ext X7
  have rf7 := rf.ext X7
  have R7 : H7 rb = _ := X7 _ _ (X4 _ _ eR)
  have T7 : H7 tb' = _ := X7 _ _ (X4 _ _ e2)
  have X07 := X03.trans (X4.trans X7)
  clear bb5 bb6 bb7 X5 X6 cb1 cb3 cb4 C3 C4 hC X4 X7 E1 E2 e1 e2 X13 X1 eR rn tn X03 rf rd
  refine ⟨_, fc0 xb, _, cb7.qp, _, _, _, _, _, _, _, (show AQ Tryd.prog (Instr.build tC #[(0, .int .u64 P)]) (.agg #[.int .u64 P, .slice none 0 0, .slice none 0 0]) from fun W => by kernel_rfl), ?_⟩
  refine h_cvar3 (fun ob H8 X8 obn obB cd8 => ⟨_, fc1 xb, _, _, _, (cb7.ext X8).qgs, h_mkZ (by omega) (fun Ac cc H9 oc => ⟨_, _, _, rfl, _, _, _, (show AQ Tryd.prog (Instr.build tCert #[(0, .slice Ac gs.length cc)]) (.agg #[.slice Ac gs.length cc]) from fun W => by kernel_rfl), h_tvar (fun tb H10 X10 tbn tk => ⟨_, fc1 xb, _, _, _, ((cb7.ext X8).ext (oc.ext.trans X10)).qgs, ?_⟩)⟩)⟩)
  -- what is fixed from here on
  obtain ⟨F, hF⟩ : ∃ F : HH, F = upd H7 tb (.cells #[.slice Ac gs.length cc] tCert) := ⟨_, rfl⟩
  have tb7 : H7 tb = none := (X8.trans oc.ext).none tbn
  have XF : Ext H7 F := by rw [hF]; exact Ext.upd tb7 _
  have tkF : TB F tb Ac gs.length cc := by rw [hF]; exact upd_self _ _ _
  have X710 := X8.trans (oc.ext.trans X10)
  have XF10 : Ext F H10 := fun b o hb => by
    by_cases e : b = tb
    · subst e
      unfold TB at tkF
      rw [tkF] at hb; cases hb; exact tk
    · rw [hF, upd_ne _ e] at hb; exact X710 b o hb
  have obF : F ob = none := by
    have : ob ≠ tb := fun e => by
      have h1 := cd8
      unfold CB at h1
      have h2 := oc.ext.none tbn
      rw [← e, h1] at h2; cases h2
    rw [hF, upd_ne _ this]; exact obn
  have ocF : OwnZ base F H10 Ac gs.length cc (List.replicate gs.length 0) := ⟨oc.1.ext X10, XF10, fun b hb => by
    have : b ≠ tb := fun e => by
      obtain ⟨cu, hc⟩ := oc.tag hb
      rw [e, tbn] at hc; cases hc
    rw [hF, upd_ne _ this]; exact X8.none (oc.2.off b hb)⟩
  have S : S3 base F H10 ob P none 0 0 Ac gs.length cc ((cL gs (ndAll gs outs) 0).1 ++ List.replicate (gs.length - 0) 0) (cL gs (ndAll gs outs) 0).2 :=
    ⟨obF, obB, cd8.ext (oc.ext.trans X10), ocF, ⟨XF10, Own.nil _ _ _ _, fun b hb => by simp [Value.ownBlock] at hb⟩⟩
  have cbF := cb7.ext XF
  have CF := C7.ext XF
  have rfF := rf7.ext XF
  have bF := bbF.ext XF
  have RF := XF _ _ R7
  have TF := XF _ _ T7
  have X0F := X07.trans XF
  clear oc X8 X10 tk cd8 tbn XF10 X710 ocF obF hF tb7 obn cb7 C7 rf7 bbF R7 T7 X07 XF
  refine optimize_Optimize.loop2 (fun r y H' => ∃ j : Nat, y = j ∧ j ≤ gs.length ∧ r = gs.length - j ∧ ∃ A1 n1 c1, S3 base F H' ob P A1 n1 c1 Ac gs.length cc ((cL gs (ndAll gs outs) j).1 ++ List.replicate (gs.length - j) 0) (cL gs (ndAll gs outs) j).2) gs.length ⟨0, rfl, Nat.zero_le _, rfl, _, _, _, S⟩ ?_
  clear S
  rintro r y fr H11 ⟨j, rfl, hj, rfl, Ag, ng, cg, S⟩
  by_cases hlt : j < gs.length
  · refine oc_round W CF.g cbF lg hlt rfF bF tkF S (fun A12 n12 c12 H12 S12 => ?_) (cL_le _ _ _)
    exact ⟨gs.length - j - 1, by omega, _, rfl, j + 1, nxt (n := 1000000) (by omega) (by decide), by omega, by omega, _, _, _, S12⟩
  unfold optimize_Optimize.B2
  rw [if_neg (fun h => hlt (by have := of_decide_eq_true h; omega))]
  obtain rfl : j = gs.length := by omega
  clear hlt hj
  rw [Nat.sub_self, List.replicate_zero, List.append_nil] at S
  have eT : (cL gs (ndAll gs outs) gs.length).1 = optT gs outs := rfl
  have eG : (cL gs (ndAll gs outs) gs.length).2 = optG gs outs := rfl
  rw [eT, eG] at S
  have lT : (optT gs outs).length = gs.length := cL_len _ _ _
  refine ⟨_, fc2 xb, _, _, _, (cbF.ext S.ext).qouts, ?_⟩
  -- the box is hidden
  have XH : Ext F (hideB H11 ob) := ext_hide S.ext S.obF
  have XH' := hide_ext H11 ob
  have obN := hide_at H11 ob
  have ctH : OwnZ base (hideB H11 ob) (hideB H11 ob) Ac gs.length cc (optT gs outs) ∨ True := .inr trivial
  have ct0 : Own base (hideB H11 ob) 3 1 (.slice Ac gs.length cc) gs.length (is (optT gs outs)) := S.ct.1.move (fun k x hk hx => by rw [hide_ne _ (fun e => S.ctob (by rw [hk, e]))]; exact hx)
  have rl0 : Own base (hideB H11 ob) tGate 5 (.slice Ag ng cg) ng (gc (optG gs outs)) := S.rl.own.move (fun k x hk hx => by rw [hide_ne _ (fun e => S.rlob (by rw [hk, e]))]; exact hx)
  have cb11 := S.cb
  have obB := S.obB
  have ngl := S.rl.len
  generalize hideB H11 ob = F2 at XH XH' obN ct0 rl0
  have rowT : Outs F2 Ac gs.length (optT gs outs) := by
    obtain ⟨A8, c8, e, _, h2⟩ := ct0.slice
    cases e
    exact ⟨lT.symm, h2⟩
  have tk2 := tkF.ext XH
  have C2 := CF.ext XH
  refine optimize_Optimize.loop3 (fun r y H' => ∃ j : Nat, y = j ∧ j ≤ outs.length ∧ r = outs.length - j ∧ ∃ Ao co, CB H' ob P Ag ng cg Ao j co ∧ OwnZ base F2 H' Ao j co ((optO gs outs).take j)) outs.length ⟨0, rfl, Nat.zero_le _, rfl, _, _, cb11, OwnZ.nil' XH'⟩ ?_
  rintro r y fr H12 ⟨j, rfl, hj, rfl, Ao, co, cb12, oo⟩
  unfold optimize_Optimize.B3
  have lO : (optO gs outs).length = outs.length := by simp [optO]
  have ooTag : ∀ {H' : HH} {A1 : Option Addr} {n1 c1 : Nat} {l : List Int}, OwnZ base F2 H' A1 n1 c1 l → ∀ {Ax : Option Addr} {nx cx : Nat}, CB H' ob P Ag ng cg Ax nx cx → (Value.slice A1 n1 c1).ownBlock ≠ some ob := fun o _ _ _ cbx e => by
    obtain ⟨cu, hc⟩ := o.tag e
    unfold CB at cbx
    rw [cbx] at hc
    exact absurd (cells_tag hc) (by decide)
  by_cases hlt : j < outs.length
  · rw [if_pos (decide_eq_true (by omega))]
    obtain ⟨o0, o1⟩ := hO j hlt
    obtain ⟨a1, q1, q2⟩ := (C2.o.ext oo.ext).at c' hlt
    obtain ⟨a2, q3, q4⟩ := (rowT.ext oo.ext).ix cc o0 o1
    refine ⟨a1, q1, _, q2, _, fc2 ob, _, _, _, cb12.qouts, _, ft0 tb, _, _, _, (tk2.ext oo.ext).to, a2, q3, _, q4, ?_⟩
    refine oo.pushQ (by omega) _ (fun H' X => cb12.qouts.up X) (fun A13 c13 H13 o13 g13 => ⟨_, fc2 ob, ?_⟩)
    have cb13 : CB H13 ob P Ag ng cg Ao j co := g13.keep _ _ (ooTag oo cb12) cb12
    refine cb_outs cb13 obB (fun H14 cb14 s14 => ?_)
    have o14 := o13.same obN (ooTag o13 cb13) s14
    refine ⟨outs.length - j - 1, by omega, _, rfl, j + 1, nxt (n := 1000000) (by omega) (by decide), by omega, by omega, _, _, cb14, ?_⟩
    have eo : outs.getD j 0 = outs[j] := by simp [hlt]
    have e : (optO gs outs).take (j + 1) = (optO gs outs).take j ++ [(optT gs outs).getD (outs.getD j 0).toNat 0] := by
      rw [List.take_add_one, List.getElem?_eq_getElem (by omega), eo]
      simp [optO]
    rw [e]
    exact o14
  rw [if_neg (fun h => hlt (by have := of_decide_eq_true h; omega))]
  obtain rfl : j = outs.length := by omega
  rw [List.take_of_length_le (by omega)] at oo
  refine ⟨_, _, _, _, _, _, _, cb12.all, _, _, _, (tk2.ext oo.ext).all, ?_⟩
  have R12 := oo.ext _ _ (XH _ _ RF)
  have T12 := oo.ext _ _ (XH _ _ TF)
  refine h_sta (old := (Value.agg #[.int .u64 0, .slice none 0 0, .slice none 0 0]).cells) (vs := [.int .u64 P, .slice Ag ng cg, .slice Ao outs.length co]) (by kernel_rfl) rfl R12 rbase rfl ?_
  obtain ⟨H13, hH13⟩ : ∃ H13, H13 = upd H12 rb (.cells [.int .u64 P, .slice Ag ng cg, .slice Ao outs.length co].toArray tC (0, 0)) := ⟨_, rfl⟩
  rw [← hH13]
  have cr13 : CB H13 rb P Ag ng cg Ao outs.length co := by rw [hH13]; exact upd_self _ _ _
  have s13 : ∀ k, k ≠ rb → H13 k = H12 k := fun k hk => by rw [hH13]; exact upd_ne _ hk
  have tk12 := tk2.ext oo.ext
  have tk13 : TB H13 tb Ac gs.length cc := by
    have : tb ≠ rb := fun e => by
      unfold TB at tk12
      rw [e, R12] at tk12
      exact absurd (cells_tag tk12) (by decide)
    unfold TB at tk12 ⊢
    rw [s13 tb this]; exact tk12
  have hTR : tb' ≠ rb := fun e => by
    rw [e, R12] at T12
    exact absurd (cells_tag T12) (by decide)
  refine ⟨tk13.all, h_sta (old := (Value.agg #[.slice none 0 0]).cells) (vs := [.slice Ac gs.length cc]) (by kernel_rfl) rfl (by rw [s13 tb' hTR]; exact T12) tbase rfl ?_⟩
  obtain ⟨H14, hH14⟩ : ∃ H14, H14 = upd H13 tb' (.cells [.slice Ac gs.length cc].toArray tCert (0, 0)) := ⟨_, rfl⟩
  rw [← hH14]
  have tk14 : TB H14 tb' Ac gs.length cc := by rw [hH14]; exact upd_self _ _ _
  have s14 : ∀ k, k ≠ tb' → H14 k = H13 k := fun k hk => by rw [hH14]; exact upd_ne _ hk
  have cr14 : CB H14 rb P Ag ng cg Ao outs.length co := by
    unfold CB at cr13 ⊢
    rw [s14 rb (fun e => hTR e.symm)]; exact cr13
  have X012 := X0F.trans (XH.trans oo.ext)
  have X014 : Ext H H14 := ext_same (ext_same X012 rH s13) tH s14
  have keepO : ∀ {T sz n : Nat} {v : Value} {xs : List Value}, T ≠ tC → T ≠ tCert → Own base H12 T sz v n xs → Own base H14 T sz v n xs := fun hT1 hT2 o => o.move (fun k x hkx hx => by
    obtain ⟨_, cu, hc⟩ := o.known hkx
    have h1 : k ≠ rb := fun e => by rw [e, R12] at hc; exact hT1 (cells_tag hc).symm
    have h2 : k ≠ tb' := fun e => by rw [e, T12] at hc; exact hT2 (cells_tag hc).symm
    rw [s14 k h2, s13 k h1]; exact hx)
  have oG := keepO (by decide) (by decide) (rl0.ext oo.ext)
  have oT := keepO (by decide) (by decide) (ct0.ext oo.ext)
  have oO := keepO (by decide) (by decide) oo.1
  refine ⟨_, q_res2 rfl rfl cr14 tk14, ?_⟩
  obtain ⟨A8, c8, e8, hc8, g8⟩ := oG.slice
  cases e8
  obtain ⟨A9, c9, e9, _, g9⟩ := oO.slice
  cases e9
  obtain ⟨A10, c10, e10, _, g10⟩ := oT.slice
  cases e10
  exact hk _ _ _ _ _ _ _ H14 X014 ⟨ngl, g8⟩ hc8 ⟨lO.symm, g9⟩ ⟨lT.symm, g10⟩
end
end Go.Proofs.YtjpaichcaaacbabDoor.HL
end

/- Part I of: The statement ReedsolomonLinear: the law answers true whatever its arguments; no condition. -/
import Derived.Test.YtbogcgkeabkliacZReedsolomonLinearH
import Derived.Laws.Slices
import Derived.KernelRfl
import Derived.Test.YtbogcgkeabkliacProg
import Derived.WalkSpells
section
set_option linter.unusedVariables false
set_option linter.unusedSimpArgs false
set_option linter.unusedSectionVars false
namespace Go.Proofs.Ytbogcgkeabkliac.HL
open Go Go.Proofs.YtbogcgkeabkliacNum Go.Proofs.Ytbogcgkeabkliac.FEv
section
variable {P : Program} {base : Nat} {H : HH}
theorem h_lit0 {t e sz : Nat} {K : Value → HH → Prop} (ht : P.underlying t = some (.slice e)) (hi : (P.info? e).map (·.size) = some sz)
    (h : ∀ b, H b = none → base ≤ b → K (.slice (some ⟨b, 0, none⟩) 0 0) (upd H b (.cells #[] e))) : HRun P base (Instr.buildSlice t 0 #[]) H K :=
  h_new (o := .cells #[] e) (f := fun b => .slice (some ⟨b, 0, none⟩) 0 0) (fun W => by
    simp [Instr.buildSlice, run_under ht, run_sz hi, Instr.fill, newRow, show Array.range 0 = #[] from by decide]) h
theorem aq_eqnil {t e : Nat} (ht : P.underlying t = some (.slice e)) {x : Operand} {A : Option Addr} {n c : Nat} : AQ P (binSem .eql t x (.const (.slice none 0 0)) (.slice A n c) (.slice none 0 0)) (.bool A.isNone) := fun W => by
  have h := Lib.run_eql_slice_nil W t e A n c 0 0 ht
  simp [binSem, eqGuard, h]
end
section
variable {base : Nat} {H : HH} {K : Value → HH → Prop} {A : Option Addr} {n c : Nat}
/-- A new row with the same cells; all that was known still is, and the new block was not. -/
def Fresh (H : HH) (v : Value) : Prop := ∀ b, v.ownBlock = some b → H b = none
theorem clone_app {t e by_ ty : Nat} {z : Value} (ht : Try.prog.underlying t = some (.slice e)) (hi : (Try.prog.info? e).map (fun i => (i.zero, i.size, i.bytes)) = some (some z, 1, by_)) (hz : z.cells = #[z]) (hby : by_ ≤ 128) {xs : List Value} (hr : Rd H A xs) (hn : xs.length = n) (h1 : ∀ u ∈ xs, u.oneCell' = true) (hA : A = none → n = 0) (hl : n ≤ 100000)
    {C : Option Addr → Nat → Nat → HH → Prop} (hk : ∀ A' c' H', Own base H' e 1 (.slice A' n c') n xs → Ext H H' → Fresh H (.slice A' n c') → C A' n c' H') :
    HRun Try.prog base (Instr.buildSlice t 0 #[]) H fun v2 H3 => ∃ (A4 : Option Addr) (l4 c4 : Nat), v2 = (.slice A4 l4 c4) ∧ HRun Try.prog base (Builtin.append_ #[t, t] ty #[(.slice A4 l4 c4), (.slice A n c)]) H3 fun v5 H6 => ∃ (A7 : Option Addr) (l7 c7 : Nat), v5 = (.slice A7 l7 c7) ∧ C A7 l7 c7 H6 := by
  refine h_lit0 (sz := 1) ht ?_ (fun b hb hbase => ⟨_, _, _, rfl, ?_⟩)
  · obtain ⟨i, h1, h2⟩ := Option.map_eq_some_iff.1 hi
    simp only [Prod.mk.injEq] at h2
    rw [h1]; simp [h2]
  · have he : Ext H (upd H b (.cells #[] e)) := Ext.upd hb _
    have ho := Own.lit (H := H) (T := e) (sz := 1) hbase #[] 0 (by decide) (by simp)
    refine h_app (m := n) (ys := xs) ht hi (by rw [hz]; rfl) (by decide) ho (hr.ext he) (by omega) h1 hA (by omega) hby (fun A' c' H' h2 h3 => ⟨_, _, _, rfl, ?_⟩)
    rw [Nat.zero_add] at h2 h3 ⊢
    refine hk A' c' H' (by simpa using h2) (fun k o hk => h3.keep k o (fun e => ?_) (he k o hk)) (fun k hk => ?_)
    · have : b = k := by simpa [Value.ownBlock] using e
      rw [this, hk] at hb; cases hb
    · rcases h3.at_ with e | e
      · rw [e] at hk
        have : b = k := by simpa [Value.ownBlock] using hk
        rw [← this]; exact hb
      · exact he.none (e k hk)
theorem h_clone1 {l : List Int} (h : Row H A n l) (hl : n ≤ 100000) (hk : ∀ A' c' H', Own base H' 22 1 (.slice A' n c') n (us l) → Ext H H' → Fresh H (.slice A' n c') → K (.slice A' n c') H') : HCall Try.prog base 44 #[.slice A n c] H K := by
  refine slices_Clone_Luint64_uint64.spec ?_
  unfold slices_Clone_Luint64_uint64.sh
  refine ⟨_, aq_eqnil un32, ?_⟩
  have e1 := h.1
  have hA : A = none → n = 0 := fun e => by
    rcases h.2 with e2 | ⟨ad, e2, _⟩
    · rw [e1]; simpa [us] using e2
    · rw [e] at e2; cases e2
  split
  · rename_i e
    have e : A = none := by simpa using e
    have : n = 0 := hA e
    subst this
    have : l = [] := List.eq_nil_of_length_eq_zero e1.symm
    subst this
    exact hk none 0 H (Own.nil _ _ _ _) (.refl H) (fun b hb => by simp [Value.ownBlock] at hb)
  · exact clone_app un32 inf22 rfl (by decide) h.2 (by rw [us_length]; omega) (fun u hu => by obtain ⟨x, _, rfl⟩ := List.mem_map.1 hu; rfl) hA hl (fun A' c' H' h1 h2 h3 => hk A' c' H' h1 h2 h3)
theorem h_clone2 {rs : List Value} (hr : Rd H A rs) (hn : rs.length = n) (h1 : ∀ u ∈ rs, u.oneCell' = true) (hl : n ≤ 100000) (hk : ∀ A' c' H', Own base H' 30 1 (.slice A' n c') n rs → Ext H H' → Fresh H (.slice A' n c') → K (.slice A' n c') H') : HCall Try.prog base 52 #[.slice A n c] H K := by
  refine slices_Clone_LLuint64_Luint64.spec ?_
  unfold slices_Clone_LLuint64_Luint64.sh
  refine ⟨_, aq_eqnil un23, ?_⟩
  have hA : A = none → n = 0 := fun e => by
    rcases hr with e2 | ⟨ad, e2, _⟩
    · rw [← hn, e2]; rfl
    · rw [e] at e2; cases e2
  split
  · rename_i e
    have e : A = none := by simpa using e
    have : n = 0 := hA e
    subst this
    have : rs = [] := List.eq_nil_of_length_eq_zero hn
    subst this
    exact hk none 0 H (Own.nil _ _ _ _) (.refl H) (fun b hb => by simp [Value.ownBlock] at hb)
  · exact clone_app un23 inf32 rfl (by decide) hr hn h1 hA hl (fun A' c' H' h1 h2 h3 => hk A' c' H' h1 h2 h3)
end
end Go.Proofs.Ytbogcgkeabkliac.HL
end
section
set_option linter.unusedVariables false
set_option linter.unusedSimpArgs false
set_option maxRecDepth 100000
namespace Go.Proofs.Ytbogcgkeabkliac.HL
open Go
def matrix_reduce.ann : Ann := ⟨fun k => bif Nat.beq k 5 then [6, 8] else bif Nat.beq k 19 then [25, 27] else bif Nat.beq k 21 then [19] else bif Nat.beq k 26 then [13] else bif Nat.beq k 36 then [13] else [], fun k => bif Nat.beq k 17 then true else bif Nat.beq k 21 then true else false, fun k => bif Nat.beq k 3 then [0, 2, 7, 31, 32, 33] else bif Nat.beq k 8 then [0, 7, 47, 48] else bif Nat.beq k 13 then [0, 7, 10, 11, 12, 13, 47, 48] else bif Nat.beq k 17 then [0, 7, 10, 11, 12, 47, 48] else bif Nat.beq k 21 then [0, 7, 10, 11, 47, 48] else bif Nat.beq k 24 then [0, 7, 10, 11, 14, 47, 48, 162, 163, 164] else bif Nat.beq k 29 then [0, 7, 10, 11, 47, 48, 186, 187, 188] else bif Nat.beq k 34 then [0, 7, 10, 11, 19, 20, 47, 48, 186, 187, 188, 213, 214, 215] else []⟩
def matrix_reduce.P0 (base : Nat) (l : List Value) (H0 : HH) (K : Value → HH → Prop) : Prop := HCodeL Try.prog base 247 (codeAt [.r, .r, .l, .r, .b] (bodyOf Try.f45)) [0, 2, 7, 31, 32, 33] l H0 (qAt Try.prog base 247 matrix_reduce.ann [.r, .r, .l, .r, .b] [] (bodyOf Try.f45) (retQ Try.prog 247 Try.f45 K))
def matrix_reduce.P1 (base : Nat) (l : List Value) (H0 : HH) (K : Value → HH → Prop) : Prop := HCodeL Try.prog base 247 (codeAt [.r, .r, .r, .l, .r, .b] (bodyOf Try.f45)) [0, 7, 47, 48] l H0 (qAt Try.prog base 247 matrix_reduce.ann [.r, .r, .r, .l, .r, .b] [] (bodyOf Try.f45) (retQ Try.prog 247 Try.f45 K))
def matrix_reduce.P2 (base : Nat) (N1 : Value → HH → Prop) (l : List Value) (H0 : HH) (K : Value → HH → Prop) : Prop := HCodeL Try.prog base 247 (codeAt [.r, .r, .r, .l, .r, .b, .lp, .r, .r, .l, .b, .r, .r, .r, .l, .r, .b] (bodyOf Try.f45)) [0, 7, 10, 11, 12, 13, 47, 48] l H0 (qAt Try.prog base 247 matrix_reduce.ann [.r, .r, .r, .l, .r, .b, .lp, .r, .r, .l, .b, .r, .r, .r, .l, .r, .b] [fun fr H => N1 (fr 48) H] (bodyOf Try.f45) (retQ Try.prog 247 Try.f45 K))
def matrix_reduce.P3 (base : Nat) (N1 : Value → HH → Prop) (l : List Value) (H0 : HH) (K : Value → HH → Prop) : Prop := HCodeL Try.prog base 247 (codeAt [.r, .r, .r, .l, .r, .b, .lp, .r, .r, .l, .b, .r, .r, .r, .r, .r, .r, .r, .r, .l, .r, .b] (bodyOf Try.f45)) [0, 7, 10, 11, 14, 47, 48, 162, 163, 164] l H0 (qAt Try.prog base 247 matrix_reduce.ann [.r, .r, .r, .l, .r, .b, .lp, .r, .r, .l, .b, .r, .r, .r, .r, .r, .r, .r, .r, .l, .r, .b] [fun fr H => N1 (fr 48) H] (bodyOf Try.f45) (retQ Try.prog 247 Try.f45 K))
def matrix_reduce.P4 (base : Nat) (N1 : Value → HH → Prop) (l : List Value) (H0 : HH) (K : Value → HH → Prop) : Prop := HCodeL Try.prog base 247 (codeAt [.r, .r, .r, .l, .r, .b, .lp, .r, .r, .l, .b, .r, .r, .r, .r, .r, .r, .r, .r, .r, .l, .r, .b] (bodyOf Try.f45)) [0, 7, 10, 11, 47, 48, 186, 187, 188] l H0 (qAt Try.prog base 247 matrix_reduce.ann [.r, .r, .r, .l, .r, .b, .lp, .r, .r, .l, .b, .r, .r, .r, .r, .r, .r, .r, .r, .r, .l, .r, .b] [fun fr H => N1 (fr 48) H] (bodyOf Try.f45) (retQ Try.prog 247 Try.f45 K))
def matrix_reduce.P5 (base : Nat) (N1 : Value → HH → Prop) (N4 : Value → HH → Prop) (l : List Value) (H0 : HH) (K : Value → HH → Prop) : Prop := HCodeL Try.prog base 247 (codeAt [.r, .r, .r, .l, .r, .b, .lp, .r, .r, .l, .b, .r, .r, .r, .r, .r, .r, .r, .r, .r, .l, .r, .b, .lp, .r, .r, .l, .b, .r, .r, .r, .r, .b] (bodyOf Try.f45)) [0, 7, 10, 11, 19, 20, 47, 48, 186, 187, 188, 213, 214, 215] l H0 (qAt Try.prog base 247 matrix_reduce.ann [.r, .r, .r, .l, .r, .b, .lp, .r, .r, .l, .b, .r, .r, .r, .r, .r, .r, .r, .r, .r, .l, .r, .b, .lp, .r, .r, .l, .b, .r, .r, .r, .r, .b] [fun fr H => N1 (fr 48) H, fun fr H => N4 (fr 188) H] (bodyOf Try.f45) (retQ Try.prog 247 Try.f45 K))
def matrix_reduce.R0 (base : Nat) (N1 : Value → HH → Prop) (l : List Value) (H0 : HH) (K : Value → HH → Prop) : Prop := HCodeL Try.prog base 247 (codeAt [.r, .r, .r, .l, .r, .b, .lp, .r, .r, .l, .b, .r, .r, .r, .r] (bodyOf Try.f45)) [0, 7, 10, 11, 12, 47, 48] l H0 (qAt Try.prog base 247 matrix_reduce.ann [.r, .r, .r, .l, .r, .b, .lp, .r, .r, .l, .b, .r, .r, .r, .r] [fun fr H => N1 (fr 48) H] (bodyOf Try.f45) (retQ Try.prog 247 Try.f45 K))
def matrix_reduce.R1 (base : Nat) (N1 : Value → HH → Prop) (l : List Value) (H0 : HH) (K : Value → HH → Prop) : Prop := HCodeL Try.prog base 247 (codeAt [.r, .r, .r, .l, .r, .b, .lp, .r, .r, .l, .b, .r, .r, .r, .r, .r, .r] (bodyOf Try.f45)) [0, 7, 10, 11, 47, 48] l H0 (qAt Try.prog base 247 matrix_reduce.ann [.r, .r, .r, .l, .r, .b, .lp, .r, .r, .l, .b, .r, .r, .r, .r, .r, .r] [fun fr H => N1 (fr 48) H] (bodyOf Try.f45) (retQ Try.prog 247 Try.f45 K))
def matrix_reduce.S0 (base : Nat) (N1 : Value → HH → Prop) (x0 : Int) (x7 : Addr) (x10 x11 x12 x47 x48 : Int) (H0 : HH) (K : Value → HH → Prop) : Prop :=
 if (decide ((x12 : Int) < 0)) = true then
 N1 (.int .i64 ((IntKind.i64.wrap (x48 + 1)))) H0
 else
 if ((x12 : Int) != x11) = true then
 ∃ a71 : Addr, AQ Try.prog (Instr.fieldAt 80 (.pointer ((some x7))) 1) (.pointer ((some a71))) ∧
 ∃ (A72 : Option Addr) (l72 c72 : Nat), QRun Try.prog (Instr.loadAt 67 (.pointer ((some a71)))) H0 (.slice A72 l72 c72) ∧
 ∃ a73 : Addr, AQ Try.prog (Instr.fieldAt 80 (.pointer ((some x7))) 1) (.pointer ((some a73))) ∧
 ∃ (A74 : Option Addr) (l74 c74 : Nat), QRun Try.prog (Instr.loadAt 67 (.pointer ((some a73)))) H0 (.slice A74 l74 c74) ∧
 ∃ a75 : Addr, AQ Try.prog (Instr.fieldAt 80 (.pointer ((some x7))) 1) (.pointer ((some a75))) ∧
 ∃ (A76 : Option Addr) (l76 c76 : Nat), QRun Try.prog (Instr.loadAt 67 (.pointer ((some a75)))) H0 (.slice A76 l76 c76) ∧
 ∃ a77 : Addr, AQ Try.prog (Instr.indexAt 67 (.slice A76 l76 c76) (.int .i64 x11)) (.pointer ((some a77))) ∧
 ∃ (A78 : Option Addr) (l78 c78 : Nat), QRun Try.prog (Instr.loadAt 30 (.pointer ((some a77)))) H0 (.slice A78 l78 c78) ∧
 ∃ a79 : Addr, AQ Try.prog (Instr.fieldAt 80 (.pointer ((some x7))) 1) (.pointer ((some a79))) ∧
 ∃ (A80 : Option Addr) (l80 c80 : Nat), QRun Try.prog (Instr.loadAt 67 (.pointer ((some a79)))) H0 (.slice A80 l80 c80) ∧
 ∃ a81 : Addr, AQ Try.prog (Instr.indexAt 67 (.slice A80 l80 c80) (.int .i64 x12)) (.pointer ((some a81))) ∧
 ∃ (A82 : Option Addr) (l82 c82 : Nat), QRun Try.prog (Instr.loadAt 30 (.pointer ((some a81)))) H0 (.slice A82 l82 c82) ∧
 ∃ a83 : Addr, AQ Try.prog (Instr.indexAt 67 (.slice A72 l72 c72) (.int .i64 x12)) (.pointer ((some a83))) ∧
 HRun Try.prog base (Instr.storeAt 30 (.pointer ((some a83))) (.slice A78 l78 c78)) H0 fun _ H84 =>
 ∃ a85 : Addr, AQ Try.prog (Instr.indexAt 67 (.slice A74 l74 c74) (.int .i64 x11)) (.pointer ((some a85))) ∧
 HRun Try.prog base (Instr.storeAt 30 (.pointer ((some a85))) (.slice A82 l82 c82)) H84 fun _ H86 =>
 ∃ a87 : Addr, AQ Try.prog (Instr.fieldAt 80 (.pointer ((some x7))) 3) (.pointer ((some a87))) ∧
 ∃ n88 : Int, QRun Try.prog (Instr.loadAt 22 (.pointer ((some a87)))) H86 (.int .u64 n88) ∧
 HCall Try.prog base 34 #[(.int .u64 x0), (.int .u64 n88)] H86 fun v89 H90 =>
 ∃ n91 : Int, v89 = (.int .u64 n91) ∧ ∃ a92 : Addr, AQ Try.prog (Instr.fieldAt 80 (.pointer ((some x7))) 3) (.pointer ((some a92))) ∧
 HRun Try.prog base (Instr.storeAt 22 (.pointer ((some a92))) (.int .u64 n91)) H90 fun _ H93 =>
 matrix_reduce.R1 base N1 [(.int .u64 x0), (.pointer ((some x7))), (.int .i64 x10), (.int .i64 x11), (.int .i64 x47), (.int .i64 x48)] H93 K
 else
 matrix_reduce.R1 base N1 [(.int .u64 x0), (.pointer ((some x7))), (.int .i64 x10), (.int .i64 x11), (.int .i64 x47), (.int .i64 x48)] H0 K
def matrix_reduce.T0 (base : Nat) (N1 : Value → HH → Prop) (x0 : Int) (x7 : Addr) (x10 x11 x12 x47 x48 : Int) (H0 : HH) (K : Value → HH → Prop) : Prop := matrix_reduce.S0 base N1 x0 x7 x10 x11 x12 x47 x48 H0 K
theorem matrix_reduce.rest0 {base : Nat} {N1 : Value → HH → Prop} {x0 : Int} {x7 : Addr} {x10 x11 x12 x47 x48 : Int} {H0 : HH} {K : Value → HH → Prop} (h : matrix_reduce.S0 base N1 x0 x7 x10 x11 x12 x47 x48 H0 K) : matrix_reduce.R0 base N1 [(.int .u64 x0), (.pointer ((some x7))), (.int .i64 x10), (.int .i64 x11), (.int .i64 x12), (.int .i64 x47), (.int .i64 x48)] H0 K := by
  refine wpCL_sound (ann := matrix_reduce.ann) mix (fun fr ⟨e0, e7, e10, e11, e12, e47, e48, _⟩ => ?_)
  rw [← ov_eq (g := fr) [(0, (.int .u64 x0)), (7, (.pointer ((some x7)))), (10, (.int .i64 x10)), (11, (.int .i64 x11)), (12, (.int .i64 x12)), (47, (.int .i64 x47)), (48, (.int .i64 x48))] (by simp only [List.mem_cons, List.not_mem_nil, or_false, forall_eq_or_imp, forall_eq, false_implies, implies_true]; exact ⟨e0, e7, e10, e11, e12, e47, e48⟩)]
  exact cast (show matrix_reduce.S0 base N1 x0 x7 x10 x11 x12 x47 x48 H0 K = wpC Try.prog base 247 matrix_reduce.ann (codeAt [.r, .r, .r, .l, .r, .b, .lp, .r, .r, .l, .b, .r, .r, .r, .r] (bodyOf Try.f45)) (ov fr [(0, (.int .u64 x0)), (7, (.pointer ((some x7)))), (10, (.int .i64 x10)), (11, (.int .i64 x11)), (12, (.int .i64 x12)), (47, (.int .i64 x47)), (48, (.int .i64 x48))]) H0 (qAt Try.prog base 247 matrix_reduce.ann [.r, .r, .r, .l, .r, .b, .lp, .r, .r, .l, .b, .r, .r, .r, .r] [fun fr H => N1 (fr 48) H] (bodyOf Try.f45) (retQ Try.prog 247 Try.f45 K)) by kernel_rfl) h
theorem matrix_reduce.cut0 {base : Nat} {N1 : Value → HH → Prop} {x0 : Int} {x7 : Addr} {x10 x11 x12 x47 x48 : Int} {H0 : HH} {K : Value → HH → Prop} (h : matrix_reduce.T0 base N1 x0 x7 x10 x11 x12 x47 x48 H0 K) : matrix_reduce.R0 base N1 [(.int .u64 x0), (.pointer ((some x7))), (.int .i64 x10), (.int .i64 x11), (.int .i64 x12), (.int .i64 x47), (.int .i64 x48)] H0 K := matrix_reduce.rest0 h
def matrix_reduce.S1 (base : Nat) (N1 : Value → HH → Prop) (x0 : Int) (x7 : Addr) (x10 x11 x47 x48 : Int) (H0 : HH) (K : Value → HH → Prop) : Prop :=
 ∃ a94 : Addr, AQ Try.prog (Instr.fieldAt 80 (.pointer ((some x7))) 3) (.pointer ((some a94))) ∧
 ∃ n95 : Int, QRun Try.prog (Instr.loadAt 22 (.pointer ((some a94)))) H0 (.int .u64 n95) ∧
 ∃ a96 : Addr, AQ Try.prog (Instr.fieldAt 80 (.pointer ((some x7))) 1) (.pointer ((some a96))) ∧
 ∃ (A97 : Option Addr) (l97 c97 : Nat), QRun Try.prog (Instr.loadAt 67 (.pointer ((some a96)))) H0 (.slice A97 l97 c97) ∧
 ∃ a98 : Addr, AQ Try.prog (Instr.indexAt 67 (.slice A97 l97 c97) (.int .i64 x11)) (.pointer ((some a98))) ∧
 ∃ (A99 : Option Addr) (l99 c99 : Nat), QRun Try.prog (Instr.loadAt 30 (.pointer ((some a98)))) H0 (.slice A99 l99 c99) ∧
 ∃ a100 : Addr, AQ Try.prog (Instr.indexAt 30 (.slice A99 l99 c99) (.int .i64 x10)) (.pointer ((some a100))) ∧
 ∃ n101 : Int, QRun Try.prog (Instr.loadAt 22 (.pointer ((some a100)))) H0 (.int .u64 n101) ∧
 ∃ n102 : Int, HCall Try.prog base 33 #[(.int .u64 x0), (.int .u64 n95), (.int .u64 n101)] H0 (fun v_ H_ => v_ = (.int .u64 n102) ∧ H_ = H0) ∧
 ∃ a103 : Addr, AQ Try.prog (Instr.fieldAt 80 (.pointer ((some x7))) 3) (.pointer ((some a103))) ∧
 HRun Try.prog base (Instr.storeAt 22 (.pointer ((some a103))) (.int .u64 n102)) H0 fun _ H104 =>
 ∃ a105 : Addr, AQ Try.prog (Instr.fieldAt 80 (.pointer ((some x7))) 1) (.pointer ((some a105))) ∧
 ∃ (A106 : Option Addr) (l106 c106 : Nat), QRun Try.prog (Instr.loadAt 67 (.pointer ((some a105)))) H104 (.slice A106 l106 c106) ∧
 ∃ a107 : Addr, AQ Try.prog (Instr.indexAt 67 (.slice A106 l106 c106) (.int .i64 x11)) (.pointer ((some a107))) ∧
 ∃ (A108 : Option Addr) (l108 c108 : Nat), QRun Try.prog (Instr.loadAt 30 (.pointer ((some a107)))) H104 (.slice A108 l108 c108) ∧
 ∃ a109 : Addr, AQ Try.prog (Instr.indexAt 30 (.slice A108 l108 c108) (.int .i64 x10)) (.pointer ((some a109))) ∧
 ∃ n110 : Int, QRun Try.prog (Instr.loadAt 22 (.pointer ((some a109)))) H104 (.int .u64 n110) ∧
 HCall Try.prog base 37 #[(.int .u64 x0), (.int .u64 n110)] H104 fun v111 H112 =>
 ∃ n113 : Int, ∃ n114 : Int, v111 = (.tuple #[(.int .u64 n113), (.int .i64 n114)]) ∧ ∃ a115 : Addr, AQ Try.prog (Instr.fieldAt 80 (.pointer ((some x7))) 1) (.pointer ((some a115))) ∧
 ∃ (A116 : Option Addr) (l116 c116 : Nat), QRun Try.prog (Instr.loadAt 67 (.pointer ((some a115)))) H112 (.slice A116 l116 c116) ∧
 ∃ a117 : Addr, AQ Try.prog (Instr.indexAt 67 (.slice A116 l116 c116) (.int .i64 x11)) (.pointer ((some a117))) ∧
 ∃ (A118 : Option Addr) (l118 c118 : Nat), QRun Try.prog (Instr.loadAt 30 (.pointer ((some a117)))) H112 (.slice A118 l118 c118) ∧
 matrix_reduce.P3 base N1 [(.int .u64 x0), (.pointer ((some x7))), (.int .i64 x10), (.int .i64 x11), (.int .u64 n113), (.int .i64 x47), (.int .i64 x48), (.slice A118 l118 c118), (.int .i64 (((l118 : Nat) : Int))), (.int .i64 0)] H112 K
def matrix_reduce.T1 (base : Nat) (N1 : Value → HH → Prop) (x0 : Int) (x7 : Addr) (x10 x11 x47 x48 : Int) (H0 : HH) (K : Value → HH → Prop) : Prop := matrix_reduce.S1 base N1 x0 x7 x10 x11 x47 x48 H0 K
theorem matrix_reduce.rest1 {base : Nat} {N1 : Value → HH → Prop} {x0 : Int} {x7 : Addr} {x10 x11 x47 x48 : Int} {H0 : HH} {K : Value → HH → Prop} (h : matrix_reduce.S1 base N1 x0 x7 x10 x11 x47 x48 H0 K) : matrix_reduce.R1 base N1 [(.int .u64 x0), (.pointer ((some x7))), (.int .i64 x10), (.int .i64 x11), (.int .i64 x47), (.int .i64 x48)] H0 K := by
  refine wpCL_sound (ann := matrix_reduce.ann) mix (fun fr ⟨e0, e7, e10, e11, e47, e48, _⟩ => ?_)
  rw [← ov_eq (g := fr) [(0, (.int .u64 x0)), (7, (.pointer ((some x7)))), (10, (.int .i64 x10)), (11, (.int .i64 x11)), (47, (.int .i64 x47)), (48, (.int .i64 x48))] (by simp only [List.mem_cons, List.not_mem_nil, or_false, forall_eq_or_imp, forall_eq, false_implies, implies_true]; exact ⟨e0, e7, e10, e11, e47, e48⟩)]
  exact cast (show matrix_reduce.S1 base N1 x0 x7 x10 x11 x47 x48 H0 K = wpC Try.prog base 247 matrix_reduce.ann (codeAt [.r, .r, .r, .l, .r, .b, .lp, .r, .r, .l, .b, .r, .r, .r, .r, .r, .r] (bodyOf Try.f45)) (ov fr [(0, (.int .u64 x0)), (7, (.pointer ((some x7)))), (10, (.int .i64 x10)), (11, (.int .i64 x11)), (47, (.int .i64 x47)), (48, (.int .i64 x48))]) H0 (qAt Try.prog base 247 matrix_reduce.ann [.r, .r, .r, .l, .r, .b, .lp, .r, .r, .l, .b, .r, .r, .r, .r, .r, .r] [fun fr H => N1 (fr 48) H] (bodyOf Try.f45) (retQ Try.prog 247 Try.f45 K)) by kernel_rfl) h
theorem matrix_reduce.cut1 {base : Nat} {N1 : Value → HH → Prop} {x0 : Int} {x7 : Addr} {x10 x11 x47 x48 : Int} {H0 : HH} {K : Value → HH → Prop} (h : matrix_reduce.T1 base N1 x0 x7 x10 x11 x47 x48 H0 K) : matrix_reduce.R1 base N1 [(.int .u64 x0), (.pointer ((some x7))), (.int .i64 x10), (.int .i64 x11), (.int .i64 x47), (.int .i64 x48)] H0 K := matrix_reduce.rest1 h
def matrix_reduce.L3 (base : Nat) (N1 : Value → HH → Prop) (x0 : Int) (x7 : Addr) (x10 x11 x14 x47 x48 : Int) (Ax162 : Option Addr) (lx162 cx162 : Nat) (x163 : Int) (y164 : Int) (H0 : HH) (K : Value → HH → Prop) : Prop := matrix_reduce.P3 base N1 [(.int .u64 x0), (.pointer ((some x7))), (.int .i64 x10), (.int .i64 x11), (.int .u64 x14), (.int .i64 x47), (.int .i64 x48), (.slice Ax162 lx162 cx162), (.int .i64 x163), (.int .i64 y164)] H0 K
theorem matrix_reduce.at3 {base : Nat} {N1 : Value → HH → Prop} {x0 : Int} {x7 : Addr} {x10 x11 x14 x47 x48 : Int} {Ax162 : Option Addr} {lx162 cx162 : Nat} {x163 : Int} {y164 : Int} {H0 : HH} {K : Value → HH → Prop} (h : matrix_reduce.L3 base N1 x0 x7 x10 x11 x14 x47 x48 Ax162 lx162 cx162 x163 y164 H0 K) : matrix_reduce.P3 base N1 [(.int .u64 x0), (.pointer ((some x7))), (.int .i64 x10), (.int .i64 x11), (.int .u64 x14), (.int .i64 x47), (.int .i64 x48), (.slice Ax162 lx162 cx162), (.int .i64 x163), (.int .i64 y164)] H0 K := h
def matrix_reduce.L4 (base : Nat) (N1 : Value → HH → Prop) (x0 : Int) (x7 : Addr) (x10 x11 x47 x48 : Int) (Ax186 : Option Addr) (lx186 cx186 : Nat) (x187 : Int) (y188 : Int) (H0 : HH) (K : Value → HH → Prop) : Prop := matrix_reduce.P4 base N1 [(.int .u64 x0), (.pointer ((some x7))), (.int .i64 x10), (.int .i64 x11), (.int .i64 x47), (.int .i64 x48), (.slice Ax186 lx186 cx186), (.int .i64 x187), (.int .i64 y188)] H0 K
theorem matrix_reduce.at4 {base : Nat} {N1 : Value → HH → Prop} {x0 : Int} {x7 : Addr} {x10 x11 x47 x48 : Int} {Ax186 : Option Addr} {lx186 cx186 : Nat} {x187 : Int} {y188 : Int} {H0 : HH} {K : Value → HH → Prop} (h : matrix_reduce.L4 base N1 x0 x7 x10 x11 x47 x48 Ax186 lx186 cx186 x187 y188 H0 K) : matrix_reduce.P4 base N1 [(.int .u64 x0), (.pointer ((some x7))), (.int .i64 x10), (.int .i64 x11), (.int .i64 x47), (.int .i64 x48), (.slice Ax186 lx186 cx186), (.int .i64 x187), (.int .i64 y188)] H0 K := h
def matrix_reduce.L5 (base : Nat) (N1 : Value → HH → Prop) (N4 : Value → HH → Prop) (x0 : Int) (x7 : Addr) (x10 x11 : Int) (Ax19 : Option Addr) (lx19 cx19 : Nat) (x20 x47 x48 : Int) (Ax186 : Option Addr) (lx186 cx186 : Nat) (x187 x188 : Int) (Ax213 : Option Addr) (lx213 cx213 : Nat) (x214 : Int) (y215 : Int) (H0 : HH) (K : Value → HH → Prop) : Prop := matrix_reduce.P5 base N1 N4 [(.int .u64 x0), (.pointer ((some x7))), (.int .i64 x10), (.int .i64 x11), (.slice Ax19 lx19 cx19), (.int .u64 x20), (.int .i64 x47), (.int .i64 x48), (.slice Ax186 lx186 cx186), (.int .i64 x187), (.int .i64 x188), (.slice Ax213 lx213 cx213), (.int .i64 x214), (.int .i64 y215)] H0 K
theorem matrix_reduce.at5 {base : Nat} {N1 : Value → HH → Prop} {N4 : Value → HH → Prop} {x0 : Int} {x7 : Addr} {x10 x11 : Int} {Ax19 : Option Addr} {lx19 cx19 : Nat} {x20 x47 x48 : Int} {Ax186 : Option Addr} {lx186 cx186 : Nat} {x187 x188 : Int} {Ax213 : Option Addr} {lx213 cx213 : Nat} {x214 : Int} {y215 : Int} {H0 : HH} {K : Value → HH → Prop} (h : matrix_reduce.L5 base N1 N4 x0 x7 x10 x11 Ax19 lx19 cx19 x20 x47 x48 Ax186 lx186 cx186 x187 x188 Ax213 lx213 cx213 x214 y215 H0 K) : matrix_reduce.P5 base N1 N4 [(.int .u64 x0), (.pointer ((some x7))), (.int .i64 x10), (.int .i64 x11), (.slice Ax19 lx19 cx19), (.int .u64 x20), (.int .i64 x47), (.int .i64 x48), (.slice Ax186 lx186 cx186), (.int .i64 x187), (.int .i64 x188), (.slice Ax213 lx213 cx213), (.int .i64 x214), (.int .i64 y215)] H0 K := h
def matrix_reduce.sh (base : Nat) (x0 : Int) (Ax1 : Option Addr) (lx1 cx1 : Nat) (x2 : Int) (H0 : HH) (K : Value → HH → Prop) : Prop :=
 HCall Try.prog base 52 #[(.slice Ax1 lx1 cx1)] H0 fun v1 H2 =>
 ∃ (A3 : Option Addr) (l3 c3 : Nat), v1 = (.slice A3 l3 c3) ∧ ∃ n4 : Int, ∃ (A5 : Option Addr) (l5 c5 : Nat), ∃ (A6 : Option Addr) (l6 c6 : Nat), ∃ n7 : Int, AQ Try.prog (Instr.build 80 #[(0, (.int .u64 x0)), (1, (.slice A3 l3 c3)), (3, (.int .u64 1))]) (.agg #[(.int .u64 n4), (.slice A5 l5 c5), (.slice A6 l6 c6), (.int .u64 n7)]) ∧
 HRun Try.prog base (Instr.box 80 (.agg #[(.int .u64 n4), (.slice A5 l5 c5), (.slice A6 l6 c6), (.int .u64 n7)])) H2 fun v8 H9 =>
 ∃ a10 : Addr, v8 = (.pointer ((some a10))) ∧ ∃ a11 : Addr, AQ Try.prog (Instr.fieldAt 80 (.pointer ((some a10))) 1) (.pointer ((some a11))) ∧
 ∃ (A12 : Option Addr) (l12 c12 : Nat), QRun Try.prog (Instr.loadAt 67 (.pointer ((some a11)))) H9 (.slice A12 l12 c12) ∧
 matrix_reduce.P0 base [(.int .u64 x0), (.int .i64 x2), (.pointer ((some a10))), (.slice A12 l12 c12), (.int .i64 (((l12 : Nat) : Int))), (.int .i64 0)] H9 K
theorem matrix_reduce.spec {base : Nat} {x0 : Int} {Ax1 : Option Addr} {lx1 cx1 : Nat} {x2 : Int} {H0 : HH} {K : Value → HH → Prop} (h : matrix_reduce.sh base x0 Ax1 lx1 cx1 x2 H0 K) : HCall Try.prog base 45 #[(.int .u64 x0), (.slice Ax1 lx1 cx1), (.int .i64 x2)] H0 K := spec_of_wpC (n := 247) (ann := matrix_reduce.ann) mix Try.func45 (by kernel_rfl) (cast (show matrix_reduce.sh base x0 Ax1 lx1 cx1 x2 H0 K = wpC Try.prog base 247 matrix_reduce.ann (bodyOf Try.f45) (ofL [(.int .u64 x0), (.slice Ax1 lx1 cx1), (.int .i64 x2)]) H0 (retQ Try.prog 247 Try.f45 K) by kernel_rfl) h)
def matrix_reduce.B0 (base : Nat) (x0 x2 : Int) (x7 : Addr) (Ax31 : Option Addr) (lx31 cx31 : Nat) (x32 : Int) (y33 : Int) (g : Fr) (N0 : Value → HH → Prop) (H0 : HH) (K : Value → HH → Prop) : Prop :=
 if (decide ((y33 : Int) < x32)) = true then
 ∃ a13 : Addr, AQ Try.prog (Instr.indexAt 67 (.slice Ax31 lx31 cx31) (.int .i64 y33)) (.pointer ((some a13))) ∧
 ∃ (A14 : Option Addr) (l14 c14 : Nat), QRun Try.prog (Instr.loadAt 30 (.pointer ((some a13)))) H0 (.slice A14 l14 c14) ∧
 ∃ a15 : Addr, AQ Try.prog (Instr.fieldAt 80 (.pointer ((some x7))) 1) (.pointer ((some a15))) ∧
 ∃ (A16 : Option Addr) (l16 c16 : Nat), QRun Try.prog (Instr.loadAt 67 (.pointer ((some a15)))) H0 (.slice A16 l16 c16) ∧
 HCall Try.prog base 44 #[(.slice A14 l14 c14)] H0 fun v17 H18 =>
 ∃ (A19 : Option Addr) (l19 c19 : Nat), v17 = (.slice A19 l19 c19) ∧ QRun Try.prog (Instr.loadAt 67 (.pointer ((some a15)))) H18 (.slice A16 l16 c16) ∧
 ∃ a20 : Addr, AQ Try.prog (Instr.indexAt 67 (.slice A16 l16 c16) (.int .i64 y33)) (.pointer ((some a20))) ∧
 HRun Try.prog base (Instr.storeAt 30 (.pointer ((some a20))) (.slice A19 l19 c19)) H18 fun _ H21 =>
 N0 (.int .i64 ((IntKind.i64.wrap (y33 + 1)))) H21
 else
 matrix_reduce.P1 base [(.int .u64 x0), (.pointer ((some x7))), (.int .i64 x2), (.int .i64 0)] H0 K
theorem matrix_reduce.loop0 {base : Nat} {x0 x2 : Int} {x7 : Addr} {Ax31 : Option Addr} {lx31 cx31 : Nat} {x32 y33_i : Int} {H0 : HH} {K : Value → HH → Prop} (J : Nat → Int → HH → Prop) (n : Nat) (h0 : J n y33_i H0)
    (hs : ∀ (n : Nat) (y33 : Int) (g : Fr) (H0 : HH), J n y33 H0 → matrix_reduce.B0 base x0 x2 x7 Ax31 lx31 cx31 x32 y33 g (fun w33 H => ∃ n', n' < n ∧ ∃ (y33' : Int), w33 = (.int .i64 y33') ∧ J n' y33' H) H0 K) : matrix_reduce.P0 base [(.int .u64 x0), (.int .i64 x2), (.pointer ((some x7))), (.slice Ax31 lx31 cx31), (.int .i64 x32), (.int .i64 y33_i)] H0 K := by
  refine loop_rule (ann := matrix_reduce.ann) (body := codeAt [.r, .r, .l, .r, .b, .lp] (bodyOf Try.f45)) mix (by kernel_rfl) 140728898421504 (by kernel_rfl) [0, 2, 7, 31, 32] [(.int .u64 x0), (.int .i64 x2), (.pointer ((some x7))), (.slice Ax31 lx31 cx31), (.int .i64 x32)] (by kernel_rfl) (fun fr ⟨e0, e2, e7, e31, e32, e33, _⟩ => ⟨e0, e2, e7, e31, e32, trivial⟩) (fun n g H => ∃ (y33 : Int), g 33 = (.int .i64 y33) ∧ J n y33 H) n (fun fr ⟨e0, e2, e7, e31, e32, e33, _⟩ => ⟨y33_i, e33, h0⟩) ?_
  rintro n g H0 ⟨e0, e2, e7, e31, e32, _⟩ ⟨y33, e33, hJ⟩
  rw [← ov_eq (g := g) [(0, (.int .u64 x0)), (2, (.int .i64 x2)), (7, (.pointer ((some x7)))), (31, (.slice Ax31 lx31 cx31)), (32, (.int .i64 x32)), (33, (.int .i64 y33))] (by simp only [List.mem_cons, List.not_mem_nil, or_false, forall_eq_or_imp, forall_eq, false_implies, implies_true]; exact ⟨e0, e2, e7, e31, e32, e33⟩)]
  have key : ∀ NN : Value → HH → Prop, matrix_reduce.B0 base x0 x2 x7 Ax31 lx31 cx31 x32 y33 g NN H0 K = wpC Try.prog base 247 matrix_reduce.ann (codeAt [.r, .r, .l, .r, .b, .lp] (bodyOf Try.f45)) (ov g [(0, (.int .u64 x0)), (2, (.int .i64 x2)), (7, (.pointer ((some x7)))), (31, (.slice Ax31 lx31 cx31)), (32, (.int .i64 x32)), (33, (.int .i64 y33))]) H0 (thenQ (fun fr H => NN (fr 33) H) (qAt Try.prog base 247 matrix_reduce.ann [.r, .r, .l, .r, .b] [] (bodyOf Try.f45) (retQ Try.prog 247 Try.f45 K))) := fun NN => by kernel_rfl
  refine cast ?_ (hs n y33 g H0 hJ)
  refine (key (fun w33 H => ∃ n', n' < n ∧ ∃ (y33' : Int), w33 = (.int .i64 y33') ∧ J n' y33' H)).trans ?_
  kernel_rfl
def matrix_reduce.B1 (base : Nat) (x0 : Int) (x7 : Addr) (x47 : Int) (y48 : Int) (g : Fr) (N1 : Value → HH → Prop) (H0 : HH) (K : Value → HH → Prop) : Prop :=
 if (decide ((y48 : Int) < x47)) = true then
 ∃ a22 : Addr, AQ Try.prog (Instr.fieldAt 80 (.pointer ((some x7))) 2) (.pointer ((some a22))) ∧
 ∃ (A23 : Option Addr) (l23 c23 : Nat), QRun Try.prog (Instr.loadAt 31 (.pointer ((some a22)))) H0 (.slice A23 l23 c23) ∧
 matrix_reduce.P2 base N1 [(.int .u64 x0), (.pointer ((some x7))), (.int .i64 y48), (.int .i64 (((l23 : Nat) : Int))), (.int .i64 ((-1))), (.int .i64 (((l23 : Nat) : Int))), (.int .i64 x47), (.int .i64 y48)] H0 K
 else
 K (.pointer ((some x7))) H0
theorem matrix_reduce.loop1 {base : Nat} {x0 : Int} {x7 : Addr} {x47 y48_i : Int} {H0 : HH} {K : Value → HH → Prop} (J : Nat → Int → HH → Prop) (n : Nat) (h0 : J n y48_i H0)
    (hs : ∀ (n : Nat) (y48 : Int) (g : Fr) (H0 : HH), J n y48 H0 → matrix_reduce.B1 base x0 x7 x47 y48 g (fun w48 H => ∃ n', n' < n ∧ ∃ (y48' : Int), w48 = (.int .i64 y48') ∧ J n' y48' H) H0 K) : matrix_reduce.P1 base [(.int .u64 x0), (.pointer ((some x7))), (.int .i64 x47), (.int .i64 y48_i)] H0 K := by
  refine loop_rule (ann := matrix_reduce.ann) (body := codeAt [.r, .r, .r, .l, .r, .b, .lp] (bodyOf Try.f45)) mix (by kernel_rfl) 113078212145816597093331040047546785012958969400039613319782515407759342592 (by kernel_rfl) [0, 7, 47] [(.int .u64 x0), (.pointer ((some x7))), (.int .i64 x47)] (by kernel_rfl) (fun fr ⟨e0, e7, e47, e48, _⟩ => ⟨e0, e7, e47, trivial⟩) (fun n g H => ∃ (y48 : Int), g 48 = (.int .i64 y48) ∧ J n y48 H) n (fun fr ⟨e0, e7, e47, e48, _⟩ => ⟨y48_i, e48, h0⟩) ?_
  rintro n g H0 ⟨e0, e7, e47, _⟩ ⟨y48, e48, hJ⟩
  rw [← ov_eq (g := g) [(0, (.int .u64 x0)), (7, (.pointer ((some x7)))), (47, (.int .i64 x47)), (48, (.int .i64 y48))] (by simp only [List.mem_cons, List.not_mem_nil, or_false, forall_eq_or_imp, forall_eq, false_implies, implies_true]; exact ⟨e0, e7, e47, e48⟩)]
  have key : ∀ NN : Value → HH → Prop, matrix_reduce.B1 base x0 x7 x47 y48 g NN H0 K = wpC Try.prog base 247 matrix_reduce.ann (codeAt [.r, .r, .r, .l, .r, .b, .lp] (bodyOf Try.f45)) (ov g [(0, (.int .u64 x0)), (7, (.pointer ((some x7)))), (47, (.int .i64 x47)), (48, (.int .i64 y48))]) H0 (thenQ (fun fr H => NN (fr 48) H) (qAt Try.prog base 247 matrix_reduce.ann [.r, .r, .r, .l, .r, .b] [] (bodyOf Try.f45) (retQ Try.prog 247 Try.f45 K))) := fun NN => by kernel_rfl
  refine cast ?_ (hs n y48 g H0 hJ)
  refine (key (fun w48 H => ∃ n', n' < n ∧ ∃ (y48' : Int), w48 = (.int .i64 y48') ∧ J n' y48' H)).trans ?_
  kernel_rfl
def matrix_reduce.B2 (base : Nat) (N1 : Value → HH → Prop) (x0 : Int) (x7 : Addr) (x10 x11 x47 x48 : Int) (y12 : Int) (y13 : Int) (g : Fr) (N2 : Value → Value → HH → Prop) (H0 : HH) (K : Value → HH → Prop) : Prop :=
 ∃ a24 : Addr, AQ Try.prog (Instr.fieldAt 80 (.pointer ((some x7))) 1) (.pointer ((some a24))) ∧
 ∃ (A25 : Option Addr) (l25 c25 : Nat), QRun Try.prog (Instr.loadAt 67 (.pointer ((some a24)))) H0 (.slice A25 l25 c25) ∧
 if (decide ((y13 : Int) < (((l25 : Nat) : Int)))) = true then
 if (decide ((y12 : Int) < 0)) = true then
 ∃ a26 : Addr, AQ Try.prog (Instr.fieldAt 80 (.pointer ((some x7))) 1) (.pointer ((some a26))) ∧
 ∃ (A27 : Option Addr) (l27 c27 : Nat), QRun Try.prog (Instr.loadAt 67 (.pointer ((some a26)))) H0 (.slice A27 l27 c27) ∧
 ∃ a28 : Addr, AQ Try.prog (Instr.indexAt 67 (.slice A27 l27 c27) (.int .i64 y13)) (.pointer ((some a28))) ∧
 ∃ (A29 : Option Addr) (l29 c29 : Nat), QRun Try.prog (Instr.loadAt 30 (.pointer ((some a28)))) H0 (.slice A29 l29 c29) ∧
 ∃ a30 : Addr, AQ Try.prog (Instr.indexAt 30 (.slice A29 l29 c29) (.int .i64 x10)) (.pointer ((some a30))) ∧
 ∃ n31 : Int, QRun Try.prog (Instr.loadAt 22 (.pointer ((some a30)))) H0 (.int .u64 n31) ∧
 if ((n31 : Int) != 0) = true then
 N2 (.int .i64 y13) (.int .i64 ((IntKind.i64.wrap (y13 + 1)))) H0
 else
 N2 (.int .i64 y12) (.int .i64 ((IntKind.i64.wrap (y13 + 1)))) H0
 else
 matrix_reduce.R0 base N1 [(.int .u64 x0), (.pointer ((some x7))), (.int .i64 x10), (.int .i64 x11), (.int .i64 y12), (.int .i64 x47), (.int .i64 x48)] H0 K
 else
 matrix_reduce.R0 base N1 [(.int .u64 x0), (.pointer ((some x7))), (.int .i64 x10), (.int .i64 x11), (.int .i64 y12), (.int .i64 x47), (.int .i64 x48)] H0 K
theorem matrix_reduce.loop2 {base : Nat} {N1 : Value → HH → Prop} {x0 : Int} {x7 : Addr} {x10 x11 x47 x48 y12_i y13_i : Int} {H0 : HH} {K : Value → HH → Prop} (J : Nat → Int → Int → HH → Prop) (n : Nat) (h0 : J n y12_i y13_i H0)
    (hs : ∀ (n : Nat) (y12 : Int) (y13 : Int) (g : Fr) (H0 : HH), J n y12 y13 H0 → matrix_reduce.B2 base N1 x0 x7 x10 x11 x47 x48 y12 y13 g (fun w12 w13 H => ∃ n', n' < n ∧ ∃ (y12' : Int) (y13' : Int), w12 = (.int .i64 y12') ∧ w13 = (.int .i64 y13') ∧ J n' y12' y13' H) H0 K) : matrix_reduce.P2 base N1 [(.int .u64 x0), (.pointer ((some x7))), (.int .i64 x10), (.int .i64 x11), (.int .i64 y12_i), (.int .i64 y13_i), (.int .i64 x47), (.int .i64 x48)] H0 K := by
  refine loop_rule (ann := matrix_reduce.ann) (body := codeAt [.r, .r, .r, .l, .r, .b, .lp, .r, .r, .l, .b, .r, .r, .r, .l, .r, .b, .lp] (bodyOf Try.f45)) mix (by kernel_rfl) 4835703134343328622981120 (by kernel_rfl) [0, 7, 10, 11, 47, 48] [(.int .u64 x0), (.pointer ((some x7))), (.int .i64 x10), (.int .i64 x11), (.int .i64 x47), (.int .i64 x48)] (by kernel_rfl) (fun fr ⟨e0, e7, e10, e11, e12, e13, e47, e48, _⟩ => ⟨e0, e7, e10, e11, e47, e48, trivial⟩) (fun n g H => ∃ (y12 : Int) (y13 : Int), g 12 = (.int .i64 y12) ∧ g 13 = (.int .i64 y13) ∧ J n y12 y13 H) n (fun fr ⟨e0, e7, e10, e11, e12, e13, e47, e48, _⟩ => ⟨y12_i, y13_i, e12, e13, h0⟩) ?_
  rintro n g H0 ⟨e0, e7, e10, e11, e47, e48, _⟩ ⟨y12, y13, e12, e13, hJ⟩
  rw [← ov_eq (g := g) [(0, (.int .u64 x0)), (7, (.pointer ((some x7)))), (10, (.int .i64 x10)), (11, (.int .i64 x11)), (12, (.int .i64 y12)), (13, (.int .i64 y13)), (47, (.int .i64 x47)), (48, (.int .i64 x48))] (by simp only [List.mem_cons, List.not_mem_nil, or_false, forall_eq_or_imp, forall_eq, false_implies, implies_true]; exact ⟨e0, e7, e10, e11, e12, e13, e47, e48⟩)]
  have key : ∀ NN : Value → Value → HH → Prop, matrix_reduce.B2 base N1 x0 x7 x10 x11 x47 x48 y12 y13 g NN H0 K = wpC Try.prog base 247 matrix_reduce.ann (codeAt [.r, .r, .r, .l, .r, .b, .lp, .r, .r, .l, .b, .r, .r, .r, .l, .r, .b, .lp] (bodyOf Try.f45)) (ov g [(0, (.int .u64 x0)), (7, (.pointer ((some x7)))), (10, (.int .i64 x10)), (11, (.int .i64 x11)), (12, (.int .i64 y12)), (13, (.int .i64 y13)), (47, (.int .i64 x47)), (48, (.int .i64 x48))]) H0 (thenQ (fun fr H => NN (fr 12) (fr 13) H) (qAt Try.prog base 247 matrix_reduce.ann [.r, .r, .r, .l, .r, .b, .lp, .r, .r, .l, .b, .r, .r, .r, .l, .r, .b] [fun fr H => N1 (fr 48) H] (bodyOf Try.f45) (retQ Try.prog 247 Try.f45 K))) := fun NN => by kernel_rfl
  refine cast ?_ (hs n y12 y13 g H0 hJ)
  refine (key (fun w12 w13 H => ∃ n', n' < n ∧ ∃ (y12' : Int) (y13' : Int), w12 = (.int .i64 y12') ∧ w13 = (.int .i64 y13') ∧ J n' y12' y13' H)).trans ?_
  kernel_rfl
def matrix_reduce.B3 (base : Nat) (N1 : Value → HH → Prop) (x0 : Int) (x7 : Addr) (x10 x11 x14 x47 x48 : Int) (Ax162 : Option Addr) (lx162 cx162 : Nat) (x163 : Int) (y164 : Int) (g : Fr) (N3 : Value → HH → Prop) (H0 : HH) (K : Value → HH → Prop) : Prop :=
 if (decide ((y164 : Int) < x163)) = true then
 ∃ a32 : Addr, AQ Try.prog (Instr.indexAt 30 (.slice Ax162 lx162 cx162) (.int .i64 y164)) (.pointer ((some a32))) ∧
 ∃ n33 : Int, QRun Try.prog (Instr.loadAt 22 (.pointer ((some a32)))) H0 (.int .u64 n33) ∧
 ∃ a34 : Addr, AQ Try.prog (Instr.fieldAt 80 (.pointer ((some x7))) 1) (.pointer ((some a34))) ∧
 ∃ (A35 : Option Addr) (l35 c35 : Nat), QRun Try.prog (Instr.loadAt 67 (.pointer ((some a34)))) H0 (.slice A35 l35 c35) ∧
 ∃ a36 : Addr, AQ Try.prog (Instr.indexAt 67 (.slice A35 l35 c35) (.int .i64 x11)) (.pointer ((some a36))) ∧
 ∃ (A37 : Option Addr) (l37 c37 : Nat), QRun Try.prog (Instr.loadAt 30 (.pointer ((some a36)))) H0 (.slice A37 l37 c37) ∧
 ∃ n38 : Int, HCall Try.prog base 33 #[(.int .u64 x0), (.int .u64 x14), (.int .u64 n33)] H0 (fun v_ H_ => v_ = (.int .u64 n38) ∧ H_ = H0) ∧
 ∃ a39 : Addr, AQ Try.prog (Instr.indexAt 30 (.slice A37 l37 c37) (.int .i64 y164)) (.pointer ((some a39))) ∧
 HRun Try.prog base (Instr.storeAt 22 (.pointer ((some a39))) (.int .u64 n38)) H0 fun _ H40 =>
 N3 (.int .i64 ((IntKind.i64.wrap (y164 + 1)))) H40
 else
 ∃ a41 : Addr, AQ Try.prog (Instr.fieldAt 80 (.pointer ((some x7))) 1) (.pointer ((some a41))) ∧
 ∃ (A42 : Option Addr) (l42 c42 : Nat), QRun Try.prog (Instr.loadAt 67 (.pointer ((some a41)))) H0 (.slice A42 l42 c42) ∧
 matrix_reduce.P4 base N1 [(.int .u64 x0), (.pointer ((some x7))), (.int .i64 x10), (.int .i64 x11), (.int .i64 x47), (.int .i64 x48), (.slice A42 l42 c42), (.int .i64 (((l42 : Nat) : Int))), (.int .i64 0)] H0 K
theorem matrix_reduce.loop3 {base : Nat} {N1 : Value → HH → Prop} {x0 : Int} {x7 : Addr} {x10 x11 x14 x47 x48 : Int} {Ax162 : Option Addr} {lx162 cx162 : Nat} {x163 y164_i : Int} {H0 : HH} {K : Value → HH → Prop} (J : Nat → Int → HH → Prop) (n : Nat) (h0 : J n y164_i H0)
    (hs : ∀ (n : Nat) (y164 : Int) (g : Fr) (H0 : HH), J n y164 H0 → matrix_reduce.B3 base N1 x0 x7 x10 x11 x14 x47 x48 Ax162 lx162 cx162 x163 y164 g (fun w164 H => ∃ n', n' < n ∧ ∃ (y164' : Int), w164 = (.int .i64 y164') ∧ J n' y164' H) H0 K) : matrix_reduce.P3 base N1 [(.int .u64 x0), (.pointer ((some x7))), (.int .i64 x10), (.int .i64 x11), (.int .u64 x14), (.int .i64 x47), (.int .i64 x48), (.slice Ax162 lx162 cx162), (.int .i64 x163), (.int .i64 y164_i)] H0 K := by
  refine loop_rule (ann := matrix_reduce.ann) (body := codeAt [.r, .r, .r, .l, .r, .b, .lp, .r, .r, .l, .b, .r, .r, .r, .r, .r, .r, .r, .r, .l, .r, .b, .lp] (bodyOf Try.f45)) mix (by kernel_rfl) 12259940942900913572420084958245150008421598482548326400 (by kernel_rfl) [0, 7, 10, 11, 14, 47, 48, 162, 163] [(.int .u64 x0), (.pointer ((some x7))), (.int .i64 x10), (.int .i64 x11), (.int .u64 x14), (.int .i64 x47), (.int .i64 x48), (.slice Ax162 lx162 cx162), (.int .i64 x163)] (by kernel_rfl) (fun fr ⟨e0, e7, e10, e11, e14, e47, e48, e162, e163, e164, _⟩ => ⟨e0, e7, e10, e11, e14, e47, e48, e162, e163, trivial⟩) (fun n g H => ∃ (y164 : Int), g 164 = (.int .i64 y164) ∧ J n y164 H) n (fun fr ⟨e0, e7, e10, e11, e14, e47, e48, e162, e163, e164, _⟩ => ⟨y164_i, e164, h0⟩) ?_
  rintro n g H0 ⟨e0, e7, e10, e11, e14, e47, e48, e162, e163, _⟩ ⟨y164, e164, hJ⟩
  rw [← ov_eq (g := g) [(0, (.int .u64 x0)), (7, (.pointer ((some x7)))), (10, (.int .i64 x10)), (11, (.int .i64 x11)), (14, (.int .u64 x14)), (47, (.int .i64 x47)), (48, (.int .i64 x48)), (162, (.slice Ax162 lx162 cx162)), (163, (.int .i64 x163)), (164, (.int .i64 y164))] (by simp only [List.mem_cons, List.not_mem_nil, or_false, forall_eq_or_imp, forall_eq, false_implies, implies_true]; exact ⟨e0, e7, e10, e11, e14, e47, e48, e162, e163, e164⟩)]
  have key : ∀ NN : Value → HH → Prop, matrix_reduce.B3 base N1 x0 x7 x10 x11 x14 x47 x48 Ax162 lx162 cx162 x163 y164 g NN H0 K = wpC Try.prog base 247 matrix_reduce.ann (codeAt [.r, .r, .r, .l, .r, .b, .lp, .r, .r, .l, .b, .r, .r, .r, .r, .r, .r, .r, .r, .l, .r, .b, .lp] (bodyOf Try.f45)) (ov g [(0, (.int .u64 x0)), (7, (.pointer ((some x7)))), (10, (.int .i64 x10)), (11, (.int .i64 x11)), (14, (.int .u64 x14)), (47, (.int .i64 x47)), (48, (.int .i64 x48)), (162, (.slice Ax162 lx162 cx162)), (163, (.int .i64 x163)), (164, (.int .i64 y164))]) H0 (thenQ (fun fr H => NN (fr 164) H) (qAt Try.prog base 247 matrix_reduce.ann [.r, .r, .r, .l, .r, .b, .lp, .r, .r, .l, .b, .r, .r, .r, .r, .r, .r, .r, .r, .l, .r, .b] [fun fr H => N1 (fr 48) H] (bodyOf Try.f45) (retQ Try.prog 247 Try.f45 K))) := fun NN => by kernel_rfl
  refine cast ?_ (hs n y164 g H0 hJ)
  refine (key (fun w164 H => ∃ n', n' < n ∧ ∃ (y164' : Int), w164 = (.int .i64 y164') ∧ J n' y164' H)).trans ?_
  kernel_rfl
def matrix_reduce.B4 (base : Nat) (N1 : Value → HH → Prop) (x0 : Int) (x7 : Addr) (x10 x11 x47 x48 : Int) (Ax186 : Option Addr) (lx186 cx186 : Nat) (x187 : Int) (y188 : Int) (g : Fr) (N4 : Value → HH → Prop) (H0 : HH) (K : Value → HH → Prop) : Prop :=
 if (decide ((y188 : Int) < x187)) = true then
 ∃ a43 : Addr, AQ Try.prog (Instr.indexAt 67 (.slice Ax186 lx186 cx186) (.int .i64 y188)) (.pointer ((some a43))) ∧
 ∃ (A44 : Option Addr) (l44 c44 : Nat), QRun Try.prog (Instr.loadAt 30 (.pointer ((some a43)))) H0 (.slice A44 l44 c44) ∧
 if ((y188 : Int) == x11) = false then
 ∃ a45 : Addr, AQ Try.prog (Instr.indexAt 30 (.slice A44 l44 c44) (.int .i64 x10)) (.pointer ((some a45))) ∧
 ∃ n46 : Int, QRun Try.prog (Instr.loadAt 22 (.pointer ((some a45)))) H0 (.int .u64 n46) ∧
 if ((n46 : Int) == 0) = true then
 N4 (.int .i64 ((IntKind.i64.wrap (y188 + 1)))) H0
 else
 ∃ a47 : Addr, AQ Try.prog (Instr.indexAt 30 (.slice A44 l44 c44) (.int .i64 x10)) (.pointer ((some a47))) ∧
 ∃ n48 : Int, QRun Try.prog (Instr.loadAt 22 (.pointer ((some a47)))) H0 (.int .u64 n48) ∧
 ∃ a49 : Addr, AQ Try.prog (Instr.fieldAt 80 (.pointer ((some x7))) 1) (.pointer ((some a49))) ∧
 ∃ (A50 : Option Addr) (l50 c50 : Nat), QRun Try.prog (Instr.loadAt 67 (.pointer ((some a49)))) H0 (.slice A50 l50 c50) ∧
 ∃ a51 : Addr, AQ Try.prog (Instr.indexAt 67 (.slice A50 l50 c50) (.int .i64 x11)) (.pointer ((some a51))) ∧
 ∃ (A52 : Option Addr) (l52 c52 : Nat), QRun Try.prog (Instr.loadAt 30 (.pointer ((some a51)))) H0 (.slice A52 l52 c52) ∧
 matrix_reduce.P5 base N1 N4 [(.int .u64 x0), (.pointer ((some x7))), (.int .i64 x10), (.int .i64 x11), (.slice A44 l44 c44), (.int .u64 n48), (.int .i64 x47), (.int .i64 x48), (.slice Ax186 lx186 cx186), (.int .i64 x187), (.int .i64 y188), (.slice A52 l52 c52), (.int .i64 (((l52 : Nat) : Int))), (.int .i64 0)] H0 K
 else
 N4 (.int .i64 ((IntKind.i64.wrap (y188 + 1)))) H0
 else
 ∃ a53 : Addr, AQ Try.prog (Instr.fieldAt 80 (.pointer ((some x7))) 2) (.pointer ((some a53))) ∧
 ∃ (A54 : Option Addr) (l54 c54 : Nat), QRun Try.prog (Instr.loadAt 31 (.pointer ((some a53)))) H0 (.slice A54 l54 c54) ∧
 HRun Try.prog base (Instr.buildSlice 31 1 #[(0, (.int .i64 x10))]) H0 fun v55 H56 =>
 ∃ (A57 : Option Addr) (l57 c57 : Nat), v55 = (.slice A57 l57 c57) ∧ HRun Try.prog base (Builtin.append_ #[31, 31] 31 #[(.slice A54 l54 c54), (.slice A57 l57 c57)]) H56 fun v58 H59 =>
 ∃ (A60 : Option Addr) (l60 c60 : Nat), v58 = (.slice A60 l60 c60) ∧ ∃ a61 : Addr, AQ Try.prog (Instr.fieldAt 80 (.pointer ((some x7))) 2) (.pointer ((some a61))) ∧
 HRun Try.prog base (Instr.storeAt 31 (.pointer ((some a61))) (.slice A60 l60 c60)) H59 fun _ H62 =>
 N1 (.int .i64 ((IntKind.i64.wrap (x48 + 1)))) H62
theorem matrix_reduce.loop4 {base : Nat} {N1 : Value → HH → Prop} {x0 : Int} {x7 : Addr} {x10 x11 x47 x48 : Int} {Ax186 : Option Addr} {lx186 cx186 : Nat} {x187 y188_i : Int} {H0 : HH} {K : Value → HH → Prop} (J : Nat → Int → HH → Prop) (n : Nat) (h0 : J n y188_i H0)
    (hs : ∀ (n : Nat) (y188 : Int) (g : Fr) (H0 : HH), J n y188 H0 → matrix_reduce.B4 base N1 x0 x7 x10 x11 x47 x48 Ax186 lx186 cx186 x187 y188 g (fun w188 H => ∃ n', n' < n ∧ ∃ (y188' : Int), w188 = (.int .i64 y188') ∧ J n' y188' H) H0 K) : matrix_reduce.P4 base N1 [(.int .u64 x0), (.pointer ((some x7))), (.int .i64 x10), (.int .i64 x11), (.int .i64 x47), (.int .i64 x48), (.slice Ax186 lx186 cx186), (.int .i64 x187), (.int .i64 y188_i)] H0 K := by
  refine loop_rule (ann := matrix_reduce.ann) (body := codeAt [.r, .r, .r, .l, .r, .b, .lp, .r, .r, .l, .b, .r, .r, .r, .r, .r, .r, .r, .r, .r, .l, .r, .b, .lp] (bodyOf Try.f45)) mix (by kernel_rfl) 55213970774324117980619585230668463882769921298212086044084914796363776 (by kernel_rfl) [0, 7, 10, 11, 47, 48, 186, 187] [(.int .u64 x0), (.pointer ((some x7))), (.int .i64 x10), (.int .i64 x11), (.int .i64 x47), (.int .i64 x48), (.slice Ax186 lx186 cx186), (.int .i64 x187)] (by kernel_rfl) (fun fr ⟨e0, e7, e10, e11, e47, e48, e186, e187, e188, _⟩ => ⟨e0, e7, e10, e11, e47, e48, e186, e187, trivial⟩) (fun n g H => ∃ (y188 : Int), g 188 = (.int .i64 y188) ∧ J n y188 H) n (fun fr ⟨e0, e7, e10, e11, e47, e48, e186, e187, e188, _⟩ => ⟨y188_i, e188, h0⟩) ?_
  rintro n g H0 ⟨e0, e7, e10, e11, e47, e48, e186, e187, _⟩ ⟨y188, e188, hJ⟩
  rw [← ov_eq (g := g) [(0, (.int .u64 x0)), (7, (.pointer ((some x7)))), (10, (.int .i64 x10)), (11, (.int .i64 x11)), (47, (.int .i64 x47)), (48, (.int .i64 x48)), (186, (.slice Ax186 lx186 cx186)), (187, (.int .i64 x187)), (188, (.int .i64 y188))] (by simp only [List.mem_cons, List.not_mem_nil, or_false, forall_eq_or_imp, forall_eq, false_implies, implies_true]; exact ⟨e0, e7, e10, e11, e47, e48, e186, e187, e188⟩)]
  have key : ∀ NN : Value → HH → Prop, matrix_reduce.B4 base N1 x0 x7 x10 x11 x47 x48 Ax186 lx186 cx186 x187 y188 g NN H0 K = wpC Try.prog base 247 matrix_reduce.ann (codeAt [.r, .r, .r, .l, .r, .b, .lp, .r, .r, .l, .b, .r, .r, .r, .r, .r, .r, .r, .r, .r, .l, .r, .b, .lp] (bodyOf Try.f45)) (ov g [(0, (.int .u64 x0)), (7, (.pointer ((some x7)))), (10, (.int .i64 x10)), (11, (.int .i64 x11)), (47, (.int .i64 x47)), (48, (.int .i64 x48)), (186, (.slice Ax186 lx186 cx186)), (187, (.int .i64 x187)), (188, (.int .i64 y188))]) H0 (thenQ (fun fr H => NN (fr 188) H) (qAt Try.prog base 247 matrix_reduce.ann [.r, .r, .r, .l, .r, .b, .lp, .r, .r, .l, .b, .r, .r, .r, .r, .r, .r, .r, .r, .r, .l, .r, .b] [fun fr H => N1 (fr 48) H] (bodyOf Try.f45) (retQ Try.prog 247 Try.f45 K))) := fun NN => by kernel_rfl
  refine cast ?_ (hs n y188 g H0 hJ)
  refine (key (fun w188 H => ∃ n', n' < n ∧ ∃ (y188' : Int), w188 = (.int .i64 y188') ∧ J n' y188' H)).trans ?_
  kernel_rfl
def matrix_reduce.B5 (base : Nat) (N1 : Value → HH → Prop) (N4 : Value → HH → Prop) (x0 : Int) (x7 : Addr) (x10 x11 : Int) (Ax19 : Option Addr) (lx19 cx19 : Nat) (x20 x47 x48 : Int) (Ax186 : Option Addr) (lx186 cx186 : Nat) (x187 x188 : Int) (Ax213 : Option Addr) (lx213 cx213 : Nat) (x214 : Int) (y215 : Int) (g : Fr) (N5 : Value → HH → Prop) (H0 : HH) (K : Value → HH → Prop) : Prop :=
 if (decide ((y215 : Int) < x214)) = true then
 ∃ a63 : Addr, AQ Try.prog (Instr.indexAt 30 (.slice Ax213 lx213 cx213) (.int .i64 y215)) (.pointer ((some a63))) ∧
 ∃ n64 : Int, QRun Try.prog (Instr.loadAt 22 (.pointer ((some a63)))) H0 (.int .u64 n64) ∧
 ∃ a65 : Addr, AQ Try.prog (Instr.indexAt 30 (.slice Ax19 lx19 cx19) (.int .i64 y215)) (.pointer ((some a65))) ∧
 ∃ n66 : Int, QRun Try.prog (Instr.loadAt 22 (.pointer ((some a65)))) H0 (.int .u64 n66) ∧
 ∃ n67 : Int, HCall Try.prog base 33 #[(.int .u64 x0), (.int .u64 x20), (.int .u64 n64)] H0 (fun v_ H_ => v_ = (.int .u64 n67) ∧ H_ = H0) ∧
 ∃ n68 : Int, HCall Try.prog base 38 #[(.int .u64 x0), (.int .u64 n66), (.int .u64 n67)] H0 (fun v_ H_ => v_ = (.int .u64 n68) ∧ H_ = H0) ∧
 ∃ a69 : Addr, AQ Try.prog (Instr.indexAt 30 (.slice Ax19 lx19 cx19) (.int .i64 y215)) (.pointer ((some a69))) ∧
 HRun Try.prog base (Instr.storeAt 22 (.pointer ((some a69))) (.int .u64 n68)) H0 fun _ H70 =>
 N5 (.int .i64 ((IntKind.i64.wrap (y215 + 1)))) H70
 else
 N4 (.int .i64 ((IntKind.i64.wrap (x188 + 1)))) H0
theorem matrix_reduce.loop5 {base : Nat} {N1 : Value → HH → Prop} {N4 : Value → HH → Prop} {x0 : Int} {x7 : Addr} {x10 x11 : Int} {Ax19 : Option Addr} {lx19 cx19 : Nat} {x20 x47 x48 : Int} {Ax186 : Option Addr} {lx186 cx186 : Nat} {x187 x188 : Int} {Ax213 : Option Addr} {lx213 cx213 : Nat} {x214 y215_i : Int} {H0 : HH} {K : Value → HH → Prop} (J : Nat → Int → HH → Prop) (n : Nat) (h0 : J n y215_i H0)
    (hs : ∀ (n : Nat) (y215 : Int) (g : Fr) (H0 : HH), J n y215 H0 → matrix_reduce.B5 base N1 N4 x0 x7 x10 x11 Ax19 lx19 cx19 x20 x47 x48 Ax186 lx186 cx186 x187 x188 Ax213 lx213 cx213 x214 y215 g (fun w215 H => ∃ n', n' < n ∧ ∃ (y215' : Int), w215 = (.int .i64 y215') ∧ J n' y215' H) H0 K) : matrix_reduce.P5 base N1 N4 [(.int .u64 x0), (.pointer ((some x7))), (.int .i64 x10), (.int .i64 x11), (.slice Ax19 lx19 cx19), (.int .u64 x20), (.int .i64 x47), (.int .i64 x48), (.slice Ax186 lx186 cx186), (.int .i64 x187), (.int .i64 x188), (.slice Ax213 lx213 cx213), (.int .i64 x214), (.int .i64 y215_i)] H0 K := by
  refine loop_rule (ann := matrix_reduce.ann) (body := codeAt [.r, .r, .r, .l, .r, .b, .lp, .r, .r, .l, .b, .r, .r, .r, .r, .r, .r, .r, .r, .r, .l, .r, .b, .lp, .r, .r, .l, .b, .r, .r, .r, .r, .b, .lp] (bodyOf Try.f45)) mix (by kernel_rfl) 27606932731016420871145674490094259974588276441133845946094469745999872 (by kernel_rfl) [0, 7, 10, 11, 19, 20, 47, 48, 186, 187, 188, 213, 214] [(.int .u64 x0), (.pointer ((some x7))), (.int .i64 x10), (.int .i64 x11), (.slice Ax19 lx19 cx19), (.int .u64 x20), (.int .i64 x47), (.int .i64 x48), (.slice Ax186 lx186 cx186), (.int .i64 x187), (.int .i64 x188), (.slice Ax213 lx213 cx213), (.int .i64 x214)] (by kernel_rfl) (fun fr ⟨e0, e7, e10, e11, e19, e20, e47, e48, e186, e187, e188, e213, e214, e215, _⟩ => ⟨e0, e7, e10, e11, e19, e20, e47, e48, e186, e187, e188, e213, e214, trivial⟩) (fun n g H => ∃ (y215 : Int), g 215 = (.int .i64 y215) ∧ J n y215 H) n (fun fr ⟨e0, e7, e10, e11, e19, e20, e47, e48, e186, e187, e188, e213, e214, e215, _⟩ => ⟨y215_i, e215, h0⟩) ?_
  rintro n g H0 ⟨e0, e7, e10, e11, e19, e20, e47, e48, e186, e187, e188, e213, e214, _⟩ ⟨y215, e215, hJ⟩
  rw [← ov_eq (g := g) [(0, (.int .u64 x0)), (7, (.pointer ((some x7)))), (10, (.int .i64 x10)), (11, (.int .i64 x11)), (19, (.slice Ax19 lx19 cx19)), (20, (.int .u64 x20)), (47, (.int .i64 x47)), (48, (.int .i64 x48)), (186, (.slice Ax186 lx186 cx186)), (187, (.int .i64 x187)), (188, (.int .i64 x188)), (213, (.slice Ax213 lx213 cx213)), (214, (.int .i64 x214)), (215, (.int .i64 y215))] (by simp only [List.mem_cons, List.not_mem_nil, or_false, forall_eq_or_imp, forall_eq, false_implies, implies_true]; exact ⟨e0, e7, e10, e11, e19, e20, e47, e48, e186, e187, e188, e213, e214, e215⟩)]
  have key : ∀ NN : Value → HH → Prop, matrix_reduce.B5 base N1 N4 x0 x7 x10 x11 Ax19 lx19 cx19 x20 x47 x48 Ax186 lx186 cx186 x187 x188 Ax213 lx213 cx213 x214 y215 g NN H0 K = wpC Try.prog base 247 matrix_reduce.ann (codeAt [.r, .r, .r, .l, .r, .b, .lp, .r, .r, .l, .b, .r, .r, .r, .r, .r, .r, .r, .r, .r, .l, .r, .b, .lp, .r, .r, .l, .b, .r, .r, .r, .r, .b, .lp] (bodyOf Try.f45)) (ov g [(0, (.int .u64 x0)), (7, (.pointer ((some x7)))), (10, (.int .i64 x10)), (11, (.int .i64 x11)), (19, (.slice Ax19 lx19 cx19)), (20, (.int .u64 x20)), (47, (.int .i64 x47)), (48, (.int .i64 x48)), (186, (.slice Ax186 lx186 cx186)), (187, (.int .i64 x187)), (188, (.int .i64 x188)), (213, (.slice Ax213 lx213 cx213)), (214, (.int .i64 x214)), (215, (.int .i64 y215))]) H0 (thenQ (fun fr H => NN (fr 215) H) (qAt Try.prog base 247 matrix_reduce.ann [.r, .r, .r, .l, .r, .b, .lp, .r, .r, .l, .b, .r, .r, .r, .r, .r, .r, .r, .r, .r, .l, .r, .b, .lp, .r, .r, .l, .b, .r, .r, .r, .r, .b] [fun fr H => N1 (fr 48) H, fun fr H => N4 (fr 188) H] (bodyOf Try.f45) (retQ Try.prog 247 Try.f45 K))) := fun NN => by kernel_rfl
  refine cast ?_ (hs n y215 g H0 hJ)
  refine (key (fun w215 H => ∃ n', n' < n ∧ ∃ (y215' : Int), w215 = (.int .i64 y215') ∧ J n' y215' H)).trans ?_
  kernel_rfl
end Go.Proofs.Ytbogcgkeabkliac.HL
end
section
set_option linter.unusedVariables false
set_option linter.unusedSimpArgs false
set_option linter.unusedSectionVars false
namespace Go.Proofs.Ytbogcgkeabkliac.HL
open Go Go.Proofs.YtbogcgkeabkliacNum Go.Proofs.Ytbogcgkeabkliac.FEv
def fldInfo (P : Program) (s f : Nat) : Option (Nat × Nat) := match P.underlying s with
  | some (.struct fs) => fs[f]?.bind fun fd => (P.info? fd.type).map fun i => (fd.offset, i.size)
  | _ => none
theorem aq_fld {P : Program} {s f off sz : Nat} (h : fldInfo P s f = some (off, sz)) (hn : sz ≠ 0) (a : Addr) : AQ P (Instr.fieldAt s (.pointer (some a)) f) (.pointer (some (a.add off))) := fun W => by
  unfold fldInfo at h
  cases hd : P.underlying s with
  | none => rw [hd] at h; cases h
  | some d =>
    rw [hd] at h
    cases d with
    | struct fs =>
      obtain ⟨fd, h1, h2⟩ := Option.bind_eq_some_iff.1 h
      obtain ⟨i, h3, h4⟩ := Option.map_eq_some_iff.1 h2
      simp only [Prod.mk.injEq] at h4
      obtain ⟨rfl, rfl⟩ := h4
      simp [Instr.fieldAt, run_under hd, h1, Instr.sureAddr, fieldPlace, run_sz (n := i.size) (by rw [h3]; rfl), hn]
    | _ => cases h
theorem fld1 (b : Nat) : AQ Try.prog (Instr.fieldAt 80 (.pointer (some ⟨b, 0, none⟩)) 1) (.pointer (some ⟨b, 1, none⟩)) := by
  have := aq_fld (P := Try.prog) (s := 80) (f := 1) (off := 1) (sz := 1) (by kernel_rfl) (by decide) ⟨b, 0, none⟩
  rwa [add0] at this
theorem fld2 (b : Nat) : AQ Try.prog (Instr.fieldAt 80 (.pointer (some ⟨b, 0, none⟩)) 2) (.pointer (some ⟨b, 2, none⟩)) := by
  have := aq_fld (P := Try.prog) (s := 80) (f := 2) (off := 2) (sz := 1) (by kernel_rfl) (by decide) ⟨b, 0, none⟩
  rwa [add0] at this
theorem fld3 (b : Nat) : AQ Try.prog (Instr.fieldAt 80 (.pointer (some ⟨b, 0, none⟩)) 3) (.pointer (some ⟨b, 3, none⟩)) := by
  have := aq_fld (P := Try.prog) (s := 80) (f := 3) (off := 3) (sz := 1) (by kernel_rfl) (by decide) ⟨b, 0, none⟩
  rwa [add0] at this
theorem sc57 : scalarB Try.prog 31 = true := by kernel_rfl
theorem info57 : (Try.prog.info? 31).map (·.size) = some 1 := by kernel_rfl
theorem Own.tag {base T sz n T' : Nat} {H : HH} {v : Value} {xs : List Value} (h : Own base H T sz v n xs) {g : Nat} {cur : Array Value} (hg : H g = some (.cells cur T' (0, 0))) (ht : T ≠ T') : v.ownBlock ≠ some g := fun e => by
  obtain ⟨_, cur', hc⟩ := h.known e
  rw [hc] at hg
  cases hg
  exact ht rfl
/-- Rows of words, each in a block of its own, the rows' row too; nothing of it was known in H0. -/
structure Rows (base : Nat) (H0 H : HH) (A : Option Addr) (n c : Nat) (rs : List Value) (w : List (List Int)) : Prop where
  ext : Ext H0 H
  own : Own base H 30 1 (.slice A n c) n rs
  fo : Fresh H0 (.slice A n c)
  len : w.length = n
  rows : ∀ (i : Nat) (l : List Int), w[i]? = some l → ∃ A' c', rs[i]? = some (.slice A' l.length c') ∧ Own base H 22 1 (.slice A' l.length c') l.length (us l) ∧ Fresh H0 (.slice A' l.length c')
  dist : ∀ (i j : Nat) (v v' : Value), rs[i]? = some v → rs[j]? = some v' → i ≠ j → ∀ b, v.ownBlock = some b → v'.ownBlock ≠ some b
section
variable {base : Nat} {H0 H : HH} {A : Option Addr} {n c : Nat} {rs : List Value} {w : List (List Int)}
theorem Rows.mat (h : Rows base H0 H A n c rs w) : Mat H A n w := by
  obtain ⟨A', c', e, _, h5⟩ := h.own.slice
  cases e
  have hl := h.own.1
  refine ⟨h.len.symm, rs, by rw [h.len]; omega, h5, fun i l hl => ?_⟩
  obtain ⟨A1, c1, h6, h7, _⟩ := h.rows i l hl
  obtain ⟨A2, c2, e2, _, h8⟩ := h7.slice
  cases e2
  exact ⟨A1, c1, h6, h8⟩
/-- Another block of another type turns. -/
theorem Rows.far (h : Rows base H0 H A n c rs w) {g : Nat} (hn : H0 g = none) {cur : Array Value} {T : Nat} (hg : H g = some (.cells cur T (0, 0))) (h1 : 30 ≠ T) (h2 : 22 ≠ T) (o : Obj) : Rows base H0 (upd H g o) A n c rs w where
  ext := fun b x hx => by rw [upd_ne _ (fun e => by rw [e, hn] at hx; cases hx)]; exact h.ext b x hx
  own := h.own.far (h.own.tag hg h1) o
  fo := h.fo
  len := h.len
  rows := fun i l hl => by
    obtain ⟨A1, c1, h6, h7, h8⟩ := h.rows i l hl
    exact ⟨A1, c1, h6, h7.far (h7.tag hg h2) o, h8⟩
  dist := h.dist
theorem Rows.move (h : Rows base H0 H A n c rs w) {H' : HH} (he : Ext H H') : Rows base H0 H' A n c rs w where
  ext := h.ext.trans he
  own := h.own.ext he
  fo := h.fo
  len := h.len
  rows := fun i l hl => by
    obtain ⟨A1, c1, h6, h7, h8⟩ := h.rows i l hl
    exact ⟨A1, c1, h6, h7.ext he, h8⟩
  dist := h.dist
/-- Only a block of another type has turned. -/
theorem Rows.keep (h : Rows base H0 H A n c rs w) {H' : HH} {T : Nat} (h1 : 30 ≠ T) (h2 : 22 ≠ T) {v v' : Value} (hf : Fresh H0 v) (ho : ∀ b, v.ownBlock = some b → ∃ cur, H b = some (.cells cur T (0, 0))) (hg : Grows H H' v v') : Rows base H0 H' A n c rs w where
  ext := fun b x hx => hg.keep b x (fun e => by rw [hf b e] at hx; cases hx) (h.ext b x hx)
  own := h.own.move (fun g o hb hx => hg.keep g o (fun e => by obtain ⟨cur, hc⟩ := ho g e; exact h.own.tag hc h1 hb) hx)
  fo := h.fo
  len := h.len
  rows := fun i l hl => by
    obtain ⟨A1, c1, h6, h7, h8⟩ := h.rows i l hl
    exact ⟨A1, c1, h6, h7.move (fun g o hb hx => hg.keep g o (fun e => by obtain ⟨cur, hc⟩ := ho g e; exact h7.tag hc h2 hb) hx), h8⟩
  dist := h.dist
/-- A row, and its block. -/
theorem Rows.at (h : Rows base H0 H A n c rs w) {i : Nat} (hi : i < n) : ∃ g, A = some ⟨g, 0, none⟩ ∧ AQ Try.prog (Instr.indexAt 67 (.slice A n c) (.int .i64 i)) (.pointer (some ⟨g, i, none⟩)) ∧ ∃ A' c', rs[i]? = some (.slice A' (w.getD i []).length c') ∧ QRun Try.prog (Instr.loadAt 30 (.pointer (some ⟨g, i, none⟩))) H (.slice A' (w.getD i []).length c') ∧ Own base H 22 1 (.slice A' (w.getD i []).length c') (w.getD i []).length (us (w.getD i [])) := by
  obtain ⟨g, cur, rfl, h2, h3, h4, h5⟩ := h.own.at hi
  have hw : w[i]? = some (w.getD i []) := by simp [show i < w.length by rw [h.len]; exact hi]
  obtain ⟨A1, c1, h6, h7, h8⟩ := h.rows i _ hw
  exact ⟨g, rfl, aq_own un23 info32 hi, A1, c1, h6, q_ld sc32 (by rw [cellH_blk h3]; exact h5 _ _ h6), h7⟩
/-- A word of a row turns. -/
theorem Rows.set (h : Rows base H0 H A n c rs w) {i : Nat} {A' : Option Addr} {k c' : Nat} (hr : rs[i]? = some (.slice A' k c')) {g : Nat} (hA : A' = some ⟨g, 0, none⟩) {cur : Array Value} (hg : H g = some (.cells cur 22 (0, 0))) (x : Nat) (y : Int) :
    Rows base H0 (upd H g (.cells (cur.setIfInBounds x (.int .u64 y)) 22 (0, 0))) A n c rs (w.set i ((w.getD i []).set x y)) := by
  subst hA
  have hi : i < w.length := by
    have h1 := (List.getElem?_eq_some_iff.1 hr).1
    have h2 := h.own.1
    rw [h.len]; omega
  have hw : w[i]? = some (w.getD i []) := by simp [hi]
  obtain ⟨A1, c1, h6, h7, h8⟩ := h.rows i _ hw
  rw [hr] at h6
  cases h6
  have hb : ∀ {k' c'' : Nat}, (Value.slice (some ⟨g, 0, none⟩) k' c'').ownBlock = some g := by intros; simp [Value.ownBlock]
  refine ⟨fun b o hx => ?_, h.own.far (h.own.tag hg (by decide)) _, h.fo, by rw [List.length_set]; exact h.len, fun j l hl => ?_, h.dist⟩
  · rw [upd_ne _ (fun e => by rw [e, h8 g hb] at hx; cases hx)]; exact h.ext b o hx
  · rw [List.getElem?_set] at hl
    by_cases e : i = j
    · subst e
      rw [if_pos rfl, if_pos hi] at hl
      cases hl
      refine ⟨_, c', by rw [List.length_set]; exact hr, ?_, by rw [List.length_set]; exact h8⟩
      have := h7.put hb hg x (.int .u64 y)
      rw [us_set] at this
      rwa [List.length_set]
    · rw [if_neg e] at hl
      obtain ⟨A2, c2, h9, h10, h11⟩ := h.rows j l hl
      exact ⟨A2, c2, h9, h10.far (fun e' => h.dist i j _ _ hr h9 e g hb e') _, h11⟩
end
end Go.Proofs.Ytbogcgkeabkliac.HL
end
section
set_option linter.unusedVariables false
set_option linter.unusedSimpArgs false
set_option linter.unusedSectionVars false
namespace Go.Proofs.Ytbogcgkeabkliac.HL
open Go Go.Proofs.YtbogcgkeabkliacNum Go.Proofs.Ytbogcgkeabkliac.FEv
section
variable {p : Nat} [NeZero p]
/-- A row whose first j entries have lost k times those of b. -/
def subL (a b : List (Fin p)) (k : Fin p) (j : Nat) : List (Fin p) := (List.range a.length).map fun x => if x < j then cf a x - k * cf b x else cf a x
/-- A row whose first j entries are taken v times. -/
def scaL (a : List (Fin p)) (v : Fin p) (j : Nat) : List (Fin p) := (List.range a.length).map fun x => if x < j then v * cf a x else cf a x
theorem range_cf (a : List (Fin p)) : (List.range a.length).map (fun x => cf a x) = a := by
  apply List.ext_getElem?
  intro i
  rw [List.getElem?_map]
  by_cases h : i < a.length
  · rw [List.getElem?_range h, List.getElem?_eq_getElem h]; simp [cf, h]
  · rw [List.getElem?_eq_none (by simpa using h), List.getElem?_eq_none (by omega)]; rfl
@[simp] theorem scaL_length (a : List (Fin p)) (v : Fin p) (j : Nat) : (scaL a v j).length = a.length := by simp [scaL]
theorem subL_zero (a b : List (Fin p)) (k : Fin p) : subL a b k 0 = a := by
  rw [← range_cf a]
  unfold subL
  simp [range_cf]
theorem scaL_zero (a : List (Fin p)) (v : Fin p) : scaL a v 0 = a := by
  rw [← range_cf a]
  unfold scaL
  simp [range_cf]
theorem subL_step {a b : List (Fin p)} {k : Fin p} {j : Nat} (hj : j < a.length) : (subL a b k j).set j (cf a j - k * cf b j) = subL a b k (j + 1) := by
  unfold subL
  refine set_range _ _ hj _ (by rw [if_pos (by omega)]) (fun x _ hx => ?_)
  by_cases h1 : x < j
  · rw [if_pos h1, if_pos (by omega)]
  · rw [if_neg h1, if_neg (by omega)]
theorem scaL_step {a : List (Fin p)} {v : Fin p} {j : Nat} (hj : j < a.length) : (scaL a v j).set j (v * cf a j) = scaL a v (j + 1) := by
  unfold scaL
  refine set_range _ _ hj _ (by rw [if_pos (by omega)]) (fun x _ hx => ?_)
  by_cases h1 : x < j
  · rw [if_pos h1, if_pos (by omega)]
  · rw [if_neg h1, if_neg (by omega)]
theorem cf_subL {a b : List (Fin p)} {k : Fin p} {j x : Nat} (hx : x < a.length) : cf (subL a b k j) x = if x < j then cf a x - k * cf b x else cf a x := by
  unfold subL
  rw [cf, List.getD_eq_getElem?_getD, List.getElem?_map, List.getElem?_range hx]; rfl
theorem cf_scaL {a : List (Fin p)} {v : Fin p} {j x : Nat} (hx : x < a.length) : cf (scaL a v j) x = if x < j then v * cf a x else cf a x := by
  unfold scaL
  rw [cf, List.getD_eq_getElem?_getD, List.getElem?_map, List.getElem?_range hx]; rfl
theorem subL_zero_k (a b : List (Fin p)) (j : Nat) : subL a b 0 j = a := by
  conv => rhs; rw [← range_cf a]
  unfold subL
  apply List.map_congr_left
  intro x _
  split
  · grind
  · rfl
/-- Rows before i have lost their multiples of row r. -/
def stageL (r k : Nat) (w : List (List (Fin p))) (i : Nat) : List (List (Fin p)) := (List.range w.length).map fun t => if t < i ∧ t ≠ r then subL (rowL w t) (rowL w r) (en w t k) (rowL w t).length else rowL w t
@[simp] theorem stageL_length (r k : Nat) (w : List (List (Fin p))) (i : Nat) : (stageL r k w i).length = w.length := by simp [stageL]
theorem range_rowL (w : List (List (Fin p))) : (List.range w.length).map (fun x => rowL w x) = w := by
  apply List.ext_getElem?
  intro i
  rw [List.getElem?_map]
  by_cases h : i < w.length
  · rw [List.getElem?_range h, List.getElem?_eq_getElem h]; simp [rowL_lt h]
  · rw [List.getElem?_eq_none (by simpa using h), List.getElem?_eq_none (by omega)]; rfl
theorem stageL_zero (r k : Nat) (w : List (List (Fin p))) : stageL r k w 0 = w := by
  conv => rhs; rw [← range_rowL w]
  unfold stageL
  simp
theorem rowL_stage {r k : Nat} {w : List (List (Fin p))} {i t : Nat} (ht : t < w.length) : rowL (stageL r k w i) t = if t < i ∧ t ≠ r then subL (rowL w t) (rowL w r) (en w t k) (rowL w t).length else rowL w t := by
  rw [rowL_lt (by simpa using ht)]
  simp [stageL]
theorem stageL_skip {r k : Nat} {w : List (List (Fin p))} {i : Nat} (h : i = r ∨ en w i k = 0) : stageL r k w (i + 1) = stageL r k w i := by
  unfold stageL
  apply List.map_congr_left
  intro t _
  by_cases h1 : t < i ∧ t ≠ r
  · rw [if_pos h1, if_pos ⟨by omega, h1.2⟩]
  · rw [if_neg h1]
    by_cases h2 : t < i + 1 ∧ t ≠ r
    · rw [if_pos h2]
      have : t = i := by omega
      subst this
      rcases h with h | h
      · exact absurd h h2.2
      · rw [h, subL_zero_k]
    · rw [if_neg h2]
theorem stageL_set {r k : Nat} {w : List (List (Fin p))} {i : Nat} (hi : i < w.length) (hr : i ≠ r) : (stageL r k w i).set i (subL (rowL w i) (rowL w r) (en w i k) (rowL w i).length) = stageL r k w (i + 1) := by
  unfold stageL
  refine set_range _ _ hi _ (by rw [if_pos ⟨by omega, hr⟩]) (fun t _ ht => ?_)
  by_cases h1 : t < i ∧ t ≠ r
  · rw [if_pos h1, if_pos ⟨by omega, h1.2⟩]
  · rw [if_neg h1, if_neg (by omega)]
/-- All rows done, with row r divided first. -/
theorem stage_clear {r k c : Nat} {w : List (List (Fin p))} (hw : Go.Proofs.YtbogcgkeabkliacNum.Rect c w) (hr : r < w.length) (hk : k < c) : stageL r k (w.set r (scaL (rowL w r) (inv (en w r k)) (rowL w r).length)) w.length = clearL r k w := by
  have hrow : ∀ t, rowL (w.set r (scaL (rowL w r) (inv (en w r k)) (rowL w r).length)) t = if t = r then scaL (rowL w r) (inv (en w r k)) (rowL w r).length else rowL w t := fun t => rowL_set hr
  unfold stageL clearL
  rw [List.length_set]
  apply List.map_congr_left
  intro t ht
  have ht' := List.mem_range.1 ht
  have hlr : (rowL w r).length = c := hw.row hr
  have hlt : (rowL w t).length = c := hw.row ht'
  rw [hrow t, hrow r, if_pos rfl]
  by_cases e : t = r
  · subst e
    rw [if_pos rfl, if_neg (by simp)]
    unfold scaL
    apply List.map_congr_left
    intro x hx
    rw [if_pos (List.mem_range.1 hx)]
    unfold clearX
    rw [if_pos rfl]
    unfold en
    grind
  · rw [if_neg e, if_pos ⟨ht', e⟩]
    unfold subL
    apply List.map_congr_left
    intro x hx
    have hx' := List.mem_range.1 hx
    rw [if_pos hx', cf_scaL (by omega), if_pos (by omega)]
    unfold clearX
    rw [if_neg e]
    have : en (w.set r (scaL (rowL w r) (inv (en w r k)) (rowL w r).length)) t k = en w t k := by
      show cf (rowL (w.set r (scaL (rowL w r) (inv (en w r k)) (rowL w r).length)) t) k = cf (rowL w t) k
      rw [hrow t, if_neg e]
    rw [this]
    unfold en
    grind
end
end Go.Proofs.Ytbogcgkeabkliac.HL
end
section
set_option linter.unusedVariables false
set_option linter.unusedSimpArgs false
set_option linter.unusedSectionVars false
namespace Go.Proofs.Ytbogcgkeabkliac.HL
open Go Go.Proofs.YtbogcgkeabkliacNum Go.Proofs.Ytbogcgkeabkliac.FEv
def ns (l : List Nat) : List Value := l.map fun (k : Nat) => Value.int .i64 ((k : Nat) : Int)
@[simp] theorem ns_length (l : List Nat) : (ns l).length = l.length := by simp [ns]
section
variable {p : Nat} [NeZero p]
structure Wk (base : Nat) (H0 H : HH) (xb : Nat) (A : Option Addr) (n c : Nat) (rs : List Value) (w : List (List (Fin p))) (Ap : Option Addr) (cp : Nat) (pv : List Nat) (d : Fin p) : Prop where
  rw_ : Rows base H0 H A n c rs (ms w)
  box : H xb = some (.cells #[.int .u64 p, .slice A n c, .slice Ap pv.length cp, .int .u64 (V d)] 80 (0, 0))
  xnew : H0 xb = none
  xbase : base ≤ xb
  piv : Own base H 3 1 (.slice Ap pv.length cp) pv.length (ns pv)
  pnew : Fresh H0 (.slice Ap pv.length cp)
variable {base : Nat} {H0 H : HH} {xb n c : Nat} {A : Option Addr} {rs : List Value} {w : List (List (Fin p))} {Ap : Option Addr} {cp : Nat} {pv : List Nat} {d : Fin p}
theorem Wk.m (h : Wk base H0 H xb A n c rs w Ap cp pv d) : QRun Try.prog (Instr.loadAt 67 (.pointer (some ⟨xb, 1, none⟩))) H (.slice A n c) := q_ld sc23 (by rw [cellH_blk h.box]; rfl)
theorem Wk.pvs (h : Wk base H0 H xb A n c rs w Ap cp pv d) : QRun Try.prog (Instr.loadAt 31 (.pointer (some ⟨xb, 2, none⟩))) H (.slice Ap pv.length cp) := q_ld sc57 (by rw [cellH_blk h.box]; rfl)
theorem Wk.dt (h : Wk base H0 H xb A n c rs w Ap cp pv d) : QRun Try.prog (Instr.loadAt 22 (.pointer (some ⟨xb, 3, none⟩))) H (.int .u64 (V d)) := q_ld sc22 (by rw [cellH_blk h.box]; rfl)
theorem Wk.len (h : Wk base H0 H xb A n c rs w Ap cp pv d) : w.length = n := by have := h.rw_.len; rwa [ms_length] at this
/-- A row: its place, its slice. -/
theorem Wk.row (h : Wk base H0 H xb A n c rs w Ap cp pv d) {i : Nat} (hi : i < n) : ∃ g, A = some ⟨g, 0, none⟩ ∧ AQ Try.prog (Instr.indexAt 67 (.slice A n c) (.int .i64 i)) (.pointer (some ⟨g, i, none⟩)) ∧ ∃ A' c', rs[i]? = some (.slice A' (rowL w i).length c') ∧ QRun Try.prog (Instr.loadAt 30 (.pointer (some ⟨g, i, none⟩))) H (.slice A' (rowL w i).length c') := by
  obtain ⟨g, h1, h2, A', c', h3, h4, h5⟩ := h.rw_.at hi
  rw [ms_get, vs_length] at h3 h4
  exact ⟨g, h1, h2, A', c', h3, h4⟩
theorem Wk.own (h : Wk base H0 H xb A n c rs w Ap cp pv d) {i : Nat} {A' : Option Addr} {k c' : Nat} (hr : rs[i]? = some (.slice A' k c')) : i < n ∧ k = (rowL w i).length ∧ Own base H 22 1 (.slice A' k c') k (us (vs (rowL w i))) := by
  have hi : i < n := by
    have h1 := (List.getElem?_eq_some_iff.1 hr).1
    have h2 := h.rw_.own.1
    omega
  obtain ⟨g, h1, h2, A1, c1, h3, h4, h5⟩ := h.rw_.at hi
  rw [ms_get, vs_length] at h3 h5
  rw [hr] at h3
  cases h3
  exact ⟨hi, rfl, h5⟩
/-- An entry of a row whose slice is at hand: its place, its value; and what a store there does. -/
theorem Wk.ent (h : Wk base H0 H xb A n c rs w Ap cp pv d) {i : Nat} {A' : Option Addr} {k c' : Nat} (hr : rs[i]? = some (.slice A' k c')) {j : Nat} (hj : j < k) : ∃ g cur, AQ Try.prog (Instr.indexAt 30 (.slice A' k c') (.int .i64 j)) (.pointer (some ⟨g, j, none⟩)) ∧ QRun Try.prog (Instr.loadAt 22 (.pointer (some ⟨g, j, none⟩))) H (.int .u64 (V (en w i j))) ∧
    base ≤ g ∧ H g = some (.cells cur 22 (0, 0)) ∧ j < cur.size ∧ ∀ y : Fin p, Wk base H0 (upd H g (.cells (cur.setIfInBounds j (.int .u64 (V y))) 22 (0, 0))) xb A n c rs (w.set i ((rowL w i).set j y)) Ap cp pv d := by
  obtain ⟨hi, hk, ho⟩ := h.own hr
  obtain ⟨g, cur, e1, e2, e3, e4, e5⟩ := ho.at hj
  have hc : cur[j]? = some (.int .u64 (V (en w i j))) := e5 j _ (by
    unfold us vs en cf
    rw [List.getElem?_map, List.getElem?_map, List.getElem?_eq_getElem (by omega)]
    simp [show j < (rowL w i).length by omega])
  subst e1
  refine ⟨g, cur, aq_own un32 info22 hj, q_ld sc22 (by rw [cellH_blk e3]; exact hc), e2, e3, e4, fun y => ?_⟩
  have hxg : xb ≠ g := fun e => by
    have := h.box
    rw [e, e3] at this
    cases this
  refine ⟨?_, by rw [upd_ne _ hxg]; exact h.box, h.xnew, h.xbase, h.piv.far (h.piv.tag e3 (by decide)) _, h.pnew⟩
  have := h.rw_.set hr rfl e3 j (V y)
  rw [ms_get, vs_set] at this
  unfold ms at this ⊢
  rwa [List.map_set]
/-- The determinant's cell. -/
theorem Wk.setd (h : Wk base H0 H xb A n c rs w Ap cp pv d) {K : Unit → HH → Prop} {y : Fin p} (hk : ∀ H', Wk base H0 H' xb A n c rs w Ap cp pv y → K () H') : HRun Try.prog base (Instr.storeAt 22 (.pointer (some ⟨xb, 3, none⟩)) (.int .u64 (V y))) H K := by
  refine h_st info22 rfl h.box h.xbase (by simp) (hk _ ⟨h.rw_.far h.xnew h.box (by decide) (by decide) _, upd_self _ _ _, h.xnew, h.xbase, h.piv.far (h.piv.tag h.box (by decide)) _, h.pnew⟩)
/-- A pivot is pushed; then it is stored. -/
theorem Wk.push (h : Wk base H0 H xb A n c rs w Ap cp pv d) (hl : pv.length ≤ 1000) {k : Nat} {K : HH → Prop} (hk : ∀ H' A' c', Wk base H0 H' xb A n c rs w A' c' (pv ++ [k]) d → K H') {ty : Nat} :
    HRun Try.prog base (Instr.buildSlice 31 1 #[(0, .int .i64 ((k : Nat) : Int))]) H fun v1 H1 => ∃ (A1 : Option Addr) (l c1 : Nat), v1 = .slice A1 l c1 ∧ HRun Try.prog base (Builtin.append_ #[31, 31] ty #[.slice Ap pv.length cp, .slice A1 l c1]) H1 fun v2 H2 => ∃ (A' : Option Addr) (l' c' : Nat), v2 = .slice A' l' c' ∧ ∃ a : Addr, AQ Try.prog (Instr.fieldAt 80 (.pointer (some ⟨xb, 0, none⟩)) 2) (.pointer (some a)) ∧ HRun Try.prog base (Instr.storeAt 31 (.pointer (some a)) (.slice A' l' c')) H2 fun _ H3 => K H3 := by
  refine h_push un57 inf3 rfl (by decide) rfl h.piv (by omega) (fun A3 c3 H3 ho3 g3 => ⟨_, fld2 xb, ?_⟩)
  have hne : (Value.slice Ap pv.length cp).ownBlock ≠ some xb := h.piv.tag h.box (by decide)
  have hb3 := g3.keep xb _ hne h.box
  have hr3 := h.rw_.keep (T := 3) (by decide) (by decide) h.pnew (fun b hb => by obtain ⟨_, cur, hc⟩ := h.piv.known hb; exact ⟨cur, hc⟩) g3
  refine h_st info57 rfl hb3 h.xbase (by simp) (hk _ A3 c3 ⟨hr3.far h.xnew hb3 (by decide) (by decide) _, ?_, h.xnew, h.xbase, ?_, fun b hb => ?_⟩)
  · rw [upd_self]; simp
  · have := ho3.far (ho3.tag hb3 (by decide)) (Obj.cells (#[.int .u64 p, .slice A n c, .slice Ap pv.length cp, .int .u64 (V d)].setIfInBounds 2 (.slice A3 (pv.length + 1) c3)) 80 (0, 0))
    simpa [ns] using this
  · rcases g3.at_ with e | e
    · refine h.pnew b ?_
      rw [← e]; simpa using hb
    · exact h.rw_.ext.none (e b (by simpa using hb))
end
end Go.Proofs.Ytbogcgkeabkliac.HL
end
section
set_option linter.unusedVariables false
set_option linter.unusedSimpArgs false
set_option linter.unusedSectionVars false
namespace Go.Proofs.Ytbogcgkeabkliac.HL
open Go Go.Proofs.YtbogcgkeabkliacNum Go.Proofs.Ytbogcgkeabkliac.FEv
section
variable {base : Nat} {H0 H : HH} {A : Option Addr} {n c : Nat} {rs : List Value} {w : List (List Int)}
theorem set_two {α : Type} {l : List α} {i r : Nat} {a b : α} (hi : l[i]? = some a) (hr : l[r]? = some b) (k : Nat) : ((l.set i b).set r a)[k]? = if k = r then some a else if k = i then some b else l[k]? := by
  have h1 := (List.getElem?_eq_some_iff.1 hi).1
  have h2 := (List.getElem?_eq_some_iff.1 hr).1
  rw [List.getElem?_set, List.length_set, List.getElem?_set]
  by_cases e : k = r
  · subst e; simp [h2]
  · rw [if_neg (fun e' => e e'.symm), if_neg e]
    by_cases e2 : k = i
    · subst e2; simp [h1]
    · rw [if_neg (fun e' => e2 e'.symm), if_neg e2]
/-- Rows i and r change places: two stores in the rows' row. -/
theorem Rows.swap (h : Rows base H0 H A n c rs w) {i r : Nat} {v v' : Value} {l l' : List Int} (hi : rs[i]? = some v) (hr : rs[r]? = some v') (hl : w[i]? = some l) (hl' : w[r]? = some l') {g : Nat} (hA : A = some ⟨g, 0, none⟩) {cur : Array Value} (hg : H g = some (.cells cur 30 (0, 0))) :
    Rows base H0 (upd (upd H g (.cells (cur.setIfInBounds i v') 30 (0, 0))) g (.cells ((cur.setIfInBounds i v').setIfInBounds r v) 30 (0, 0))) A n c ((rs.set i v').set r v) ((w.set i l').set r l) := by
  subst hA
  have hb : (Value.slice (some ⟨g, 0, none⟩) n c).ownBlock = some g := by simp [Value.ownBlock]
  have hn : H0 g = none := h.fo g hb
  have hr2 := set_two hi hr
  have hw2 := set_two hl hl'
  refine ⟨fun b o hx => ?_, ?_, h.fo, by rw [List.length_set, List.length_set]; exact h.len, fun k x hx => ?_, fun a b x y hx hy hab => ?_⟩
  · have e : b ≠ g := fun e => by rw [e, hn] at hx; cases hx
    rw [upd_ne _ e, upd_ne _ e]; exact h.ext b o hx
  · have h1 := h.own.put hb hg i v'
    exact h1.put hb (upd_self _ _ _) r v
  · have key : ∃ A' c', ((rs.set i v').set r v)[k]? = some (.slice A' x.length c') ∧ Own base H 22 1 (.slice A' x.length c') x.length (us x) ∧ Fresh H0 (.slice A' x.length c') := by
      rw [hw2] at hx
      rw [hr2]
      by_cases e : k = r
      · rw [if_pos e] at hx ⊢
        cases hx
        obtain ⟨A1, c1, h1, h2⟩ := h.rows i l hl
        rw [hi] at h1
        exact ⟨A1, c1, h1, h2⟩
      · rw [if_neg e] at hx ⊢
        by_cases e2 : k = i
        · rw [if_pos e2] at hx ⊢
          cases hx
          obtain ⟨A1, c1, h1, h2⟩ := h.rows r l' hl'
          rw [hr] at h1
          exact ⟨A1, c1, h1, h2⟩
        · rw [if_neg e2] at hx ⊢
          exact h.rows k x hx
    obtain ⟨A1, c1, h1, h2, h3⟩ := key
    exact ⟨A1, c1, h1, (h2.far (h2.tag hg (by decide)) _).far (h2.tag hg (by decide)) _, h3⟩
  · rw [hr2] at hx hy
    have pick : ∀ (k : Nat) (u : Value), (if k = r then some v else if k = i then some v' else rs[k]?) = some u → rs[if k = r then i else if k = i then r else k]? = some u := by
      intro k u hu
      by_cases e : k = r
      · rw [if_pos e] at hu ⊢; rw [hi]; exact hu
      · rw [if_neg e] at hu ⊢
        by_cases e2 : k = i
        · rw [if_pos e2] at hu ⊢; rw [hr]; exact hu
        · rw [if_neg e2] at hu ⊢; exact hu
    refine h.dist _ _ x y (pick a x hx) (pick b y hy) ?_
    repeat' split
    all_goals omega
end
end Go.Proofs.Ytbogcgkeabkliac.HL
end
section
set_option linter.unusedVariables false
set_option linter.unusedSimpArgs false
set_option linter.unusedSectionVars false
namespace Go.Proofs.Ytbogcgkeabkliac.HL
open Go Go.Proofs.YtbogcgkeabkliacNum Go.Proofs.Ytbogcgkeabkliac.FEv
theorem aq_worked (x : Int) (A : Option Addr) (n c : Nat) (d : Int) : AQ Try.prog (Instr.build 80 #[(0, (.int .u64 x)), (1, (.slice A n c)), (3, (.int .u64 d))]) (.agg #[(.int .u64 x), (.slice A n c), (.slice none 0 0), (.int .u64 d)]) := fun W => by
  kernel_rfl
section
variable {p : Nat} [NeZero p]
/-- The first j rows are cloned. -/
structure Half (base : Nat) (H0 H : HH) (xb : Nat) (A : Option Addr) (n c : Nat) (rs rs0 : List Value) (m : List (List (Fin p))) (j : Nat) : Prop where
  ext : Ext H0 H
  own : Own base H 30 1 (.slice A n c) n rs
  fo : Fresh H0 (.slice A n c)
  box : H xb = some (.cells #[.int .u64 p, .slice A n c, .slice none 0 0, .int .u64 1] 80 (0, 0))
  xnew : H0 xb = none
  xbase : base ≤ xb
  rows : ∀ (i : Nat) (l : List (Fin p)), i < j → m[i]? = some l → ∃ A' c', rs[i]? = some (.slice A' l.length c') ∧ Own base H 22 1 (.slice A' l.length c') l.length (us (vs l)) ∧ Fresh H0 (.slice A' l.length c')
  old : ∀ i, j ≤ i → rs[i]? = rs0[i]?
  dist : ∀ (a b : Nat) (v v' : Value), a < j → b < j → rs[a]? = some v → rs[b]? = some v' → a ≠ b → ∀ k, v.ownBlock = some k → v'.ownBlock ≠ some k
variable {base : Nat} {H0 H : HH} {xb n c : Nat} {A : Option Addr} {rs rs0 : List Value} {m : List (List (Fin p))} {j : Nat}
theorem Half.done (hp : Sup p) (h : Half base H0 H xb A n c rs rs0 m n) (hn : m.length = n) : Wk base H0 H xb A n c rs m none 0 [] 1 where
  rw_ := ⟨h.ext, h.own, h.fo, by rw [ms_length]; exact hn, fun i l hl => by
    unfold ms at hl
    rw [List.getElem?_map] at hl
    obtain ⟨l', h1, rfl⟩ := Option.map_eq_some_iff.1 hl
    have := (List.getElem?_eq_some_iff.1 h1).1
    obtain ⟨A', c', h2, h3, h4⟩ := h.rows i l' (by omega) h1
    exact ⟨A', c', by rw [vs_length]; exact h2, by rw [vs_length]; exact h3, by rw [vs_length]; exact h4⟩, fun a b v v' ha hb hab => by
    have h1 := (List.getElem?_eq_some_iff.1 ha).1
    have h2 := (List.getElem?_eq_some_iff.1 hb).1
    have h3 := h.own.1
    exact h.dist a b v v' (by omega) (by omega) ha hb hab⟩
  box := by rw [V_one hp]; exact h.box
  xnew := h.xnew
  xbase := h.xbase
  piv := Own.nil _ _ _ _
  pnew := fun b hb => by simp [Value.ownBlock] at hb
/-- The j-th row is cloned into H', then stored. -/
theorem Half.step (h : Half base H0 H xb A n c rs rs0 m j) (hj : j < n) {l : List (Fin p)} (hl : m[j]? = some l) {H' : HH} (he : Ext H H') {A' : Option Addr} {c' : Nat} (ho : Own base H' 22 1 (.slice A' l.length c') l.length (us (vs l))) (hf : Fresh H (.slice A' l.length c')) :
    ∃ g cur, A = some ⟨g, 0, none⟩ ∧ base ≤ g ∧ H' g = some (.cells cur 30 (0, 0)) ∧ j < cur.size ∧ Half base H0 (upd H' g (.cells (cur.setIfInBounds j (.slice A' l.length c')) 30 (0, 0))) xb A n c (rs.set j (.slice A' l.length c')) rs0 m (j + 1) := by
  obtain ⟨g, cur, rfl, h1, h2, h3, h4⟩ := (h.own.ext he).at hj
  have hb : (Value.slice (some ⟨g, 0, none⟩) n c).ownBlock = some g := by simp [Value.ownBlock]
  have hn : H0 g = none := h.fo g hb
  have hjl : j < rs.length := by have := h.own.1; omega
  have hxg : xb ≠ g := fun e => by
    have := he _ _ h.box
    rw [e, h2] at this
    cases this
  have old : ∀ i u, i < j → (rs.set j (.slice A' l.length c'))[i]? = some u → rs[i]? = some u := fun i u hi hu => by rwa [List.getElem?_set, if_neg (by omega)] at hu
  have new : ∀ u, (rs.set j (.slice A' l.length c'))[j]? = some u → u = .slice A' l.length c' := fun u hu => by
    rw [List.getElem?_set, if_pos rfl, if_pos hjl] at hu
    cases hu; rfl
  have known : ∀ i u, i < j → rs[i]? = some u → ∀ k, u.ownBlock = some k → H k ≠ none := fun i u hi hu k hk => by
    have hi' : i < m.length := by have := (List.getElem?_eq_some_iff.1 hl).1; omega
    obtain ⟨A1, c1, h5, h6, _⟩ := h.rows i _ hi (List.getElem?_eq_getElem hi')
    rw [hu] at h5
    cases h5
    obtain ⟨_, cur1, h7⟩ := h6.known hk
    rw [h7]; simp
  refine ⟨g, cur, rfl, h1, h2, h3, ?_⟩
  refine ⟨fun b o hx => ?_, (h.own.ext he).put hb h2 j _, h.fo, by rw [upd_ne _ hxg]; exact he _ _ h.box, h.xnew, h.xbase, fun i x hi hx => ?_, fun i hi => ?_, fun a b v v' ha hb2 hva hvb hab k hk => ?_⟩
  · rw [upd_ne _ (fun e => by rw [e, hn] at hx; cases hx)]; exact he b o (h.ext b o hx)
  · by_cases e : i = j
    · subst e
      rw [hl] at hx
      cases hx
      exact ⟨A', c', by rw [List.getElem?_set, if_pos rfl, if_pos hjl], ho.far (ho.tag h2 (by decide)) _, fun b hb => h.ext.none (hf b hb)⟩
    · obtain ⟨A1, c1, h5, h6, h7⟩ := h.rows i x (by omega) hx
      have h8 := h6.ext he
      exact ⟨A1, c1, by rw [List.getElem?_set, if_neg (by omega)]; exact h5, h8.far (h8.tag h2 (by decide)) _, h7⟩
  · rw [List.getElem?_set, if_neg (by omega)]; exact h.old i (by omega)
  · by_cases e : a = j
    · subst e
      have := new v hva
      subst this
      have h5 := old b v' (by omega) hvb
      exact fun hk' => known b v' (by omega) h5 k hk' (hf k hk)
    · have h5 := old a v (by omega) hva
      by_cases e2 : b = j
      · subst e2
        have := new v' hvb
        subst this
        exact fun hk' => known a v (by omega) h5 k hk (hf k hk')
      · exact h.dist a b v v' (by omega) (by omega) h5 (old b v' (by omega) hvb) hab k hk
end
end Go.Proofs.Ytbogcgkeabkliac.HL
end
section
set_option linter.unusedVariables false
set_option linter.unusedSimpArgs false
set_option linter.unusedSectionVars false
set_option maxHeartbeats 1000000
namespace Go.Proofs.Ytbogcgkeabkliac.HL
open Go Go.Proofs.YtbogcgkeabkliacNum Go.Proofs.Ytbogcgkeabkliac.FEv
section
variable {p : Nat} [NeZero p] {base : Nat} {H0 H : HH} {K : Value → HH → Prop} {xb n c : Nat} {A : Option Addr} {rs : List Value} {w : List (List (Fin p))} {Ap : Option Addr} {cp : Nat} {pv : List Nat} {d : Fin p}
theorem set_same {i : Nat} (hi : i < w.length) : w.set i (rowL w i) = w := by
  apply List.ext_getElem?
  intro k
  rw [List.getElem?_set]
  split
  · rename_i e; subst e; simp [hi, rowL_lt hi]
  · rfl
theorem red5 {N1 N4 : Value → HH → Prop} (hp : Sup p) (wk : Wk base H0 H xb A n c rs w Ap cp pv d) {r i : Nat} {Ar Ai : Option Addr} {kr cr ci : Nat} (hr : rs[r]? = some (.slice Ar kr cr)) (hi : rs[i]? = some (.slice Ai kr ci)) (hir : i ≠ r) (k : Fin p) (hkr : kr ≤ 1000) (hn : n ≤ 1000)
    {x10 x11 x47 x48 x187 : Int} {A1 : Option Addr} {l1 c1 : Nat} (hN : ∀ H', Wk base H0 H' xb A n c rs (w.set i (subL (rowL w i) (rowL w r) k kr)) Ap cp pv d → N4 (.int .i64 ((i + 1 : Nat) : Int)) H') :
    matrix_reduce.L5 base N1 N4 p ⟨xb, 0, none⟩ x10 x11 Ai kr ci (V k) x47 x48 A1 l1 c1 x187 i Ar kr cr kr 0 H K := by
  unfold matrix_reduce.L5
  intros
  obtain ⟨hrn, ekr, _⟩ := wk.own hr
  obtain ⟨hin, eki, _⟩ := wk.own hi
  have hwn := wk.len
  refine matrix_reduce.loop5 (y215_i := 0) (fun q y H' => ∃ j : Nat, y = j ∧ j ≤ kr ∧ q = kr - j ∧ Wk base H0 H' xb A n c rs (w.set i (subL (rowL w i) (rowL w r) k j)) Ap cp pv d) kr ⟨0, rfl, Nat.zero_le _, by omega, by rw [subL_zero, set_same (by omega)]; exact wk⟩ ?_
  rintro q y g H1 ⟨j, rfl, hj, hq, wk1⟩
  unfold matrix_reduce.B5
  split
  · rename_i e
    have e := of_decide_eq_true e
    have hjk : j < kr := by omega
    have er : rowL (w.set i (subL (rowL w i) (rowL w r) k j)) r = rowL w r := by rw [rowL_set (by omega), if_neg (fun h => hir h.symm)]
    have ei : rowL (w.set i (subL (rowL w i) (rowL w r) k j)) i = subL (rowL w i) (rowL w r) k j := by rw [rowL_set (by omega), if_pos rfl]
    obtain ⟨g1, cur1, a1, a2, _⟩ := wk1.ent hr hjk
    obtain ⟨g2, cur2, b1, b2, b3, b4, b5, b6⟩ := wk1.ent hi hjk
    have v1 : en (w.set i (subL (rowL w i) (rowL w r) k j)) r j = cf (rowL w r) j := by unfold en; rw [er]
    have v2 : en (w.set i (subL (rowL w i) (rowL w r) k j)) i j = cf (rowL w i) j := by
      show cf (rowL (w.set i (subL (rowL w i) (rowL w r) k j)) i) j = _
      rw [ei, cf_subL (by omega), if_neg (Nat.lt_irrefl _)]
    rw [v1] at a2
    rw [v2] at b2
    refine ⟨_, a1, _, a2, _, b1, _, b2, _, h_mul hp _ _ ⟨rfl, rfl⟩, _, h_sub hp _ _ ⟨rfl, rfl⟩, _, b1, h_st info22 rfl b4 b3 b5 ?_⟩
    refine ⟨q - 1, by omega, _, rfl, j + 1, nxt (n := kr) (by omega) (by unfold maxLen; omega), by omega, by omega, ?_⟩
    have := b6 (cf (rowL w i) j - k * cf (rowL w r) j)
    rwa [ei, List.set_set, subL_step (by omega)] at this
  · rename_i e
    have e : ¬ ((j : Int) < (kr : Int)) := fun h => e (decide_eq_true h)
    have : j = kr := by omega
    subst this
    rw [nxt (n := n) hin (by unfold maxLen; omega)]
    exact hN _ wk1
end
end Go.Proofs.Ytbogcgkeabkliac.HL
end
section
set_option linter.unusedVariables false
set_option linter.unusedSimpArgs false
set_option linter.unusedSectionVars false
set_option maxHeartbeats 1000000
namespace Go.Proofs.Ytbogcgkeabkliac.HL
open Go Go.Proofs.YtbogcgkeabkliacNum Go.Proofs.Ytbogcgkeabkliac.FEv
section
variable {p : Nat} [NeZero p] {base : Nat} {H0 H : HH} {K : Value → HH → Prop} {xb n c : Nat} {A : Option Addr} {rs : List Value} {w : List (List (Fin p))} {Ap : Option Addr} {cp : Nat} {pv : List Nat} {d : Fin p}
theorem red4 {N1 : Value → HH → Prop} (hp : Sup p) (wk : Wk base H0 H xb A n c rs w Ap cp pv d) {r q cw : Nat} (hr : r < n) (hrect : ∀ t, t < n → (rowL w t).length = cw) (hq : q < cw) (hcw : cw ≤ 1000) (hn : n ≤ 1000) (hpv : pv.length ≤ 1000)
    {x47 x48 : Int} (hN : ∀ H' A' c', Wk base H0 H' xb A n c rs (stageL r q w n) A' c' (pv ++ [q]) d → N1 (.int .i64 (IntKind.i64.wrap (x48 + 1))) H') :
    matrix_reduce.L4 base N1 p ⟨xb, 0, none⟩ q r x47 x48 A n c n 0 H K := by
  unfold matrix_reduce.L4
  intros
  have hwn := wk.len
  refine matrix_reduce.loop4 (y188_i := 0) (fun k y H' => ∃ i : Nat, y = i ∧ i ≤ n ∧ k = n - i ∧ Wk base H0 H' xb A n c rs (stageL r q w i) Ap cp pv d) n ⟨0, rfl, Nat.zero_le _, by omega, by rw [stageL_zero]; exact wk⟩ ?_
  rintro k y g H1 ⟨i, rfl, hi, hk, wk1⟩
  unfold matrix_reduce.B4
  split
  · rename_i e
    have e := of_decide_eq_true e
    have hin : i < n := by omega
    have ei : rowL (stageL r q w i) i = rowL w i := by rw [rowL_stage (by omega), if_neg (by omega)]
    have er : rowL (stageL r q w i) r = rowL w r := by rw [rowL_stage (by omega), if_neg (by simp)]
    obtain ⟨g1, eA, a1, A1, c1, h1, a2⟩ := wk1.row hin
    rw [ei, hrect i hin] at h1 a2
    have hnx := nxt (n := n) hin (by unfold maxLen; omega)
    refine ⟨_, a1, _, _, _, a2, ?_⟩
    split
    · rename_i e2
      have hir : i ≠ r := fun h => by subst h; simp at e2
      obtain ⟨g2, cur2, b1, b2, _⟩ := wk1.ent h1 (j := q) hq
      have v2 : en (stageL r q w i) i q = en w i q := by unfold en; rw [ei]
      rw [v2] at b2
      refine ⟨_, b1, _, b2, ?_⟩
      split
      · rename_i e3
        have hz : en w i q = 0 := by
          have : V (en w i q) = 0 := by simpa using e3
          exact V_eq_zero.1 this
        exact ⟨k - 1, by omega, _, rfl, i + 1, hnx, by omega, by omega, by rw [stageL_skip (.inr hz)]; exact wk1⟩
      · rename_i e3
        obtain ⟨g3, eA3, d1, A3, c3, h3, d2⟩ := wk1.row hr
        rw [er, hrect r hr] at h3 d2
        refine ⟨_, b1, _, b2, _, fld1 xb, _, _, _, wk1.m, _, d1, _, _, _, d2, ?_⟩
        refine matrix_reduce.at5 (red5 hp wk1 h3 h1 hir (en w i q) hcw hn (fun H' wk2 => ?_))
        rw [ei, er, show cw = (rowL w i).length from (hrect i hin).symm, stageL_set (by omega) hir] at wk2
        exact ⟨k - 1, by omega, _, rfl, i + 1, rfl, by omega, by omega, wk2⟩
    · rename_i e2
      have hir : i = r := by simp at e2; omega
      exact ⟨k - 1, by omega, _, rfl, i + 1, hnx, by omega, by omega, by rw [stageL_skip (.inl hir)]; exact wk1⟩
  · rename_i e
    have e : ¬ ((i : Int) < (n : Int)) := fun h => e (decide_eq_true h)
    have : i = n := by omega
    subst this
    refine ⟨_, fld2 xb, _, _, _, wk1.pvs, ?_⟩
    exact wk1.push hpv (fun H' A' c' wk2 => hN _ _ _ wk2)
end
end Go.Proofs.Ytbogcgkeabkliac.HL
end
section
set_option linter.unusedVariables false
set_option linter.unusedSimpArgs false
set_option linter.unusedSectionVars false
set_option maxHeartbeats 1000000
namespace Go.Proofs.Ytbogcgkeabkliac.HL
open Go Go.Proofs.YtbogcgkeabkliacNum Go.Proofs.Ytbogcgkeabkliac.FEv
section
variable {p : Nat} [NeZero p] {base : Nat} {H0 H : HH} {K : Value → HH → Prop} {xb n c : Nat} {A : Option Addr} {rs : List Value} {w : List (List (Fin p))} {Ap : Option Addr} {cp : Nat} {pv : List Nat} {d : Fin p}
theorem red3 {N1 : Value → HH → Prop} (hp : Sup p) (wk : Wk base H0 H xb A n c rs w Ap cp pv d) {r q cw : Nat} (hr : r < n) (hrect : ∀ t, t < n → (rowL w t).length = cw) (hq : q < cw) (hcw : cw ≤ 1000) (hn : n ≤ 1000) (hpv : pv.length ≤ 1000) (v : Fin p) {Ar : Option Addr} {cr : Nat} (h1 : rs[r]? = some (.slice Ar cw cr))
    {x47 x48 : Int} (hN : ∀ H' A' c', Wk base H0 H' xb A n c rs (stageL r q (w.set r (scaL (rowL w r) v cw)) n) A' c' (pv ++ [q]) d → N1 (.int .i64 (IntKind.i64.wrap (x48 + 1))) H') :
    matrix_reduce.L3 base N1 p ⟨xb, 0, none⟩ q r (V v) x47 x48 Ar cw cr cw 0 H K := by
  unfold matrix_reduce.L3
  intros
  have hwn := wk.len
  have hrr := hrect r hr
  refine matrix_reduce.loop3 (y164_i := 0) (fun k y H' => ∃ j : Nat, y = j ∧ j ≤ cw ∧ k = cw - j ∧ Wk base H0 H' xb A n c rs (w.set r (scaL (rowL w r) v j)) Ap cp pv d) cw ⟨0, rfl, Nat.zero_le _, by omega, by rw [scaL_zero, set_same (by omega)]; exact wk⟩ ?_
  rintro k y g H1 ⟨j, rfl, hj, hk, wk1⟩
  unfold matrix_reduce.B3
  have er : rowL (w.set r (scaL (rowL w r) v j)) r = scaL (rowL w r) v j := by rw [rowL_set (by omega), if_pos rfl]
  split
  · rename_i e
    have e := of_decide_eq_true e
    have hjw : j < cw := by omega
    obtain ⟨g2, cur2, b1, b2, b3, b4, b5, b6⟩ := wk1.ent h1 hjw
    have v2 : en (w.set r (scaL (rowL w r) v j)) r j = cf (rowL w r) j := by
      show cf (rowL (w.set r (scaL (rowL w r) v j)) r) j = _
      rw [er, cf_scaL (by omega), if_neg (Nat.lt_irrefl _)]
    rw [v2] at b2
    obtain ⟨g3, eA3, d1, A3, c3, h3, d2⟩ := wk1.row hr
    rw [er, scaL_length, hrr] at h3 d2
    rw [h1] at h3
    cases h3
    refine ⟨_, b1, _, b2, _, fld1 xb, _, _, _, wk1.m, _, d1, _, _, _, d2, _, h_mul hp _ _ ⟨rfl, rfl⟩, ?_⟩
    refine ⟨_, b1, h_st info22 rfl b4 b3 b5 ?_⟩
    refine ⟨k - 1, by omega, _, rfl, j + 1, nxt (n := cw) (by omega) (by unfold maxLen; omega), by omega, by omega, ?_⟩
    have := b6 (v * cf (rowL w r) j)
    rwa [er, List.set_set, scaL_step (by omega)] at this
  · rename_i e
    have e : ¬ ((j : Int) < (cw : Int)) := fun h => e (decide_eq_true h)
    have : j = cw := by omega
    subst this
    refine ⟨_, fld1 xb, _, _, _, wk1.m, matrix_reduce.at4 (red4 hp wk1 hr (fun t ht => ?_) hq hcw hn hpv hN)⟩
    rw [rowL_set (by omega)]
    split
    · rw [scaL_length]; exact hrr
    · exact hrect t ht
end
end Go.Proofs.Ytbogcgkeabkliac.HL
end
section
set_option linter.unusedVariables false
set_option linter.unusedSimpArgs false
set_option linter.unusedSectionVars false
set_option maxHeartbeats 1000000
set_option maxRecDepth 10000
namespace Go.Proofs.Ytbogcgkeabkliac.HL
open Go Go.Proofs.YtbogcgkeabkliacNum Go.Proofs.Ytbogcgkeabkliac.FEv
section
variable {p : Nat} [NeZero p] {base : Nat} {H0 H : HH} {K : Value → HH → Prop} {xb n c : Nat} {A : Option Addr} {rs : List Value} {w : List (List (Fin p))} {Ap : Option Addr} {cp : Nat} {pv : List Nat} {d : Fin p}
theorem redT1 {N1 : Value → HH → Prop} (hp : Sup p) (wk : Wk base H0 H xb A n c rs w Ap cp pv d) {r q cw : Nat} (hr : r < n) (hrect : ∀ t, t < n → (rowL w t).length = cw) (hq : q < cw) (hcw : cw ≤ 1000) (hn : n ≤ 1000) (hpv : pv.length ≤ 1000) (hne : en w r q ≠ 0)
    {x47 x48 : Int} (hN : ∀ H' A' c', Wk base H0 H' xb A n c rs (stageL r q (w.set r (scaL (rowL w r) (inv (en w r q)) cw)) n) A' c' (pv ++ [q]) (d * en w r q) → N1 (.int .i64 (IntKind.i64.wrap (x48 + 1))) H') :
    matrix_reduce.T1 base N1 p ⟨xb, 0, none⟩ q r x47 x48 H K := by
  unfold matrix_reduce.T1
  intros
  unfold matrix_reduce.S1
  have hrr := hrect r hr
  obtain ⟨g1, eA1, a1, A1, c1, h1, a2⟩ := wk.row hr
  rw [hrr] at h1 a2
  obtain ⟨g2, cur2, b1, b2, _⟩ := wk.ent h1 (j := q) hq
  refine ⟨_, fld3 xb, _, wk.dt, _, fld1 xb, _, _, _, wk.m, _, a1, _, _, _, a2, _, b1, _, b2, _, h_mul hp _ _ ⟨rfl, rfl⟩, _, fld3 xb, wk.setd (fun H1 wk1 => ?_)⟩
  obtain ⟨g3, eA3, d1, A3, c3, h3, d2⟩ := wk1.row hr
  rw [hrr] at h3 d2
  obtain ⟨g4, cur4, e1, e2, _⟩ := wk1.ent h3 (j := q) hq
  refine ⟨_, fld1 xb, _, _, _, wk1.m, _, d1, _, _, _, d2, _, e1, _, e2, h_inv hp hne ⟨_, _, rfl, _, fld1 xb, _, _, _, wk1.m, _, d1, _, _, _, d2, ?_⟩⟩
  exact matrix_reduce.at3 (red3 hp wk1 hr hrect hq hcw hn hpv _ h3 hN)
end
end Go.Proofs.Ytbogcgkeabkliac.HL
end
section
set_option linter.unusedVariables false
set_option linter.unusedSimpArgs false
set_option linter.unusedSectionVars false
set_option maxHeartbeats 1000000
set_option maxRecDepth 10000
namespace Go.Proofs.Ytbogcgkeabkliac.HL
open Go Go.Proofs.YtbogcgkeabkliacNum Go.Proofs.Ytbogcgkeabkliac.FEv
section
variable {p : Nat} [NeZero p] {base : Nat} {H0 H : HH} {K : Value → HH → Prop} {xb n c : Nat} {A : Option Addr} {rs : List Value} {w : List (List (Fin p))} {Ap : Option Addr} {cp : Nat} {pv : List Nat} {d : Fin p}
theorem Wk.swap (h : Wk base H0 H xb A n c rs w Ap cp pv d) {t r : Nat} (ht : t < n) (hr : r < n) {v v' : Value} (hv : rs[t]? = some v) (hv' : rs[r]? = some v') {g : Nat} (hA : A = some ⟨g, 0, none⟩) : ∃ cur, base ≤ g ∧ H g = some (.cells cur 30 (0, 0)) ∧ t < cur.size ∧ r < cur.size ∧
    Wk base H0 (upd (upd H g (.cells (cur.setIfInBounds t v') 30 (0, 0))) g (.cells ((cur.setIfInBounds t v').setIfInBounds r v) 30 (0, 0))) xb A n c ((rs.set t v').set r v) (swapL t r w) Ap cp pv d := by
  obtain ⟨g1, cur, e1, e2, e3, e4, e5⟩ := h.rw_.own.at ht
  obtain ⟨g2, cur2, f1, f2, f3, f4, f5⟩ := h.rw_.own.at hr
  rw [hA] at e1 f1
  cases e1
  cases f1
  rw [e3] at f3
  cases f3
  have hwn := h.len
  have hxg : xb ≠ g := fun e => by
    have := h.box
    rw [e, e3] at this
    cases this
  refine ⟨cur, e2, e3, e4, f4, ?_, by rw [upd_ne _ hxg, upd_ne _ hxg]; exact h.box, h.xnew, h.xbase, (h.piv.far (h.piv.tag e3 (by decide)) _).far (h.piv.tag e3 (by decide)) _, h.pnew⟩
  have hm : ∀ k, k < n → (ms w)[k]? = some (vs (rowL w k)) := fun k hk => by
    unfold ms
    rw [List.getElem?_map, List.getElem?_eq_getElem (by omega), rowL_lt (by omega)]; rfl
  have := h.rw_.swap hv hv' (hm t ht) (hm r hr) hA e3
  unfold swapL ms at *
  rw [List.map_set, List.map_set]
  exact this
theorem redT0 {N1 : Value → HH → Prop} (hp : Sup p) (wk : Wk base H0 H xb A n c rs w Ap cp pv d) {r q cw : Nat} (hrect : ∀ t, t < n → (rowL w t).length = cw) (hq : q < cw) (hcw : cw ≤ 1000) (hn : n ≤ 1000) (hpv : pv.length ≤ 1000)
    {x47 x48 at_ : Int} (h0 : at_ = -1 → N1 (.int .i64 (IntKind.i64.wrap (x48 + 1))) H)
    (h1 : at_ = -1 ∨ ∃ t : Nat, at_ = t ∧ t < n ∧ r < n ∧ en w t q ≠ 0 ∧ ∀ w1 d1, w1 = (if t = r then w else swapL t r w) → d1 = (if t = r then d else - d) → ∀ H' rs' A' c', Wk base H0 H' xb A n c rs' (stageL r q (w1.set r (scaL (rowL w1 r) (inv (en w1 r q)) cw)) n) A' c' (pv ++ [q]) (d1 * en w1 r q) → N1 (.int .i64 (IntKind.i64.wrap (x48 + 1))) H') :
    matrix_reduce.T0 base N1 p ⟨xb, 0, none⟩ q r at_ x47 x48 H K := by
  unfold matrix_reduce.T0
  intros
  unfold matrix_reduce.S0
  have hwn := wk.len
  rcases h1 with h1 | ⟨t, rfl, ht, hr, hne, h1⟩
  · rw [if_pos (decide_eq_true (by omega))]
    exact h0 h1
  · rw [if_neg (by simp)]
    split
    · rename_i e
      have htr : t ≠ r := fun h => by subst h; simp at e
      obtain ⟨g1, eA1, a1, A1, c1, k1, a2⟩ := wk.row hr
      obtain ⟨g2, eA2, b1, A2, c2, k2, b2⟩ := wk.row ht
      rw [eA1] at eA2
      cases eA2
      obtain ⟨cur, s1, s2, s3, s4, wk1⟩ := wk.swap ht hr k2 k1 eA1
      have hxg : xb ≠ g1 := fun e => by
        have := wk.box
        rw [e, s2] at this
        cases this
      refine ⟨_, fld1 xb, _, _, _, wk.m, _, fld1 xb, _, _, _, wk.m, _, fld1 xb, _, _, _, wk.m, _, a1, _, _, _, a2, _, fld1 xb, _, _, _, wk.m, _, b1, _, _, _, b2, _, b1, ?_⟩
      refine h_st info32 rfl s2 s1 s3 ⟨_, a1, h_st info32 rfl (upd_self _ _ _) s1 (by simpa using s4) ⟨_, fld3 xb, _, wk1.dt, h_neg hp _ ⟨_, rfl, _, fld3 xb, wk1.setd (fun H2 wk2 => ?_)⟩⟩⟩
      have hsw : ∀ k, rowL (swapL t r w) k = if k = r then rowL w t else if k = t then rowL w r else rowL w k := fun k => rowL_swapL (by omega) (by omega)
      refine matrix_reduce.cut1 (redT1 hp wk2 hr (fun k hk => ?_) hq hcw hn hpv ?_ (fun H' A' c' wk3 => h1 _ _ (if_neg htr).symm (if_neg htr).symm _ _ _ _ wk3))
      · rw [hsw]
        split
        · exact hrect t ht
        · split
          · exact hrect r hr
          · exact hrect k hk
      · unfold en
        rw [hsw, if_pos rfl]
        exact hne
    · rename_i e
      have htr : t = r := by simp at e; omega
      exact matrix_reduce.cut1 (redT1 hp wk hr hrect hq hcw hn hpv (by rw [← htr]; exact hne) (fun H' A' c' wk3 => h1 _ _ (if_pos htr).symm (if_pos htr).symm _ _ _ _ wk3))
end
end Go.Proofs.Ytbogcgkeabkliac.HL
end
section
set_option linter.unusedVariables false
set_option linter.unusedSimpArgs false
set_option linter.unusedSectionVars false
set_option maxHeartbeats 1000000
set_option maxRecDepth 10000
namespace Go.Proofs.Ytbogcgkeabkliac.HL
open Go Go.Proofs.YtbogcgkeabkliacNum Go.Proofs.Ytbogcgkeabkliac.FEv
section
variable {p : Nat} [NeZero p]
structure Rk (base : Nat) (H0 H : HH) (A : Option Addr) (n c : Nat) (rs : List Value) (w : List (List (Fin p))) (Ap : Option Addr) (cp : Nat) (pv : List Nat) : Prop where
  rw_ : Rows base H0 H A n c rs (ms w)
  piv : Own base H 3 1 (.slice Ap pv.length cp) pv.length (ns pv)
  pnew : Fresh H0 (.slice Ap pv.length cp)
variable {base : Nat} {H0 H : HH} {n c : Nat} {A : Option Addr} {rs : List Value} {w : List (List (Fin p))} {Ap : Option Addr} {cp : Nat} {pv : List Nat}
theorem Rk.len (h : Rk base H0 H A n c rs w Ap cp pv) : w.length = n := by have := h.rw_.len; rwa [ms_length] at this
theorem Rk.row (h : Rk base H0 H A n c rs w Ap cp pv) {i : Nat} (hi : i < n) : ∃ g, A = some ⟨g, 0, none⟩ ∧ AQ Try.prog (Instr.indexAt 67 (.slice A n c) (.int .i64 i)) (.pointer (some ⟨g, i, none⟩)) ∧ ∃ A' c', rs[i]? = some (.slice A' (rowL w i).length c') ∧ QRun Try.prog (Instr.loadAt 30 (.pointer (some ⟨g, i, none⟩))) H (.slice A' (rowL w i).length c') := by
  obtain ⟨g, h1, h2, A', c', h3, h4, h5⟩ := h.rw_.at hi
  rw [ms_get, vs_length] at h3 h4
  exact ⟨g, h1, h2, A', c', h3, h4⟩
theorem Rk.own (h : Rk base H0 H A n c rs w Ap cp pv) {i : Nat} {A' : Option Addr} {k c' : Nat} (hr : rs[i]? = some (.slice A' k c')) : i < n ∧ k = (rowL w i).length ∧ Own base H 22 1 (.slice A' k c') k (us (vs (rowL w i))) := by
  have hi : i < n := by
    have h1 := (List.getElem?_eq_some_iff.1 hr).1
    have h2 := h.rw_.own.1
    omega
  obtain ⟨g, h1, h2, A1, c1, h3, h4, h5⟩ := h.rw_.at hi
  rw [ms_get, vs_length] at h3 h5
  rw [hr] at h3
  cases h3
  exact ⟨hi, rfl, h5⟩
theorem Rk.swap (h : Rk base H0 H A n c rs w Ap cp pv) {t r : Nat} (ht : t < n) (hr : r < n) {v v' : Value} (hv : rs[t]? = some v) (hv' : rs[r]? = some v') {g : Nat} (hA : A = some ⟨g, 0, none⟩) : ∃ cur, base ≤ g ∧ H g = some (.cells cur 30 (0, 0)) ∧ t < cur.size ∧ r < cur.size ∧
    Rk base H0 (upd (upd H g (.cells (cur.setIfInBounds t v') 30 (0, 0))) g (.cells ((cur.setIfInBounds t v').setIfInBounds r v) 30 (0, 0))) A n c ((rs.set t v').set r v) (swapL t r w) Ap cp pv := by
  obtain ⟨g1, cur, e1, e2, e3, e4, e5⟩ := h.rw_.own.at ht
  obtain ⟨g2, cur2, f1, f2, f3, f4, f5⟩ := h.rw_.own.at hr
  rw [hA] at e1 f1
  cases e1
  cases f1
  rw [e3] at f3
  cases f3
  have hwn := h.len
  refine ⟨cur, e2, e3, e4, f4, ?_, (h.piv.far (h.piv.tag e3 (by decide)) _).far (h.piv.tag e3 (by decide)) _, h.pnew⟩
  have hm : ∀ k, k < n → (ms w)[k]? = some (vs (rowL w k)) := fun k hk => by
    unfold ms
    rw [List.getElem?_map, List.getElem?_eq_getElem (by omega), rowL_lt (by omega)]; rfl
  have := h.rw_.swap hv hv' (hm t ht) (hm r hr) hA e3
  unfold swapL ms at *
  rw [List.map_set, List.map_set]
  exact this
end
end Go.Proofs.Ytbogcgkeabkliac.HL
end
namespace Go.Proofs.Ytbogcgkeabkliac.HL
end Go.Proofs.Ytbogcgkeabkliac.HL
section
set_option linter.unusedVariables false
set_option linter.unusedSimpArgs false
set_option linter.unusedSectionVars false
set_option maxHeartbeats 1000000
set_option maxRecDepth 10000
namespace Go.Proofs.Ytbogcgkeabkliac.HL
open Go Go.Proofs.YtbogcgkeabkliacNum Go.Proofs.Ytbogcgkeabkliac.FEv
theorem Rows.nil (base : Nat) (H : HH) : Rows base H H none 0 0 [] [] := ⟨.refl H, Own.nil _ _ _ _, fun b hb => by simp [Value.ownBlock] at hb, rfl, fun i l h => by simp at h, fun i j v v' h => by simp at h⟩
section
end
end Go.Proofs.Ytbogcgkeabkliac.HL
end
section
set_option linter.unusedVariables false
set_option linter.unusedSimpArgs false
set_option linter.unusedSectionVars false
set_option maxHeartbeats 1000000
namespace Go.Proofs.Ytbogcgkeabkliac.HL
open Go Go.Proofs.YtbogcgkeabkliacNum Go.Proofs.Ytbogcgkeabkliac.FEv
section
variable {p : Nat} [NeZero p] {base : Nat} {H : HH} {K : Value → HH → Prop} {A : Option Addr} {n c : Nat}
theorem h_reduce (hp : Sup p) {m : List (List (Fin p))} (h : Mat H A n (ms m)) (hz : Sm m) {cw cols : Nat} (hr : Go.Proofs.YtbogcgkeabkliacNum.Rect cw m) (hcol : cols ≤ cw) (hcw : cw ≤ 1000)
    (hk : ∀ xb H' A' c' rs Ap cp, Wk base H H' xb A' n c' rs (gjL m cols).1 Ap cp (gjL m cols).2.1 (gjL m cols).2.2 → K (.pointer (some ⟨xb, 0, none⟩)) H') :
    HCall Try.prog base 45 #[.int .u64 p, .slice A n c, .int .i64 cols] H K := by
  refine matrix_reduce.spec ?_
  unfold matrix_reduce.sh
  obtain ⟨e1, rs0, hl0, hrd0, hrows0⟩ := h
  rw [ms_length] at e1 hl0
  have hz1 := hz.1
  have hone : ∀ u ∈ rs0, u.oneCell' = true := fun u hu => by
    obtain ⟨i, hi, rfl⟩ := List.getElem_of_mem hu
    obtain ⟨A', c', h1, _⟩ := hrows0 i (vs (rowL m i)) (by unfold ms; rw [List.getElem?_map, List.getElem?_eq_getElem (by omega), rowL_lt (by omega)]; rfl)
    rw [List.getElem?_eq_getElem hi] at h1
    rw [Option.some.inj h1]; rfl
  refine h_clone2 hrd0 (by omega) hone (by omega) (fun A3 c3 H2 ho hE hF => ⟨_, _, _, rfl, _, _, _, _, _, _, _, _, aq_worked _ _ _ _ _, ?_⟩)
  refine h_box (fun xb hxb hbase => ⟨_, rfl, _, fld1 xb, ?_⟩)
  have hx2 : Ext H2 (upd H2 xb (.cells (Value.agg #[.int .u64 p, .slice A3 n c3, .slice none 0 0, .int .u64 1]).cells 80)) := Ext.upd hxb _
  have hbox : (upd H2 xb (.cells (Value.agg #[.int .u64 p, .slice A3 n c3, .slice none 0 0, .int .u64 1]).cells 80)) xb = some (.cells #[.int .u64 p, .slice A3 n c3, .slice none 0 0, .int .u64 1] 80 (0, 0)) := upd_self _ _ _
  refine ⟨_, _, _, q_ld sc23 (by rw [cellH_blk hbox]; rfl), ?_⟩
  have half0 : Half base H (upd H2 xb (.cells (Value.agg #[.int .u64 p, .slice A3 n c3, .slice none 0 0, .int .u64 1]).cells 80)) xb A3 n c3 rs0 rs0 m 0 :=
    ⟨hE.trans hx2, ho.ext hx2, hF, hbox, hE.none hxb, hbase, fun i l hi => absurd hi (Nat.not_lt_zero _), fun i _ => rfl, fun a b v v' ha => absurd ha (Nat.not_lt_zero _)⟩
  refine matrix_reduce.loop0 (fun k y H' => ∃ j : Nat, y = j ∧ j ≤ n ∧ k = n - j ∧ ∃ rs, Half base H H' xb A3 n c3 rs rs0 m j) n ⟨0, rfl, Nat.zero_le _, by omega, rs0, half0⟩ ?_
  rintro k y g H3 ⟨j, rfl, hj, hk', rs, hh⟩
  unfold matrix_reduce.B0
  split
  · rename_i e
    have e := of_decide_eq_true e
    have hjn : j < n := by omega
    obtain ⟨gb, cur, eA, hgb, hcur, hjc, hget⟩ := hh.own.at hjn
    have hl : m[j]? = some (rowL m j) := by rw [List.getElem?_eq_getElem (by omega), rowL_lt (by omega)]
    obtain ⟨A5, c5, h5, h6⟩ := hrows0 j (vs (rowL m j)) (by unfold ms; rw [List.getElem?_map, hl]; rfl)
    rw [vs_length] at h5
    have hq : cur[j]? = some (.slice A5 (rowL m j).length c5) := hget j _ (by rw [hh.old j (Nat.le_refl _)]; exact h5)
    have hqm : QRun Try.prog (Instr.loadAt 67 (.pointer (some ⟨xb, 1, none⟩))) H3 (.slice A3 n c3) := q_ld sc23 (by rw [cellH_blk hh.box]; rfl)
    subst eA
    refine ⟨_, aq_own un23 info32 hjn, _, _, _, q_ld sc32 (by rw [cellH_blk hcur]; exact hq), _, fld1 xb, _, _, _, hqm, ?_⟩
    refine h_clone1 (l := vs (rowL m j)) ⟨by rw [vs_length], h6.ext hh.ext⟩ (by have := hz.row (m := m) (j := j) (by omega); omega) (fun A6 c6 H4 ho4 hE4 hF4 => ⟨_, _, _, rfl, ?_⟩)
    obtain ⟨g2, cur2, eA2, hg2, hcur2, hjc2, hh2⟩ := hh.step hjn hl hE4 ho4 hF4
    cases eA2
    refine ⟨hqm.ext hE4, _, aq_own un23 info32 hjn, h_st info32 rfl hcur2 hg2 hjc2 ?_⟩
    exact ⟨k - 1, by omega, _, rfl, j + 1, nxt (n := n) (by omega) (by unfold maxLen; omega), by omega, by omega, _, hh2⟩
  · rename_i e
    have e : ¬ ((j : Int) < (n : Int)) := fun h => e (decide_eq_true h)
    have : j = n := by omega
    subst this
    have hw := hh.done hp e1.symm
    clear hh half0 hbox hx2
    have hGJ := gj_holds hp.pr m hr
    refine matrix_reduce.loop1 (fun k y H' => ∃ q : Nat, y = q ∧ q ≤ cols ∧ k = cols - q ∧ ∃ rs Ap cp, Wk base H H' xb A3 j c3 rs (gjL m q).1 Ap cp (gjL m q).2.1 (gjL m q).2.2) cols ⟨0, rfl, Nat.zero_le _, by omega, rs, none, 0, hw⟩ ?_
    rintro k1 y g H4 ⟨q, rfl, hq, hk1, rs4, Ap, cp, wk⟩
    unfold matrix_reduce.B1
    split
    · rename_i e2
      have e2 := of_decide_eq_true e2
      have hqc : q < cols := by omega
      refine ⟨_, fld2 xb, _, _, _, wk.pvs, ?_⟩
      have gj := hGJ q
      have hstep : gjL m (q + 1) = stepL q (gjL m q) := rfl
      generalize hS : gjL m q = S at *
      obtain ⟨w, pv, d⟩ := S
      have wk : Wk base H H4 xb A3 j c3 rs4 w Ap cp pv d := wk
      have hwn : w.length = j := wk.len
      have hrow : ∀ t, t < j → (rowL w t).length = cw := fun t ht => gj.rect.row (show t < w.length by omega)
      have hfew : pv.length ≤ j := by have := gj.few; rw [← e1] at this; exact this
      have hnone : findP w q (j - pv.length) pv.length = none → stepL q (w, pv, d) = (w, pv, d) := fun h => by
        unfold stepL
        dsimp only
        rw [hwn, h]
      have hsome : ∀ t, findP w q (j - pv.length) pv.length = some t → stepL q (w, pv, d) = (clearL pv.length q (if t = pv.length then w else swapL t pv.length w), pv ++ [q], (if t = pv.length then d else - d) * en (if t = pv.length then w else swapL t pv.length w) pv.length q) := fun t h => by
        unfold stepL
        dsimp only
        rw [hwn, h]
      have fin : ∀ t, findP w q (j - pv.length) pv.length = some t → t < j → (pv.length < j ∧ en w t q ≠ 0) ∧ ∀ w1 d1, w1 = (if t = pv.length then w else swapL t pv.length w) → d1 = (if t = pv.length then d else - d) → ∀ H' rs' A' c', Wk base H H' xb A3 j c3 rs' (stageL pv.length q (w1.set pv.length (scaL (rowL w1 pv.length) (inv (en w1 pv.length q)) cw)) j) A' c' (pv ++ [q]) (d1 * en w1 pv.length q) → ∃ n', n' < k1 ∧ ∃ (y' : Int), Value.int .i64 (IntKind.i64.wrap ((q : Int) + 1)) = Value.int .i64 y' ∧ ∃ q' : Nat, y' = q' ∧ q' ≤ cols ∧ n' = cols - q' ∧ ∃ rs Ap cp, Wk base H H' xb A3 j c3 rs (gjL m q').1 Ap cp (gjL m q').2.1 (gjL m q').2.2 := by
        intro t hf ht
        obtain ⟨h1, h2, h3, _⟩ := findP_some hf
        refine ⟨⟨by omega, h3⟩, ?_⟩
        rintro w1 d1 hw1 hd1 H' rs' A' c' wk3
        have hr1 : Go.Proofs.YtbogcgkeabkliacNum.Rect cw w1 := by
          rw [hw1]; split
          · exact gj.rect
          · exact Go.Proofs.YtbogcgkeabkliacNum.Rect.swap gj.rect (show t < w.length by omega) (show pv.length < w.length by omega)
        have hl1 : w1.length = j := by
          rw [hw1]; split
          · exact hwn
          · rw [swapL_length]; exact hwn
        have hlr : (rowL w1 pv.length).length = cw := hr1.row (by omega)
        have hsc := stage_clear hr1 (r := pv.length) (k := q) (by omega) (by omega)
        rw [hlr, hl1] at hsc
        refine ⟨k1 - 1, by omega, _, rfl, q + 1, nxt (n := cols) (by omega) (by unfold maxLen; omega), by omega, by omega, rs', A', c', ?_⟩
        rw [hstep, hsome t hf, ← hw1, ← hd1, ← hsc]
        exact wk3
      have fin0 : findP w q (j - pv.length) pv.length = none → ∀ H', H' = H4 → ∃ n', n' < k1 ∧ ∃ (y' : Int), Value.int .i64 (IntKind.i64.wrap ((q : Int) + 1)) = Value.int .i64 y' ∧ ∃ q' : Nat, y' = q' ∧ q' ≤ cols ∧ n' = cols - q' ∧ ∃ rs Ap cp, Wk base H H' xb A3 j c3 rs (gjL m q').1 Ap cp (gjL m q').2.1 (gjL m q').2.2 := by
        rintro hf H' rfl
        refine ⟨k1 - 1, by omega, _, rfl, q + 1, nxt (n := cols) (by omega) (by unfold maxLen; omega), by omega, by omega, rs4, Ap, cp, ?_⟩
        rw [hstep, hnone hf]
        exact wk
      refine matrix_reduce.loop2 (fun k2 y12 y13 H' => H' = H4 ∧ ∃ i : Nat, y13 = i ∧ k2 = j + 1 - i ∧ ((y12 = -1 ∧ findP w q (j - i) i = findP w q (j - pv.length) pv.length) ∨ ∃ t : Nat, y12 = t ∧ t < j ∧ findP w q (j - pv.length) pv.length = some t)) (j + 1 - pv.length) ⟨rfl, pv.length, rfl, rfl, .inl ⟨rfl, rfl⟩⟩ ?_
      rintro k2 y12 y13 g H4' ⟨rfl, i, rfl, hk2, hat⟩
      unfold matrix_reduce.B2
      refine ⟨_, fld1 xb, _, _, _, wk.m, ?_⟩
      split
      · rename_i e3
        have e3 := of_decide_eq_true e3
        have hij : i < j := by omega
        split
        · rename_i e4
          have e4 := of_decide_eq_true e4
          obtain ⟨rfl, hf⟩ : y12 = -1 ∧ findP w q (j - i) i = findP w q (j - pv.length) pv.length := by
            rcases hat with h | ⟨t, h, _⟩
            · exact h
            · omega
          clear hat
          obtain ⟨g1, eA, q1, A5, c5, h5, q2⟩ := wk.row hij
          obtain ⟨g2, cur, q3, q4, _⟩ := wk.ent h5 (j := q) (by rw [hrow i hij]; omega)
          refine ⟨_, fld1 xb, _, _, _, wk.m, _, q1, _, _, _, q2, _, q3, _, q4, ?_⟩
          have hfs : findP w q (j - i) i = if en w i q ≠ 0 then some i else findP w q (j - (i + 1)) (i + 1) := by
            rw [show j - i = (j - (i + 1)) + 1 by omega, findP]
          split
          · rename_i e5
            have hne : en w i q ≠ 0 := fun e => by rw [e, V_zero] at e5; simp at e5
            rw [if_pos hne] at hfs
            exact ⟨k2 - 1, by omega, _, _, rfl, rfl, rfl, i + 1, nxt (n := j) (by omega) (by unfold maxLen; omega), by omega, .inr ⟨i, rfl, hij, by rw [← hf, hfs]⟩⟩
          · rename_i e5
            have heq : en w i q = 0 := by have : V (en w i q) = 0 := by simpa using e5
                                          exact V_eq_zero.1 this
            rw [if_neg (by simp [heq])] at hfs
            exact ⟨k2 - 1, by omega, _, _, rfl, rfl, rfl, i + 1, nxt (n := j) (by omega) (by unfold maxLen; omega), by omega, .inl ⟨rfl, by rw [← hfs, hf]⟩⟩
        · rename_i e4
          refine matrix_reduce.cut0 (redT0 hp wk hrow (by omega) hcw (by omega) (show pv.length ≤ 1000 by omega) (fun h => ?_) ?_)
          · exact absurd (decide_eq_true (by rw [h]; decide)) e4
          · rcases hat with h | ⟨t, h1, h2, h3⟩
            · exact absurd (decide_eq_true (by rw [h.1]; decide)) e4
            · obtain ⟨⟨f1, f2⟩, f3⟩ := fin t h3 h2
              exact .inr ⟨t, h1, h2, f1, f2, f3⟩
      · rename_i e3
        refine matrix_reduce.cut0 (redT0 hp wk hrow (by omega) hcw (by omega) (show pv.length ≤ 1000 by omega) (fun h => ?_) ?_)
        · rcases hat with h1 | ⟨t, h1, h2, h3⟩
          · refine fin0 ?_ _ rfl
            rw [← h1.2, show j - i = 0 by simp at e3; omega]; rfl
          · omega
        · rcases hat with h1 | ⟨t, h1, h2, h3⟩
          · exact .inl h1.1
          · obtain ⟨⟨f1, f2⟩, f3⟩ := fin t h3 h2
            exact .inr ⟨t, h1, h2, f1, f2, f3⟩
    · rename_i e2
      have e2 : ¬ ((q : Int) < (cols : Int)) := fun h => e2 (decide_eq_true h)
      have : q = cols := by omega
      subst this
      exact hk _ _ _ _ _ _ _ wk
end
end Go.Proofs.Ytbogcgkeabkliac.HL
end
section
set_option linter.unusedVariables false
set_option linter.unusedSimpArgs false
set_option linter.unusedSectionVars false
namespace Go.Proofs.Ytbogcgkeabkliac.HL
open Go Go.Proofs.YtbogcgkeabkliacNum Go.Proofs.Ytbogcgkeabkliac.FEv
section
variable {p : Nat} [NeZero p]
def RectM (m : List (List (Fin p))) : Prop := ∀ r ∈ m, r.length = (rowL m 0).length
def colsM (m : List (List (Fin p))) : Nat := (rowL m 0).length
theorem RectM.gj (hp : IsPr p) {m : List (List (Fin p))} (h : RectM m) (k : Nat) : GJ m.length (colsM m) k (en m) (gjL m k).1 (gjL m k).2.1 (gjL m k).2.2 := gj_holds hp m h k
theorem RectM.of {m : List (List (Fin p))} {c : Nat} (h : ∀ i, i < m.length → (rowL m i).length = c) : RectM m := fun r hr => by
  obtain ⟨i, hi, rfl⟩ := List.getElem_of_mem hr
  rw [h 0 (by omega), ← rowL_lt hi, h i hi]
theorem RectM.row {m : List (List (Fin p))} (h : RectM m) {i : Nat} (hi : i < m.length) : (rowL m i).length = colsM m := h _ (by rw [rowL_lt hi]; exact List.getElem_mem hi)
theorem rowL_map {α : Type} {l : List α} {f : α → List (Fin p)} {i : Nat} (hi : i < l.length) : rowL (l.map f) i = f l[i] := by rw [rowL_lt (by simpa using hi)]; simp
theorem rowL_range {n : Nat} {f : Nat → List (Fin p)} {i : Nat} (hi : i < n) : rowL ((List.range n).map f) i = f i := by rw [rowL_map (by simpa using hi)]; simp
theorem vec_ext {a b : List (Fin p)} (h1 : a.length = b.length) (h3 : ∀ j, j < a.length → cf a j = cf b j) : a = b := cf_ext h1 (fun j => by
  by_cases hj : j < a.length
  · exact h3 j hj
  · rw [cf_ge (by omega), cf_ge (by omega)])
def wideB (m : List (List (Fin p))) (b : List (Fin p)) : List (List (Fin p)) := (List.range m.length).map fun i => rowL m i ++ [cf b i]
def solG (m : List (List (Fin p))) (b : List (Fin p)) : List (List (Fin p)) × List Nat × Fin p := gjL (wideB m b) (colsM m)
def noSol (m : List (List (Fin p))) (b : List (Fin p)) : Prop := ∃ i, (solG m b).2.1.length ≤ i ∧ i < m.length ∧ en (solG m b).1 i (colsM m) ≠ 0
def solL (m : List (List (Fin p))) (b : List (Fin p)) : List (Fin p) := (List.range (colsM m)).map fun j => solX (en (solG m b).1) (solG m b).2.1 (colsM m) j
@[simp] theorem wide_length (m : List (List (Fin p))) (b : List (Fin p)) : (wideB m b).length = m.length := by simp [wideB]
theorem cf_app (a b : List (Fin p)) (j : Nat) : cf (a ++ b) j = if j < a.length then cf a j else cf b (j - a.length) := by
  unfold cf
  rw [List.getD_eq_getElem?_getD, List.getElem?_append]
  split <;> simp [List.getD_eq_getElem?_getD]
theorem wide_row {m : List (List (Fin p))} {b : List (Fin p)} {i : Nat} (hi : i < m.length) : rowL (wideB m b) i = rowL m i ++ [cf b i] := rowL_range hi
theorem wide_rect {m : List (List (Fin p))} (h : RectM m) (b : List (Fin p)) : Go.Proofs.YtbogcgkeabkliacNum.Rect (colsM m + 1) (wideB m b) := Go.Proofs.YtbogcgkeabkliacNum.Rect.of (fun i hi => by
  rw [wide_length] at hi
  rw [wide_row hi, List.length_append, h.row hi]; rfl)
theorem wide_en {m : List (List (Fin p))} (h : RectM m) (b : List (Fin p)) {i j : Nat} (hi : i < m.length) (hj : j < colsM m) : en (wideB m b) i j = en m i j := by
  show cf (rowL (wideB m b) i) j = _
  rw [wide_row hi, cf_app, if_pos (by rw [h.row hi]; exact hj)]; rfl
theorem wide_last {m : List (List (Fin p))} (h : RectM m) (b : List (Fin p)) {i : Nat} (hi : i < m.length) : en (wideB m b) i (colsM m) = cf b i := by
  show cf (rowL (wideB m b) i) _ = _
  rw [wide_row hi, cf_app, if_neg (by rw [h.row hi]; omega), h.row hi, Nat.sub_self]
  exact cf_cons_zero _ _
theorem sol_gj (hp : IsPr p) {m : List (List (Fin p))} (h : RectM m) (b : List (Fin p)) : GJ m.length (colsM m + 1) (colsM m) (en (wideB m b)) (solG m b).1 (solG m b).2.1 (solG m b).2.2 := by
  have := gj_holds hp (wideB m b) (wide_rect h b) (colsM m)
  rwa [wide_length] at this
@[simp] theorem sol_length (m : List (List (Fin p))) (b : List (Fin p)) : (solL m b).length = colsM m := by simp [solL]
theorem sol_ok (hp : IsPr p) {m : List (List (Fin p))} (h : RectM m) {b : List (Fin p)} (hb : b.length = m.length) (hn : ¬ noSol m b) : m.map (fun r => dotL r (solL m b)) = b := by
  have hs := (sol_gj hp h b).solves hp (fun i h1 h2 => by
    by_cases e : en (solG m b).1 i (colsM m) = 0
    · exact e
    · exact absurd ⟨i, h1, h2, e⟩ hn)
  refine vec_ext (by simp [hb]) (fun i hi => ?_)
  have hi : i < m.length := by simpa using hi
  have := hs i hi
  rw [wide_last h b hi] at this
  rw [← this, cf_lt (by simpa using hi), List.getElem_map, ← rowL_lt hi]
  unfold dotL
  rw [h.row hi]
  refine sumF_congr (fun j hj => ?_)
  rw [wide_en h b hi hj]
  unfold solL
  rw [cf_map_range, if_pos hj]; rfl
theorem sol_some (hp : IsPr p) {m : List (List (Fin p))} (h : RectM m) {b : List (Fin p)} (v : Nat → Fin p) (hv : ∀ i, i < m.length → sumF (colsM m) (fun j => en m i j * v j) = cf b i) : ¬ noSol m b := by
  rintro ⟨i, h1, h2, h3⟩
  obtain ⟨y, y1, y2⟩ := (sol_gj hp h b).witness hp h1 h2 h3
  have e1 : sumF m.length (fun l => y l * cf b l) = 1 := by
    rw [← y2]
    exact sumF_congr (fun l hl => by rw [wide_last h b hl])
  have e2 : sumF m.length (fun l => y l * cf b l) = 0 := by
    rw [sumF_congr (g := fun l => sumF (colsM m) (fun j => y l * (en m l j * v j))) (fun l hl => by rw [← hv l hl, sumF_mul]), sumF_comm]
    rw [sumF_congr (g := fun _ => 0) (fun j hj => ?_), sumF_zero]
    rw [sumF_congr (g := fun l => v j * (y l * en m l j)) (fun l _ => by grind), sumF_mul]
    have := y1 j hj
    rw [sumF_congr (g := fun l => y l * en m l j) (fun l hl => by rw [wide_en h b hl hj])] at this
    rw [this]; grind
  exact one_ne hp (e1.symm.trans e2)
end
end Go.Proofs.Ytbogcgkeabkliac.HL
end
section
set_option linter.unusedVariables false
set_option linter.unusedSimpArgs false
set_option linter.unusedSectionVars false
set_option maxHeartbeats 1000000
namespace Go.Proofs.Ytbogcgkeabkliac.HL
open Go Go.Proofs.YtbogcgkeabkliacNum Go.Proofs.Ytbogcgkeabkliac.FEv
theorem aq_from {P : Program} {t e sz : Nat} (ht : P.underlying t = some (.slice e)) (hs : (P.info? e).map (·.size) = some sz) {A : Option Addr} {n c k : Nat} {kd : IntKind} (hk : k ≤ n) :
    AQ P (Instr.sliceAt t (.slice A n c) (some (.int kd k)) none none) (.slice (if c = k then A else A.map (·.add (k * sz))) (n - k) (c - k)) := fun W => by
  have he : P.elem t = e := by unfold Program.elem; rw [ht]
  have h := run_slice_l W t A n c (he.symm ▸ ht) kd k (by omega) (by omega)
  rw [run_sliceAt_slice W t _ _ _ _ (he.symm ▸ ht), h, he, run_sz hs]
  simp [Result.andThen, sliced]
theorem Rd.drop {H : HH} {A : Option Addr} {xs : List Value} (h : Rd H A xs) {c k : Nat} (hc : xs.length ≤ c) : Rd H (if c = k then A else A.map (·.add (k * 1))) (xs.drop k) := by
  rcases Nat.lt_or_ge k xs.length with hk | hk
  · rcases h with e | ⟨ad, rfl, hc'⟩
    · rw [e] at hk; simp at hk
    · rw [if_neg (by omega)]
      refine .inr ⟨_, rfl, fun i u hu => ?_⟩
      rw [List.getElem?_drop] at hu
      have := hc' _ u hu
      rw [Nat.mul_one]
      have e : (ad.add k).add i = ad.add (k + i) := by unfold Addr.add; split <;> split <;> simp_all [Nat.add_assoc]
      rw [e]; exact this
  · rw [List.drop_eq_nil_of_le hk]; exact .inl rfl
theorem Row.drop {H : HH} {A : Option Addr} {n c k : Nat} {l : List Int} (h : Row H A n l) (hc : n ≤ c) : Row H (if c = k then A else A.map (·.add (k * 1))) (n - k) (l.drop k) := by
  refine ⟨by rw [List.length_drop, h.1], ?_⟩
  have := h.2.drop (c := c) (k := k) (by rw [us_length, ← h.1]; exact hc)
  unfold us at this ⊢
  rwa [List.map_drop]
theorem Mat.drop {H : HH} {A : Option Addr} {n c k : Nat} {m : List (List Int)} (h : Mat H A n m) (hc : n ≤ c) : Mat H (if c = k then A else A.map (·.add (k * 1))) (n - k) (m.drop k) := by
  obtain ⟨e, rs, h2, h3, h4⟩ := h
  refine ⟨by rw [List.length_drop, e], rs.drop k, by simp [h2], h3.drop (by omega), fun i l hl => ?_⟩
  rw [List.getElem?_drop] at hl ⊢
  exact h4 _ l hl
section
variable {p : Nat} [NeZero p] {base : Nat} {H H0 : HH} {K : Value → HH → Prop} {A A' Ap : Option Addr} {n n' c c' cp xb : Nat} {rs : List Value} {w : List (List (Fin p))} {pv : List Nat} {d : Fin p}
theorem zeros_us (q : Nat) : Array.replicate q (Value.int .u64 0) = (us (vs (List.replicate q (0 : Fin p)))).toArray := by
  apply Array.ext'
  rw [Array.toList_replicate]
  unfold us vs
  rw [List.map_replicate, List.map_replicate, V_zero]
theorem h_zeros {q : Nat} (hq : q ≤ 1000) {k1 k2 : IntKind} (h : ∀ b H', base ≤ b → Own base H' 22 1 (.slice (some ⟨b, 0, none⟩) q q) q (us (vs (List.replicate q (0 : Fin p)))) → Frz H H' (.slice (some ⟨b, 0, none⟩) q q) → K (.slice (some ⟨b, 0, none⟩) q q) H') :
    HRun Try.prog base (Instr.makeSlice 30 (.int k1 q) (.int k2 q)) H K := by
  refine h_make un32 inf22 (by omega) (by omega) (by omega) (fun gb hgb hbase => ?_)
  rw [Int.toNat_natCast, Nat.mul_one, show (Value.int IntKind.u64 0).cells = #[.int .u64 0] from rfl, made1, zeros_us (p := p)]
  refine h gb _ hbase (Own.lit (H := H) (T := 22) (sz := 1) hbase _ q (by unfold maxLen; omega) (by simp)) ⟨Ext.upd hgb _, fun b' hb' => ?_⟩
  have e : gb = b' := by simpa [Value.ownBlock] using hb'
  rw [← e]; exact hgb
theorem h_put {b q c : Nat} {l : List (Fin p)} {F : HH} (ho : Own base H 22 1 (.slice (some ⟨b, 0, none⟩) q c) q (us (vs l))) (hf : Frz F H (.slice (some ⟨b, 0, none⟩) q c)) {j : Nat} (hj : j < q) {x : Fin p} {K : Unit → HH → Prop}
    (hk : ∀ H', Own base H' 22 1 (.slice (some ⟨b, 0, none⟩) q c) q (us (vs (l.set j x))) → Frz F H' (.slice (some ⟨b, 0, none⟩) q c) → K () H') : HRun Try.prog base (Instr.storeAt 22 (.pointer (some ⟨b, j, none⟩)) (.int .u64 (V x))) H K := by
  obtain ⟨g, cur, e1, e2, e3, e4, e5⟩ := ho.at hj
  cases e1
  have hb : (Value.slice (some ⟨b, 0, none⟩) q c).ownBlock = some b := by simp [Value.ownBlock]
  refine h_st info22 rfl e3 e2 e4 (hk _ ?_ (hf.upd (hf.off b hb) _))
  have := ho.put hb e3 j (.int .u64 (V x))
  rwa [us_set, vs_set] at this
theorem Wk.mat (h : Wk base H0 H xb A n c rs w Ap cp pv d) : Mat H A n (ms w) := h.rw_.mat
theorem Own.le {H : HH} {T sz n c : Nat} {A : Option Addr} {xs : List Value} (h : Own base H T sz (.slice A n c) n xs) : n ≤ c := by
  obtain ⟨A', c', e, h1, _⟩ := h.slice
  cases e; exact h1
def Piv (H : HH) (Ap : Option Addr) (pv : List Nat) : Prop := Rd H Ap (ns pv)
theorem own_piv {cp : Nat} (h : Own base H 3 1 (.slice Ap pv.length cp) pv.length (ns pv)) : Piv H Ap pv := by
  obtain ⟨A', c', e, _, h1⟩ := h.slice
  cases e; exact h1
theorem Piv.at (h : Piv H Ap pv) (cp : Nat) {j : Nat} (hj : j < pv.length) : ∃ a, AQ Try.prog (Instr.indexAt 31 (.slice Ap pv.length cp) (.int .i64 j)) (.pointer (some a)) ∧ QRun Try.prog (Instr.loadAt 3 (.pointer (some a))) H (.int .i64 ((pv.getD j 0 : Nat) : Int)) := by
  obtain ⟨ad, rfl, hc⟩ := Rd.at h (i := j) (u := .int .i64 ((pv.getD j 0 : Nat) : Int)) (by simp [ns, hj])
  refine ⟨_, aq_ix un57 info3 (by omega) (by omega), q_ld sc3 ?_⟩
  rw [Int.toNat_natCast, Nat.mul_one]; exact hc
theorem rectB_iff {m : List (List (Fin p))} : rectB (ms m) = true ↔ RectM m := rectB_ms
end
end Go.Proofs.Ytbogcgkeabkliac.HL
end
section
set_option linter.unusedVariables false
set_option linter.unusedSimpArgs false
set_option linter.unusedSectionVars false
set_option maxHeartbeats 1000000
namespace Go.Proofs.Ytbogcgkeabkliac.HL
open Go Go.Proofs.YtbogcgkeabkliacNum Go.Proofs.Ytbogcgkeabkliac.FEv
section
variable {p : Nat} [NeZero p]
/-- The solution after the first t pivots. -/
def outS (w : List (List (Fin p))) (pv : List Nat) (c t : Nat) : List (Fin p) := (List.range c).map fun x => sumF t fun t => if x = pv.getD t 0 then en w t c else 0
theorem outS_zero (w : List (List (Fin p))) (pv : List Nat) (c : Nat) : outS w pv c 0 = List.replicate c 0 := by
  unfold outS sumF
  apply List.ext_getElem?
  intro i
  rw [List.getElem?_map, List.getElem?_replicate]
  by_cases h : i < c
  · rw [List.getElem?_range h, if_pos h]; rfl
  · rw [List.getElem?_eq_none (by simpa using h), if_neg h]; rfl
theorem outS_step {w : List (List (Fin p))} {pv : List Nat} {c t : Nat} (hc : pv.getD t 0 < c) (hd : ∀ u, u < t → pv.getD u 0 ≠ pv.getD t 0) : (outS w pv c t).set (pv.getD t 0) (en w t c) = outS w pv c (t + 1) := by
  unfold outS
  refine set_range _ _ hc _ ?_ (fun x _ hx => ?_)
  · show sumF t _ + (if pv.getD t 0 = pv.getD t 0 then en w t c else 0) = _
    rw [if_pos rfl, sumF_congr (g := fun _ => 0) (fun u hu => by rw [if_neg (fun e => hd u hu e.symm)]), sumF_zero]
    grind
  · show sumF t _ + (if x = pv.getD t 0 then en w t c else 0) = _
    rw [if_neg hx]
    grind
theorem outS_full (m : List (List (Fin p))) (b : List (Fin p)) : outS (solG m b).1 (solG m b).2.1 (colsM m) (solG m b).2.1.length = solL m b := rfl
theorem wide_sm {m : List (List (Fin p))} (hr : RectM m) (hz : Sm m) (hq : colsM m ≤ 900) (b : List (Fin p)) : Sm (wideB m b) := ⟨by rw [wide_length]; exact hz.1, fun r h => by rw [wide_rect hr b r h]; omega⟩
theorem rowL_dropM (w : List (List (Fin p))) (k j : Nat) : rowL (w.drop k) j = rowL w (k + j) := by
  unfold rowL
  rw [List.getD_eq_getElem?_getD, List.getD_eq_getElem?_getD, List.getElem?_drop]
theorem ms_drop (w : List (List (Fin p))) (k : Nat) : (ms w).drop k = ms (w.drop k) := by unfold ms; rw [List.map_drop]
theorem ms_take_succ {l : List (List (Fin p))} {j : Nat} (h : j < l.length) : ms (l.take (j + 1)) = ms (l.take j) ++ [vs (rowL l j)] := by
  unfold ms
  exact take_succ_map _ h []
theorem pv_neq {n c k : Nat} {m : Nat → Nat → Fin p} {w : List (List (Fin p))} {pv : List Nat} {d : Fin p} (h : GJ n c k m w pv d) {t : Nat} (ht : t < pv.length) : ∀ u, u < t → pv.getD u 0 ≠ pv.getD t 0 := fun u hu => by
  have := h.mono u t hu ht
  omega
variable {base : Nat} {H : HH} {K : Value → HH → Prop} {A A' : Option Addr} {n n' c c' : Nat}
theorem h_solveC (hp : Sup p) {m : List (List (Fin p))} {b : List (Fin p)} (h : Mat H A n (ms m)) (h' : Row H A' n' (vs b)) (hz : Sm m) (hq : colsM m ≤ 900)
    (hk1 : ¬ (RectM m ∧ m.length = b.length) → K (.tuple #[.slice none 0 0, .int .i64 1]) H)
    (hk2 : RectM m → m.length = b.length → noSol m b → ∀ H', Ext H H' → K (.tuple #[.slice none 0 0, .int .i64 6]) H')
    (hk3 : RectM m → m.length = b.length → ¬ noSol m b → ∀ A1 c1 H', Ext H H' → Row H' A1 (colsM m) (vs (solL m b)) → colsM m ≤ c1 → K (.tuple #[.slice A1 (colsM m) c1, .int .i64 0]) H') : HCall Try.prog base 35 #[.int .u64 p, .slice A n c, .slice A' n' c'] H K := by
  refine matrix_Solve.spec ?_
  unfold matrix_Solve.sh
  have e1 := h.1
  have e2 := h'.1
  rw [ms_length] at e1
  rw [vs_length] at e2
  have hz1 := hz.1
  refine h_rect h hz.sz ⟨_, rfl, ?_⟩
  split
  rotate_left
  · rename_i e
    exact hk1 (fun h => by rw [rectB_iff.2 h.1] at e; simp at e)
  rename_i e
  have hr := rectB_iff.1 (show rectB (ms m) = true by simpa using e)
  split
  · rename_i e3
    exact hk1 (fun h => by have := h.2; simp at e3; omega)
  rename_i e3
  have e3 : m.length = b.length := by simp at e3; omega
  refine h_cols h ⟨_, rfl, ?_⟩
  rw [colsN_ms]
  refine matrix_Solve.loop0 (fun kk A1 l1 c1 y H' => ∃ j : Nat, y = j ∧ j ≤ n ∧ kk = n - j ∧ l1 = j ∧ ∃ F, Ext H F ∧ OwnM base F H' (.slice A1 j c1) j (ms ((wideB m b).take j))) n ⟨0, rfl, Nat.zero_le _, by omega, rfl, H, .refl _, OwnM.nil _ _⟩ ?_
  rintro kk A1 l1 c1 y g H1 ⟨j, rfl, hj, hkk, rfl, F, hF, ho⟩
  unfold matrix_Solve.B0
  split
  · rename_i e5
    have e5 := of_decide_eq_true e5
    have hjm : l1 < m.length := by omega
    have hE := hF.trans ho.frz.ext
    obtain ⟨a1, q1, A3, c3, q2, q3⟩ := (h.ext hE).at c (i := l1) (by omega) e5
    rw [Int.toNat_natCast, ms_get, vs_length] at q2 q3
    obtain ⟨a2, p1, p2⟩ := (h'.ext hE).at c' (i := l1) (by omega) (by omega)
    rw [Int.toNat_natCast, vs_get] at p2
    have hrl : (rowL m l1).length = colsM m := hr.row hjm
    have done : ∀ (F' : HH) A5 c5 H3, Ext F F' → OwnM base F' H3 (.slice A5 (l1 + 1) c5) (l1 + 1) (ms ((wideB m b).take l1) ++ [vs (rowL m l1 ++ [cf b l1])]) → ∃ n', n' < kk ∧ ∃ (Ay9' : Option Addr) (ly9' cy9' : Nat) (y32' : Int), Value.slice A5 (l1 + 1) c5 = .slice Ay9' ly9' cy9' ∧ Value.int .i64 (IntKind.i64.wrap ((l1 : Int) + 1)) = .int .i64 y32' ∧ ∃ j : Nat, y32' = j ∧ j ≤ n ∧ n' = n - j ∧ ly9' = j ∧ ∃ F, Ext H F ∧ OwnM base F H3 (.slice Ay9' j cy9') j (ms ((wideB m b).take j)) := by
      intro F' A5 c5 H3 hF' ho3
      refine ⟨kk - 1, by omega, _, _, _, _, rfl, rfl, l1 + 1, nxt (n := n) (by omega) (by unfold maxLen; omega), by omega, by omega, rfl, F', hF.trans hF', ?_⟩
      rw [ms_take_succ (by simpa using hjm), wide_row hjm]
      exact ho3
    refine ⟨a1, q1, _, _, _, q2, a2, p1, _, p2, ?_, ?_⟩
    · refine h_clone1 q3 (by omega) (fun A6 c6 H4 ho4 hE4 hF4 => ⟨_, _, _, rfl, p2.ext hE4, ?_⟩)
      refine h_push un32 inf22 rfl (by decide) rfl ho4 (by omega) (fun A7 c7 H5 ho5 g5 => ?_)
      have hfz : Frz H1 H5 (.slice A7 ((rowL m l1).length + 1) c7) := Frz.grow ⟨hE4, hF4⟩ g5
      rw [← us_snoc, ← vs_snoc] at ho5
      exact h_pushR2 ho (by omega) hfz ho5 (fun F' A5 c5 H3 hF' ho3 => done F' A5 c5 H3 hF' ho3)
    · have hfill : Instr.fill (fun i => some (i * 1, 1)) (madeCells (Value.int .u64 0).cells (1 * 1)) [(0, .int .u64 (V (cf b l1)))] = some #[.int .u64 (V (cf b l1))] := by
        simp [Instr.fill, madeCells, Value.cells, show Array.range 1 = #[0] from by decide]
      refine h_lit (sz := 1) (z := .int .u64 0) (cs := #[.int .u64 (V (cf b l1))]) un32 (by kernel_rfl) (by decide) hfill (by decide) (fun gb hgb hbase => ⟨_, _, _, rfl, ?_⟩)
      have hE0 : Ext H1 (upd H1 gb (.cells #[.int .u64 (V (cf b l1))] 22)) := Ext.upd hgb _
      refine h_clone1 (q3.ext hE0) (by omega) (fun A6 c6 H4 ho4 hE4 hF4 => ⟨_, _, _, rfl, ?_⟩)
      refine h_app (m := 1) (ys := us (vs [cf b l1])) un32 inf22 rfl (by decide) ho4 ?_ (by simp) (fun u hu => by obtain ⟨x, _, rfl⟩ := List.mem_map.1 hu; rfl) (by simp) (by omega) (by decide) (fun A7 c7 H5 ho5 g5 => ⟨_, _, _, rfl, ?_⟩)
      · refine .inr ⟨_, rfl, fun i w hw => ?_⟩
        match i, hw with
        | 0, hw =>
          cases hw
          refine cellH_ext hE4 ?_
          show cellH _ ((⟨gb, 0, none⟩ : Addr).add 0) = _
          simp [Addr.add, cellH, upd_self]
      have hfz : Frz H1 H5 (.slice A7 ((rowL m l1).length + 1) c7) := Frz.grow ⟨hE0.trans hE4, fun b hb => hE0.none (hF4 b hb)⟩ g5
      have e8 : us (vs (rowL m l1)) ++ us (vs [cf b l1]) = us (vs (rowL m l1 ++ [cf b l1])) := by simp [us, vs]
      rw [e8] at ho5
      exact h_pushR2 ho (by omega) hfz ho5 (fun F' A5 c5 H3 hF' ho3 => done F' A5 c5 H3 hF' ho3)
  rename_i e5
  have e5 : ¬ ((l1 : Int) < (n : Int)) := fun h => e5 (decide_eq_true h)
  have : l1 = m.length := by omega
  subst this
  rw [List.take_of_length_le (by simp)] at ho
  have hE := hF.trans ho.frz.ext
  refine h_reduce hp ho.mat (wide_sm hr hz hq b) (cw := colsM m + 1) (cols := colsM m) (wide_rect hr b) (by omega) (by omega) (fun xb H2 A2 c2 rs Ap cp wk => ⟨_, rfl, ?_⟩)
  have gj := sol_gj hp.pr hr b
  have hE2 := hE.trans wk.rw_.ext
  have hfew := gj.few
  have hfin : ∀ A1 c1 H', Ext H H' → Row H' A1 (colsM m) (vs (solL m b)) → colsM m ≤ c1 → ¬ noSol m b → K (.tuple #[.slice A1 (colsM m) c1, .int .i64 0]) H' := fun A1 c1 H' h1 h2 h4 h3 => hk3 hr e3 h3 A1 c1 H' h1 h2 h4
  have hno : noSol m b → ∀ H', Ext H H' → K (.tuple #[.slice none 0 0, .int .i64 6]) H' := hk2 hr e3
  have hfull := outS_full m b
  unfold noSol at hno hfin
  have wk : Wk base H1 H2 xb A2 m.length c2 rs (solG m b).1 Ap cp (solG m b).2.1 (solG m b).2.2 := wk
  generalize solG m b = S at *
  obtain ⟨w, pv, d⟩ := S
  dsimp only at hfull hno hfin hfew wk gj
  have hwr : ∀ i, i < m.length → (rowL w i).length = colsM m + 1 := fun i hi => gj.rect.row (show i < w.length by rw [gj.len]; exact hi)
  have hnc := wk.rw_.own.le
  refine ⟨_, fld1 xb, _, _, _, wk.m, _, fld2 xb, _, _, _, wk.pvs, _, _, _, aq_from un23 info32 hfew, ?_⟩
  have hD := (wk.mat).drop (k := pv.length) hnc
  rw [ms_drop] at hD
  generalize (if c2 = pv.length then A2 else A2.map (·.add (pv.length * 1))) = AD at hD ⊢
  refine matrix_Solve.loop1 (fun kk y H' => H' = H2 ∧ ∃ j : Nat, y = j ∧ j ≤ m.length - pv.length ∧ kk = m.length - pv.length - j ∧ ∀ i, i < j → en w (pv.length + i) (colsM m) = 0) (m.length - pv.length) ⟨rfl, 0, rfl, Nat.zero_le _, by omega, fun i hi => by omega⟩ ?_
  rintro kk y g H2' ⟨rfl, j, rfl, hj, hkk, hz0⟩
  unfold matrix_Solve.B1
  split
  · rename_i e6
    have e6 := of_decide_eq_true e6
    obtain ⟨a1, q1, A3, c3, q2, q3⟩ := hD.at (c2 - pv.length) (i := j) (by omega) (by omega)
    rw [Int.toNat_natCast, ms_get, vs_length, rowL_dropM] at q2 q3
    have hl := hwr (pv.length + j) (by omega)
    have hl2 : (rowL w (pv.length + j)).length = colsM m + 1 := hl
    obtain ⟨a2, p1, p2⟩ := q3.at c3 (i := (colsM m : Nat)) (Int.natCast_nonneg _) (by rw [hl]; exact Int.ofNat_lt.2 (Nat.lt_succ_self _))
    rw [Int.toNat_natCast, vs_get] at p2
    refine ⟨a1, q1, _, _, _, q2, a2, p1, _, p2, ?_⟩
    split
    · rename_i e7
      exact hno ⟨pv.length + j, by omega, by omega, fun e => by unfold en at e; rw [e, V_zero] at e7; simp at e7⟩ _ hE2
    · rename_i e7
      have hz1 : en w (pv.length + j) (colsM m) = 0 := by
        have : V (cf (rowL w (pv.length + j)) (colsM m)) = 0 := by simpa using e7
        exact V_eq_zero.1 this
      refine ⟨kk - 1, by omega, _, rfl, rfl, j + 1, nxt (n := m.length) (by omega) (by unfold maxLen; omega), by omega, by omega, fun i hi => ?_⟩
      by_cases e : i = j
      · subst e; exact hz1
      · exact hz0 i (by omega)
  rename_i e6
  have e6 : ¬ ((j : Int) < ((m.length - pv.length : Nat) : Int)) := fun h => e6 (decide_eq_true h)
  have hN : ¬ ∃ i, pv.length ≤ i ∧ i < m.length ∧ en w i (colsM m) ≠ 0 := by
    rintro ⟨i, h1, h2, h3⟩
    exact h3 (by have := hz0 (i - pv.length) (by omega); rwa [show pv.length + (i - pv.length) = i by omega] at this)
  refine h_zeros (p := p) (q := colsM m) (by omega) (fun gb H3 hbase ho3 hf3 => ⟨_, _, _, rfl, _, fld2 xb, _, _, _, wk.pvs.ext hf3.ext, ?_⟩)
  refine matrix_Solve.loop2 (fun kk y H' => ∃ t : Nat, y = t ∧ t ≤ pv.length ∧ kk = pv.length - t ∧ Own base H' 22 1 (.slice (some ⟨gb, 0, none⟩) (colsM m) (colsM m)) (colsM m) (us (vs (outS w pv (colsM m) t))) ∧ Frz H2' H' (.slice (some ⟨gb, 0, none⟩) (colsM m) (colsM m))) pv.length ⟨0, rfl, Nat.zero_le _, by omega, by rw [outS_zero]; exact ho3, hf3⟩ ?_
  rintro kk y g H4 ⟨t, rfl, ht, hkk, ho4, hf4⟩
  unfold matrix_Solve.B2
  split
  · rename_i e7
    have e7 := of_decide_eq_true e7
    have htp : t < pv.length := by omega
    have hpc := gj.lt t htp
    obtain ⟨a1, q1, q2⟩ := (own_piv wk.piv).at cp htp
    obtain ⟨g1, eA, r1, A3, c3, r0, r2⟩ := wk.row (show t < m.length by omega)
    obtain ⟨g2, cur, s1, s2, _⟩ := wk.ent r0 (j := colsM m) (by rw [hwr t (by omega)]; omega)
    refine ⟨a1, q1, _, q2.ext hf4.ext, _, fld1 xb, _, _, _, wk.m.ext hf4.ext, _, r1, _, _, _, r2.ext hf4.ext, _, s1, _, s2.ext hf4.ext, _, aq_own un32 info22 hpc, ?_⟩
    refine h_put ho4 hf4 hpc (fun H5 ho5 hf5 => ?_)
    rw [outS_step hpc (pv_neq gj htp)] at ho5
    exact ⟨kk - 1, by omega, _, rfl, t + 1, nxt (n := pv.length) (by omega) (by unfold maxLen; omega), by omega, by omega, ho5, hf5⟩
  · rename_i e7
    have e7 : ¬ ((t : Int) < (pv.length : Int)) := fun h => e7 (decide_eq_true h)
    have : t = pv.length := by omega
    subst this
    rw [hfull] at ho4
    exact hfin _ _ _ (hE2.trans hf4.ext) ho4.row (Nat.le_refl _) hN
end
end Go.Proofs.Ytbogcgkeabkliac.HL
end
section
set_option linter.unusedVariables false
set_option linter.unusedSimpArgs false
set_option maxRecDepth 100000
namespace Go.Proofs.Ytbogcgkeabkliac.HL
open Go
def privityref04_Eval.ann : Ann := ⟨fun k => [], fun k => false, fun k => bif Nat.beq k 3 then [0, 1, 2, 7, 8, 9] else []⟩
def privityref04_Eval.P0 (base : Nat) (l : List Value) (H0 : HH) (K : Value → HH → Prop) : Prop := HCodeL Try.prog base 31 (codeAt [.r, .r, .l, .r, .b] (bodyOf Try.f20)) [0, 1, 2, 7, 8, 9] l H0 (qAt Try.prog base 31 privityref04_Eval.ann [.r, .r, .l, .r, .b] [] (bodyOf Try.f20) (retQ Try.prog 31 Try.f20 K))
def privityref04_Eval.sh (base : Nat) (x0 : Int) (Ax1 : Option Addr) (lx1 cx1 : Nat) (x2 : Int) (H0 : HH) (K : Value → HH → Prop) : Prop :=
 privityref04_Eval.P0 base [(.int .u64 x0), (.slice Ax1 lx1 cx1), (.int .u64 x2), (.int .u64 0), (.int .u64 1), (.int .i64 0)] H0 K
theorem privityref04_Eval.spec {base : Nat} {x0 : Int} {Ax1 : Option Addr} {lx1 cx1 : Nat} {x2 : Int} {H0 : HH} {K : Value → HH → Prop} (h : privityref04_Eval.sh base x0 Ax1 lx1 cx1 x2 H0 K) : HCall Try.prog base 20 #[(.int .u64 x0), (.slice Ax1 lx1 cx1), (.int .u64 x2)] H0 K := spec_of_wpC (n := 31) (ann := privityref04_Eval.ann) mix Try.func20 (by kernel_rfl) (cast (show privityref04_Eval.sh base x0 Ax1 lx1 cx1 x2 H0 K = wpC Try.prog base 31 privityref04_Eval.ann (bodyOf Try.f20) (ofL [(.int .u64 x0), (.slice Ax1 lx1 cx1), (.int .u64 x2)]) H0 (retQ Try.prog 31 Try.f20 K) by kernel_rfl) h)
def privityref04_Eval.B0 (base : Nat) (x0 : Int) (Ax1 : Option Addr) (lx1 cx1 : Nat) (x2 : Int) (y7 : Int) (y8 : Int) (y9 : Int) (g : Fr) (N0 : Value → Value → Value → HH → Prop) (H0 : HH) (K : Value → HH → Prop) : Prop :=
 if (decide ((y9 : Int) < (((lx1 : Nat) : Int)))) = true then
 ∃ a1 : Addr, AQ Try.prog (Instr.indexAt 30 (.slice Ax1 lx1 cx1) (.int .i64 y9)) (.pointer ((some a1))) ∧
 ∃ n2 : Int, QRun Try.prog (Instr.loadAt 22 (.pointer ((some a1)))) H0 (.int .u64 n2) ∧
 HCall Try.prog base 30 #[(.int .u64 x0), (.int .u64 n2), (.int .u64 y8)] H0 fun v3 H4 =>
 ∃ n5 : Int, v3 = (.int .u64 n5) ∧ HCall Try.prog base 19 #[(.int .u64 x0), (.int .u64 y7), (.int .u64 n5)] H4 fun v6 H7 =>
 ∃ n8 : Int, v6 = (.int .u64 n8) ∧ HCall Try.prog base 30 #[(.int .u64 x0), (.int .u64 y8), (.int .u64 x2)] H7 fun v9 H10 =>
 ∃ n11 : Int, v9 = (.int .u64 n11) ∧ N0 (.int .u64 n8) (.int .u64 n11) (.int .i64 ((IntKind.i64.wrap (y9 + 1)))) H10
 else
 K (.int .u64 y7) H0
theorem privityref04_Eval.loop0 {base : Nat} {x0 : Int} {Ax1 : Option Addr} {lx1 cx1 : Nat} {x2 y7_i y8_i y9_i : Int} {H0 : HH} {K : Value → HH → Prop} (J : Nat → Int → Int → Int → HH → Prop) (n : Nat) (h0 : J n y7_i y8_i y9_i H0)
    (hs : ∀ (n : Nat) (y7 : Int) (y8 : Int) (y9 : Int) (g : Fr) (H0 : HH), J n y7 y8 y9 H0 → privityref04_Eval.B0 base x0 Ax1 lx1 cx1 x2 y7 y8 y9 g (fun w7 w8 w9 H => ∃ n', n' < n ∧ ∃ (y7' : Int) (y8' : Int) (y9' : Int), w7 = (.int .u64 y7') ∧ w8 = (.int .u64 y8') ∧ w9 = (.int .i64 y9') ∧ J n' y7' y8' y9' H) H0 K) : privityref04_Eval.P0 base [(.int .u64 x0), (.slice Ax1 lx1 cx1), (.int .u64 x2), (.int .u64 y7_i), (.int .u64 y8_i), (.int .i64 y9_i)] H0 K := by
  refine loop_rule (ann := privityref04_Eval.ann) (body := codeAt [.r, .r, .l, .r, .b, .lp] (bodyOf Try.f20)) mix (by kernel_rfl) 1073741696 (by kernel_rfl) [0, 1, 2] [(.int .u64 x0), (.slice Ax1 lx1 cx1), (.int .u64 x2)] (by kernel_rfl) (fun fr ⟨e0, e1, e2, e7, e8, e9, _⟩ => ⟨e0, e1, e2, trivial⟩) (fun n g H => ∃ (y7 : Int) (y8 : Int) (y9 : Int), g 7 = (.int .u64 y7) ∧ g 8 = (.int .u64 y8) ∧ g 9 = (.int .i64 y9) ∧ J n y7 y8 y9 H) n (fun fr ⟨e0, e1, e2, e7, e8, e9, _⟩ => ⟨y7_i, y8_i, y9_i, e7, e8, e9, h0⟩) ?_
  rintro n g H0 ⟨e0, e1, e2, _⟩ ⟨y7, y8, y9, e7, e8, e9, hJ⟩
  rw [← ov_eq (g := g) [(0, (.int .u64 x0)), (1, (.slice Ax1 lx1 cx1)), (2, (.int .u64 x2)), (7, (.int .u64 y7)), (8, (.int .u64 y8)), (9, (.int .i64 y9))] (by simp only [List.mem_cons, List.not_mem_nil, or_false, forall_eq_or_imp, forall_eq, false_implies, implies_true]; exact ⟨e0, e1, e2, e7, e8, e9⟩)]
  have key : ∀ NN : Value → Value → Value → HH → Prop, privityref04_Eval.B0 base x0 Ax1 lx1 cx1 x2 y7 y8 y9 g NN H0 K = wpC Try.prog base 31 privityref04_Eval.ann (codeAt [.r, .r, .l, .r, .b, .lp] (bodyOf Try.f20)) (ov g [(0, (.int .u64 x0)), (1, (.slice Ax1 lx1 cx1)), (2, (.int .u64 x2)), (7, (.int .u64 y7)), (8, (.int .u64 y8)), (9, (.int .i64 y9))]) H0 (thenQ (fun fr H => NN (fr 7) (fr 8) (fr 9) H) (qAt Try.prog base 31 privityref04_Eval.ann [.r, .r, .l, .r, .b] [] (bodyOf Try.f20) (retQ Try.prog 31 Try.f20 K))) := fun NN => by kernel_rfl
  refine cast ?_ (hs n y7 y8 y9 g H0 hJ)
  refine (key (fun w7 w8 w9 H => ∃ n', n' < n ∧ ∃ (y7' : Int) (y8' : Int) (y9' : Int), w7 = (.int .u64 y7') ∧ w8 = (.int .u64 y8') ∧ w9 = (.int .i64 y9') ∧ J n' y7' y8' y9' H)).trans ?_
  kernel_rfl
def privityref04_Trim.ann : Ann := ⟨fun k => [], fun k => bif Nat.beq k 4 then true else false, fun k => bif Nat.beq k 2 then [0, 3] else bif Nat.beq k 4 then [0, 3] else []⟩
def privityref04_Trim.P0 (base : Nat) (l : List Value) (H0 : HH) (K : Value → HH → Prop) : Prop := HCodeL Try.prog base 23 (codeAt [.r, .r, .l, .b] (bodyOf Try.f29)) [0, 3] l H0 (qAt Try.prog base 23 privityref04_Trim.ann [.r, .r, .l, .b] [] (bodyOf Try.f29) (retQ Try.prog 23 Try.f29 K))
def privityref04_Trim.R0 (base : Nat) (l : List Value) (H0 : HH) (K : Value → HH → Prop) : Prop := HCodeL Try.prog base 23 (codeAt [.r, .r, .r] (bodyOf Try.f29)) [0, 3] l H0 (qAt Try.prog base 23 privityref04_Trim.ann [.r, .r, .r] [] (bodyOf Try.f29) (retQ Try.prog 23 Try.f29 K))
def privityref04_Trim.S0 (base : Nat) (Ax0 : Option Addr) (lx0 cx0 : Nat) (x3 : Int) (H0 : HH) (K : Value → HH → Prop) : Prop :=
 HRun Try.prog base (Instr.buildSlice 30 0 #[]) H0 fun v3 H4 =>
 ∃ (A5 : Option Addr) (l5 c5 : Nat), v3 = (.slice A5 l5 c5) ∧ ∃ (A6 : Option Addr) (l6 c6 : Nat), AQ Try.prog (Instr.sliceAt 30 (.slice Ax0 lx0 cx0) none (some (.int .i64 x3)) none) (.slice A6 l6 c6) ∧
 HRun Try.prog base (Builtin.append_ #[30, 30] 30 #[(.slice A5 l5 c5), (.slice A6 l6 c6)]) H4 fun v7 H8 =>
 ∃ (A9 : Option Addr) (l9 c9 : Nat), v7 = (.slice A9 l9 c9) ∧ K (.slice A9 l9 c9) H8
def privityref04_Trim.T0 (base : Nat) (Ax0 : Option Addr) (lx0 cx0 : Nat) (x3 : Int) (H0 : HH) (K : Value → HH → Prop) : Prop := privityref04_Trim.S0 base Ax0 lx0 cx0 x3 H0 K
theorem privityref04_Trim.rest0 {base : Nat} {Ax0 : Option Addr} {lx0 cx0 : Nat} {x3 : Int} {H0 : HH} {K : Value → HH → Prop} (h : privityref04_Trim.S0 base Ax0 lx0 cx0 x3 H0 K) : privityref04_Trim.R0 base [(.slice Ax0 lx0 cx0), (.int .i64 x3)] H0 K := by
  refine wpCL_sound (ann := privityref04_Trim.ann) mix (fun fr ⟨e0, e3, _⟩ => ?_)
  rw [← ov_eq (g := fr) [(0, (.slice Ax0 lx0 cx0)), (3, (.int .i64 x3))] (by simp only [List.mem_cons, List.not_mem_nil, or_false, forall_eq_or_imp, forall_eq, false_implies, implies_true]; exact ⟨e0, e3⟩)]
  exact cast (show privityref04_Trim.S0 base Ax0 lx0 cx0 x3 H0 K = wpC Try.prog base 23 privityref04_Trim.ann (codeAt [.r, .r, .r] (bodyOf Try.f29)) (ov fr [(0, (.slice Ax0 lx0 cx0)), (3, (.int .i64 x3))]) H0 (qAt Try.prog base 23 privityref04_Trim.ann [.r, .r, .r] [] (bodyOf Try.f29) (retQ Try.prog 23 Try.f29 K)) by kernel_rfl) h
theorem privityref04_Trim.cut0 {base : Nat} {Ax0 : Option Addr} {lx0 cx0 : Nat} {x3 : Int} {H0 : HH} {K : Value → HH → Prop} (h : privityref04_Trim.T0 base Ax0 lx0 cx0 x3 H0 K) : privityref04_Trim.R0 base [(.slice Ax0 lx0 cx0), (.int .i64 x3)] H0 K := privityref04_Trim.rest0 h
def privityref04_Trim.sh (base : Nat) (Ax0 : Option Addr) (lx0 cx0 : Nat) (H0 : HH) (K : Value → HH → Prop) : Prop :=
 privityref04_Trim.P0 base [(.slice Ax0 lx0 cx0), (.int .i64 (((lx0 : Nat) : Int)))] H0 K
theorem privityref04_Trim.spec {base : Nat} {Ax0 : Option Addr} {lx0 cx0 : Nat} {H0 : HH} {K : Value → HH → Prop} (h : privityref04_Trim.sh base Ax0 lx0 cx0 H0 K) : HCall Try.prog base 29 #[(.slice Ax0 lx0 cx0)] H0 K := spec_of_wpC (n := 23) (ann := privityref04_Trim.ann) mix Try.func29 (by kernel_rfl) (cast (show privityref04_Trim.sh base Ax0 lx0 cx0 H0 K = wpC Try.prog base 23 privityref04_Trim.ann (bodyOf Try.f29) (ofL [(.slice Ax0 lx0 cx0)]) H0 (retQ Try.prog 23 Try.f29 K) by kernel_rfl) h)
def privityref04_Trim.B0 (base : Nat) (Ax0 : Option Addr) (lx0 cx0 : Nat) (y3 : Int) (g : Fr) (N0 : Value → HH → Prop) (H0 : HH) (K : Value → HH → Prop) : Prop :=
 if (decide ((y3 : Int) > 0)) = true then
 ∃ a1 : Addr, AQ Try.prog (Instr.indexAt 30 (.slice Ax0 lx0 cx0) (.int .i64 ((IntKind.i64.wrap (y3 - 1))))) (.pointer ((some a1))) ∧
 ∃ n2 : Int, QRun Try.prog (Instr.loadAt 22 (.pointer ((some a1)))) H0 (.int .u64 n2) ∧
 if ((n2 : Int) == 0) = true then
 N0 (.int .i64 ((IntKind.i64.wrap (y3 - 1)))) H0
 else
 privityref04_Trim.R0 base [(.slice Ax0 lx0 cx0), (.int .i64 y3)] H0 K
 else
 privityref04_Trim.R0 base [(.slice Ax0 lx0 cx0), (.int .i64 y3)] H0 K
theorem privityref04_Trim.loop0 {base : Nat} {Ax0 : Option Addr} {lx0 cx0 : Nat} {y3_i : Int} {H0 : HH} {K : Value → HH → Prop} (J : Nat → Int → HH → Prop) (n : Nat) (h0 : J n y3_i H0)
    (hs : ∀ (n : Nat) (y3 : Int) (g : Fr) (H0 : HH), J n y3 H0 → privityref04_Trim.B0 base Ax0 lx0 cx0 y3 g (fun w3 H => ∃ n', n' < n ∧ ∃ (y3' : Int), w3 = (.int .i64 y3') ∧ J n' y3' H) H0 K) : privityref04_Trim.P0 base [(.slice Ax0 lx0 cx0), (.int .i64 y3_i)] H0 K := by
  refine loop_rule (ann := privityref04_Trim.ann) (body := codeAt [.r, .r, .l, .b, .lp] (bodyOf Try.f29)) mix (by kernel_rfl) 262088 (by kernel_rfl) [0] [(.slice Ax0 lx0 cx0)] (by kernel_rfl) (fun fr ⟨e0, e3, _⟩ => ⟨e0, trivial⟩) (fun n g H => ∃ (y3 : Int), g 3 = (.int .i64 y3) ∧ J n y3 H) n (fun fr ⟨e0, e3, _⟩ => ⟨y3_i, e3, h0⟩) ?_
  rintro n g H0 ⟨e0, _⟩ ⟨y3, e3, hJ⟩
  rw [← ov_eq (g := g) [(0, (.slice Ax0 lx0 cx0)), (3, (.int .i64 y3))] (by simp only [List.mem_cons, List.not_mem_nil, or_false, forall_eq_or_imp, forall_eq, false_implies, implies_true]; exact ⟨e0, e3⟩)]
  have key : ∀ NN : Value → HH → Prop, privityref04_Trim.B0 base Ax0 lx0 cx0 y3 g NN H0 K = wpC Try.prog base 23 privityref04_Trim.ann (codeAt [.r, .r, .l, .b, .lp] (bodyOf Try.f29)) (ov g [(0, (.slice Ax0 lx0 cx0)), (3, (.int .i64 y3))]) H0 (thenQ (fun fr H => NN (fr 3) H) (qAt Try.prog base 23 privityref04_Trim.ann [.r, .r, .l, .b] [] (bodyOf Try.f29) (retQ Try.prog 23 Try.f29 K))) := fun NN => by kernel_rfl
  refine cast ?_ (hs n y3 g H0 hJ)
  refine (key (fun w3 H => ∃ n', n' < n ∧ ∃ (y3' : Int), w3 = (.int .i64 y3') ∧ J n' y3' H)).trans ?_
  kernel_rfl
def privityref04_Degree.ann : Ann := ⟨fun k => [], fun k => false, fun k => []⟩
def privityref04_Degree.sh (base : Nat) (Ax0 : Option Addr) (lx0 cx0 : Nat) (H0 : HH) (K : Value → HH → Prop) : Prop :=
 HCall Try.prog base 29 #[(.slice Ax0 lx0 cx0)] H0 fun v1 H2 =>
 ∃ (A3 : Option Addr) (l3 c3 : Nat), v1 = (.slice A3 l3 c3) ∧ K (.int .i64 ((IntKind.i64.wrap ((((l3 : Nat) : Int)) - 1)))) H2
theorem privityref04_Degree.spec {base : Nat} {Ax0 : Option Addr} {lx0 cx0 : Nat} {H0 : HH} {K : Value → HH → Prop} (h : privityref04_Degree.sh base Ax0 lx0 cx0 H0 K) : HCall Try.prog base 13 #[(.slice Ax0 lx0 cx0)] H0 K := spec_of_wpC (n := 7) (ann := privityref04_Degree.ann) mix Try.func13 (by kernel_rfl) (cast (show privityref04_Degree.sh base Ax0 lx0 cx0 H0 K = wpC Try.prog base 7 privityref04_Degree.ann (bodyOf Try.f13) (ofL [(.slice Ax0 lx0 cx0)]) H0 (retQ Try.prog 7 Try.f13 K) by kernel_rfl) h)
def privityref04_Coefficient.ann : Ann := ⟨fun k => [], fun k => false, fun k => []⟩
def privityref04_Coefficient.sh (base : Nat) (Ax0 : Option Addr) (lx0 cx0 : Nat) (x1 : Int) (H0 : HH) (K : Value → HH → Prop) : Prop :=
 if (decide ((x1 : Int) < 0)) = false then
 if (decide ((x1 : Int) ≥ (((lx0 : Nat) : Int)))) = true then
 K (.int .u64 0) H0
 else
 ∃ a1 : Addr, AQ Try.prog (Instr.indexAt 30 (.slice Ax0 lx0 cx0) (.int .i64 x1)) (.pointer ((some a1))) ∧
 ∃ n2 : Int, QRun Try.prog (Instr.loadAt 22 (.pointer ((some a1)))) H0 (.int .u64 n2) ∧
 K (.int .u64 n2) H0
 else
 K (.int .u64 0) H0
theorem privityref04_Coefficient.spec {base : Nat} {Ax0 : Option Addr} {lx0 cx0 : Nat} {x1 : Int} {H0 : HH} {K : Value → HH → Prop} (h : privityref04_Coefficient.sh base Ax0 lx0 cx0 x1 H0 K) : HCall Try.prog base 31 #[(.slice Ax0 lx0 cx0), (.int .i64 x1)] H0 K := spec_of_wpC (n := 17) (ann := privityref04_Coefficient.ann) mix Try.func31 (by kernel_rfl) (cast (show privityref04_Coefficient.sh base Ax0 lx0 cx0 x1 H0 K = wpC Try.prog base 17 privityref04_Coefficient.ann (bodyOf Try.f31) (ofL [(.slice Ax0 lx0 cx0), (.int .i64 x1)]) H0 (retQ Try.prog 17 Try.f31 K) by kernel_rfl) h)
def privityref04_Add.ann : Ann := ⟨fun k => [], fun k => bif Nat.beq k 5 then true else false, fun k => bif Nat.beq k 3 then [0, 1, 2, 7, 8] else bif Nat.beq k 5 then [0, 1, 2, 7, 8] else []⟩
def privityref04_Add.P0 (base : Nat) (l : List Value) (H0 : HH) (K : Value → HH → Prop) : Prop := HCodeL Try.prog base 34 (codeAt [.r, .r, .l, .r, .b] (bodyOf Try.f21)) [0, 1, 2, 7, 8] l H0 (qAt Try.prog base 34 privityref04_Add.ann [.r, .r, .l, .r, .b] [] (bodyOf Try.f21) (retQ Try.prog 34 Try.f21 K))
def privityref04_Add.R0 (base : Nat) (N0 : Value → Value → HH → Prop) (l : List Value) (H0 : HH) (K : Value → HH → Prop) : Prop := HCodeL Try.prog base 34 (codeAt [.r, .r, .l, .r, .b, .lp, .r] (bodyOf Try.f21)) [0, 1, 2, 7, 8] l H0 (qAt Try.prog base 34 privityref04_Add.ann [.r, .r, .l, .r, .b, .lp, .r] [fun fr H => N0 (fr 7) (fr 8) H] (bodyOf Try.f21) (retQ Try.prog 34 Try.f21 K))
def privityref04_Add.S0 (base : Nat) (N0 : Value → Value → HH → Prop) (x0 : Int) (Ax1 : Option Addr) (lx1 cx1 : Nat) (Ax2 : Option Addr) (lx2 cx2 : Nat) (Ax7 : Option Addr) (lx7 cx7 : Nat) (x8 : Int) (H0 : HH) (K : Value → HH → Prop) : Prop :=
 HCall Try.prog base 31 #[(.slice Ax1 lx1 cx1), (.int .i64 x8)] H0 fun v4 H5 =>
 ∃ n6 : Int, v4 = (.int .u64 n6) ∧ HCall Try.prog base 31 #[(.slice Ax2 lx2 cx2), (.int .i64 x8)] H5 fun v7 H8 =>
 ∃ n9 : Int, v7 = (.int .u64 n9) ∧ HCall Try.prog base 19 #[(.int .u64 x0), (.int .u64 n6), (.int .u64 n9)] H8 fun v10 H11 =>
 ∃ n12 : Int, v10 = (.int .u64 n12) ∧ HRun Try.prog base (Instr.buildSlice 30 1 #[(0, (.int .u64 n12))]) H11 fun v13 H14 =>
 ∃ (A15 : Option Addr) (l15 c15 : Nat), v13 = (.slice A15 l15 c15) ∧ HRun Try.prog base (Builtin.append_ #[30, 30] 30 #[(.slice Ax7 lx7 cx7), (.slice A15 l15 c15)]) H14 fun v16 H17 =>
 ∃ (A18 : Option Addr) (l18 c18 : Nat), v16 = (.slice A18 l18 c18) ∧ N0 (.slice A18 l18 c18) (.int .i64 ((IntKind.i64.wrap (x8 + 1)))) H17
def privityref04_Add.T0 (base : Nat) (N0 : Value → Value → HH → Prop) (x0 : Int) (Ax1 : Option Addr) (lx1 cx1 : Nat) (Ax2 : Option Addr) (lx2 cx2 : Nat) (Ax7 : Option Addr) (lx7 cx7 : Nat) (x8 : Int) (H0 : HH) (K : Value → HH → Prop) : Prop := privityref04_Add.S0 base N0 x0 Ax1 lx1 cx1 Ax2 lx2 cx2 Ax7 lx7 cx7 x8 H0 K
theorem privityref04_Add.rest0 {base : Nat} {N0 : Value → Value → HH → Prop} {x0 : Int} {Ax1 : Option Addr} {lx1 cx1 : Nat} {Ax2 : Option Addr} {lx2 cx2 : Nat} {Ax7 : Option Addr} {lx7 cx7 : Nat} {x8 : Int} {H0 : HH} {K : Value → HH → Prop} (h : privityref04_Add.S0 base N0 x0 Ax1 lx1 cx1 Ax2 lx2 cx2 Ax7 lx7 cx7 x8 H0 K) : privityref04_Add.R0 base N0 [(.int .u64 x0), (.slice Ax1 lx1 cx1), (.slice Ax2 lx2 cx2), (.slice Ax7 lx7 cx7), (.int .i64 x8)] H0 K := by
  refine wpCL_sound (ann := privityref04_Add.ann) mix (fun fr ⟨e0, e1, e2, e7, e8, _⟩ => ?_)
  rw [← ov_eq (g := fr) [(0, (.int .u64 x0)), (1, (.slice Ax1 lx1 cx1)), (2, (.slice Ax2 lx2 cx2)), (7, (.slice Ax7 lx7 cx7)), (8, (.int .i64 x8))] (by simp only [List.mem_cons, List.not_mem_nil, or_false, forall_eq_or_imp, forall_eq, false_implies, implies_true]; exact ⟨e0, e1, e2, e7, e8⟩)]
  exact cast (show privityref04_Add.S0 base N0 x0 Ax1 lx1 cx1 Ax2 lx2 cx2 Ax7 lx7 cx7 x8 H0 K = wpC Try.prog base 34 privityref04_Add.ann (codeAt [.r, .r, .l, .r, .b, .lp, .r] (bodyOf Try.f21)) (ov fr [(0, (.int .u64 x0)), (1, (.slice Ax1 lx1 cx1)), (2, (.slice Ax2 lx2 cx2)), (7, (.slice Ax7 lx7 cx7)), (8, (.int .i64 x8))]) H0 (qAt Try.prog base 34 privityref04_Add.ann [.r, .r, .l, .r, .b, .lp, .r] [fun fr H => N0 (fr 7) (fr 8) H] (bodyOf Try.f21) (retQ Try.prog 34 Try.f21 K)) by kernel_rfl) h
theorem privityref04_Add.cut0 {base : Nat} {N0 : Value → Value → HH → Prop} {x0 : Int} {Ax1 : Option Addr} {lx1 cx1 : Nat} {Ax2 : Option Addr} {lx2 cx2 : Nat} {Ax7 : Option Addr} {lx7 cx7 : Nat} {x8 : Int} {H0 : HH} {K : Value → HH → Prop} (h : privityref04_Add.T0 base N0 x0 Ax1 lx1 cx1 Ax2 lx2 cx2 Ax7 lx7 cx7 x8 H0 K) : privityref04_Add.R0 base N0 [(.int .u64 x0), (.slice Ax1 lx1 cx1), (.slice Ax2 lx2 cx2), (.slice Ax7 lx7 cx7), (.int .i64 x8)] H0 K := privityref04_Add.rest0 h
def privityref04_Add.sh (base : Nat) (x0 : Int) (Ax1 : Option Addr) (lx1 cx1 : Nat) (Ax2 : Option Addr) (lx2 cx2 : Nat) (H0 : HH) (K : Value → HH → Prop) : Prop :=
 privityref04_Add.P0 base [(.int .u64 x0), (.slice Ax1 lx1 cx1), (.slice Ax2 lx2 cx2), (.slice none 0 0), (.int .i64 0)] H0 K
theorem privityref04_Add.spec {base : Nat} {x0 : Int} {Ax1 : Option Addr} {lx1 cx1 : Nat} {Ax2 : Option Addr} {lx2 cx2 : Nat} {H0 : HH} {K : Value → HH → Prop} (h : privityref04_Add.sh base x0 Ax1 lx1 cx1 Ax2 lx2 cx2 H0 K) : HCall Try.prog base 21 #[(.int .u64 x0), (.slice Ax1 lx1 cx1), (.slice Ax2 lx2 cx2)] H0 K := spec_of_wpC (n := 34) (ann := privityref04_Add.ann) mix Try.func21 (by kernel_rfl) (cast (show privityref04_Add.sh base x0 Ax1 lx1 cx1 Ax2 lx2 cx2 H0 K = wpC Try.prog base 34 privityref04_Add.ann (bodyOf Try.f21) (ofL [(.int .u64 x0), (.slice Ax1 lx1 cx1), (.slice Ax2 lx2 cx2)]) H0 (retQ Try.prog 34 Try.f21 K) by kernel_rfl) h)
def privityref04_Add.B0 (base : Nat) (x0 : Int) (Ax1 : Option Addr) (lx1 cx1 : Nat) (Ax2 : Option Addr) (lx2 cx2 : Nat) (Ay7 : Option Addr) (ly7 cy7 : Nat) (y8 : Int) (g : Fr) (N0 : Value → Value → HH → Prop) (H0 : HH) (K : Value → HH → Prop) : Prop :=
 if (decide ((y8 : Int) < (((lx1 : Nat) : Int)))) = false then
 if (decide ((y8 : Int) < (((lx2 : Nat) : Int)))) = true then
 privityref04_Add.R0 base N0 [(.int .u64 x0), (.slice Ax1 lx1 cx1), (.slice Ax2 lx2 cx2), (.slice Ay7 ly7 cy7), (.int .i64 y8)] H0 K
 else
 HCall Try.prog base 29 #[(.slice Ay7 ly7 cy7)] H0 fun v1 H2 =>
 ∃ (A3 : Option Addr) (l3 c3 : Nat), v1 = (.slice A3 l3 c3) ∧ K (.slice A3 l3 c3) H2
 else
 privityref04_Add.R0 base N0 [(.int .u64 x0), (.slice Ax1 lx1 cx1), (.slice Ax2 lx2 cx2), (.slice Ay7 ly7 cy7), (.int .i64 y8)] H0 K
theorem privityref04_Add.loop0 {base : Nat} {x0 : Int} {Ax1 : Option Addr} {lx1 cx1 : Nat} {Ax2 : Option Addr} {lx2 cx2 : Nat} {Ay7_i : Option Addr} {ly7_i cy7_i : Nat} {y8_i : Int} {H0 : HH} {K : Value → HH → Prop} (J : Nat → Option Addr → Nat → Nat → Int → HH → Prop) (n : Nat) (h0 : J n Ay7_i ly7_i cy7_i y8_i H0)
    (hs : ∀ (n : Nat) (Ay7 : Option Addr) (ly7 cy7 : Nat) (y8 : Int) (g : Fr) (H0 : HH), J n Ay7 ly7 cy7 y8 H0 → privityref04_Add.B0 base x0 Ax1 lx1 cx1 Ax2 lx2 cx2 Ay7 ly7 cy7 y8 g (fun w7 w8 H => ∃ n', n' < n ∧ ∃ (Ay7' : Option Addr) (ly7' cy7' : Nat) (y8' : Int), w7 = (.slice Ay7' ly7' cy7') ∧ w8 = (.int .i64 y8') ∧ J n' Ay7' ly7' cy7' y8' H) H0 K) : privityref04_Add.P0 base [(.int .u64 x0), (.slice Ax1 lx1 cx1), (.slice Ax2 lx2 cx2), (.slice Ay7_i ly7_i cy7_i), (.int .i64 y8_i)] H0 K := by
  refine loop_rule (ann := privityref04_Add.ann) (body := codeAt [.r, .r, .l, .r, .b, .lp] (bodyOf Try.f21)) mix (by kernel_rfl) 4294967168 (by kernel_rfl) [0, 1, 2] [(.int .u64 x0), (.slice Ax1 lx1 cx1), (.slice Ax2 lx2 cx2)] (by kernel_rfl) (fun fr ⟨e0, e1, e2, e7, e8, _⟩ => ⟨e0, e1, e2, trivial⟩) (fun n g H => ∃ (Ay7 : Option Addr) (ly7 cy7 : Nat) (y8 : Int), g 7 = (.slice Ay7 ly7 cy7) ∧ g 8 = (.int .i64 y8) ∧ J n Ay7 ly7 cy7 y8 H) n (fun fr ⟨e0, e1, e2, e7, e8, _⟩ => ⟨Ay7_i, ly7_i, cy7_i, y8_i, e7, e8, h0⟩) ?_
  rintro n g H0 ⟨e0, e1, e2, _⟩ ⟨Ay7, ly7, cy7, y8, e7, e8, hJ⟩
  rw [← ov_eq (g := g) [(0, (.int .u64 x0)), (1, (.slice Ax1 lx1 cx1)), (2, (.slice Ax2 lx2 cx2)), (7, (.slice Ay7 ly7 cy7)), (8, (.int .i64 y8))] (by simp only [List.mem_cons, List.not_mem_nil, or_false, forall_eq_or_imp, forall_eq, false_implies, implies_true]; exact ⟨e0, e1, e2, e7, e8⟩)]
  have key : ∀ NN : Value → Value → HH → Prop, privityref04_Add.B0 base x0 Ax1 lx1 cx1 Ax2 lx2 cx2 Ay7 ly7 cy7 y8 g NN H0 K = wpC Try.prog base 34 privityref04_Add.ann (codeAt [.r, .r, .l, .r, .b, .lp] (bodyOf Try.f21)) (ov g [(0, (.int .u64 x0)), (1, (.slice Ax1 lx1 cx1)), (2, (.slice Ax2 lx2 cx2)), (7, (.slice Ay7 ly7 cy7)), (8, (.int .i64 y8))]) H0 (thenQ (fun fr H => NN (fr 7) (fr 8) H) (qAt Try.prog base 34 privityref04_Add.ann [.r, .r, .l, .r, .b] [] (bodyOf Try.f21) (retQ Try.prog 34 Try.f21 K))) := fun NN => by kernel_rfl
  refine cast ?_ (hs n Ay7 ly7 cy7 y8 g H0 hJ)
  refine (key (fun w7 w8 H => ∃ n', n' < n ∧ ∃ (Ay7' : Option Addr) (ly7' cy7' : Nat) (y8' : Int), w7 = (.slice Ay7' ly7' cy7') ∧ w8 = (.int .i64 y8') ∧ J n' Ay7' ly7' cy7' y8' H)).trans ?_
  kernel_rfl
def privityref04_Equal.ann : Ann := ⟨fun k => bif Nat.beq k 6 then [] else [], fun k => false, fun k => bif Nat.beq k 4 then [0, 1, 5] else []⟩
def privityref04_Equal.P0 (base : Nat) (l : List Value) (H0 : HH) (K : Value → HH → Prop) : Prop := HCodeL Try.prog base 26 (codeAt [.r, .r, .l, .r, .b] (bodyOf Try.f9)) [0, 1, 5] l H0 (qAt Try.prog base 26 privityref04_Equal.ann [.r, .r, .l, .r, .b] [] (bodyOf Try.f9) (retQ Try.prog 26 Try.f9 K))
def privityref04_Equal.sh (base : Nat) (Ax0 : Option Addr) (lx0 cx0 : Nat) (Ax1 : Option Addr) (lx1 cx1 : Nat) (H0 : HH) (K : Value → HH → Prop) : Prop :=
 if ((((lx0 : Nat) : Int) : Int) != (((lx1 : Nat) : Int))) = true then
 K (.bool false) H0
 else
 privityref04_Equal.P0 base [(.slice Ax0 lx0 cx0), (.slice Ax1 lx1 cx1), (.int .i64 0)] H0 K
theorem privityref04_Equal.spec {base : Nat} {Ax0 : Option Addr} {lx0 cx0 : Nat} {Ax1 : Option Addr} {lx1 cx1 : Nat} {H0 : HH} {K : Value → HH → Prop} (h : privityref04_Equal.sh base Ax0 lx0 cx0 Ax1 lx1 cx1 H0 K) : HCall Try.prog base 9 #[(.slice Ax0 lx0 cx0), (.slice Ax1 lx1 cx1)] H0 K := spec_of_wpC (n := 26) (ann := privityref04_Equal.ann) mix Try.func9 (by kernel_rfl) (cast (show privityref04_Equal.sh base Ax0 lx0 cx0 Ax1 lx1 cx1 H0 K = wpC Try.prog base 26 privityref04_Equal.ann (bodyOf Try.f9) (ofL [(.slice Ax0 lx0 cx0), (.slice Ax1 lx1 cx1)]) H0 (retQ Try.prog 26 Try.f9 K) by kernel_rfl) h)
def privityref04_Equal.B0 (base : Nat) (Ax0 : Option Addr) (lx0 cx0 : Nat) (Ax1 : Option Addr) (lx1 cx1 : Nat) (y5 : Int) (g : Fr) (N0 : Value → HH → Prop) (H0 : HH) (K : Value → HH → Prop) : Prop :=
 if (decide ((y5 : Int) < (((lx0 : Nat) : Int)))) = true then
 ∃ a1 : Addr, AQ Try.prog (Instr.indexAt 30 (.slice Ax0 lx0 cx0) (.int .i64 y5)) (.pointer ((some a1))) ∧
 ∃ n2 : Int, QRun Try.prog (Instr.loadAt 22 (.pointer ((some a1)))) H0 (.int .u64 n2) ∧
 ∃ a3 : Addr, AQ Try.prog (Instr.indexAt 30 (.slice Ax1 lx1 cx1) (.int .i64 y5)) (.pointer ((some a3))) ∧
 ∃ n4 : Int, QRun Try.prog (Instr.loadAt 22 (.pointer ((some a3)))) H0 (.int .u64 n4) ∧
 if ((n2 : Int) != n4) = true then
 K (.bool false) H0
 else
 N0 (.int .i64 ((IntKind.i64.wrap (y5 + 1)))) H0
 else
 K (.bool true) H0
theorem privityref04_Equal.loop0 {base : Nat} {Ax0 : Option Addr} {lx0 cx0 : Nat} {Ax1 : Option Addr} {lx1 cx1 : Nat} {y5_i : Int} {H0 : HH} {K : Value → HH → Prop} (J : Nat → Int → HH → Prop) (n : Nat) (h0 : J n y5_i H0)
    (hs : ∀ (n : Nat) (y5 : Int) (g : Fr) (H0 : HH), J n y5 H0 → privityref04_Equal.B0 base Ax0 lx0 cx0 Ax1 lx1 cx1 y5 g (fun w5 H => ∃ n', n' < n ∧ ∃ (y5' : Int), w5 = (.int .i64 y5') ∧ J n' y5' H) H0 K) : privityref04_Equal.P0 base [(.slice Ax0 lx0 cx0), (.slice Ax1 lx1 cx1), (.int .i64 y5_i)] H0 K := by
  refine loop_rule (ann := privityref04_Equal.ann) (body := codeAt [.r, .r, .l, .r, .b, .lp] (bodyOf Try.f9)) mix (by kernel_rfl) 67106864 (by kernel_rfl) [0, 1] [(.slice Ax0 lx0 cx0), (.slice Ax1 lx1 cx1)] (by kernel_rfl) (fun fr ⟨e0, e1, e5, _⟩ => ⟨e0, e1, trivial⟩) (fun n g H => ∃ (y5 : Int), g 5 = (.int .i64 y5) ∧ J n y5 H) n (fun fr ⟨e0, e1, e5, _⟩ => ⟨y5_i, e5, h0⟩) ?_
  rintro n g H0 ⟨e0, e1, _⟩ ⟨y5, e5, hJ⟩
  rw [← ov_eq (g := g) [(0, (.slice Ax0 lx0 cx0)), (1, (.slice Ax1 lx1 cx1)), (5, (.int .i64 y5))] (by simp only [List.mem_cons, List.not_mem_nil, or_false, forall_eq_or_imp, forall_eq, false_implies, implies_true]; exact ⟨e0, e1, e5⟩)]
  have key : ∀ NN : Value → HH → Prop, privityref04_Equal.B0 base Ax0 lx0 cx0 Ax1 lx1 cx1 y5 g NN H0 K = wpC Try.prog base 26 privityref04_Equal.ann (codeAt [.r, .r, .l, .r, .b, .lp] (bodyOf Try.f9)) (ov g [(0, (.slice Ax0 lx0 cx0)), (1, (.slice Ax1 lx1 cx1)), (5, (.int .i64 y5))]) H0 (thenQ (fun fr H => NN (fr 5) H) (qAt Try.prog base 26 privityref04_Equal.ann [.r, .r, .l, .r, .b] [] (bodyOf Try.f9) (retQ Try.prog 26 Try.f9 K))) := fun NN => by kernel_rfl
  refine cast ?_ (hs n y5 g H0 hJ)
  refine (key (fun w5 H => ∃ n', n' < n ∧ ∃ (y5' : Int), w5 = (.int .i64 y5') ∧ J n' y5' H)).trans ?_
  kernel_rfl
def privityref04_Same.ann : Ann := ⟨fun k => [], fun k => false, fun k => []⟩
def privityref04_Same.sh (base : Nat) (Ax0 : Option Addr) (lx0 cx0 : Nat) (Ax1 : Option Addr) (lx1 cx1 : Nat) (H0 : HH) (K : Value → HH → Prop) : Prop :=
 HCall Try.prog base 29 #[(.slice Ax0 lx0 cx0)] H0 fun v1 H2 =>
 ∃ (A3 : Option Addr) (l3 c3 : Nat), v1 = (.slice A3 l3 c3) ∧ HCall Try.prog base 29 #[(.slice Ax1 lx1 cx1)] H2 fun v4 H5 =>
 ∃ (A6 : Option Addr) (l6 c6 : Nat), v4 = (.slice A6 l6 c6) ∧ HCall Try.prog base 9 #[(.slice A3 l3 c3), (.slice A6 l6 c6)] H5 fun v7 H8 =>
 ∃ b9 : Bool, v7 = (.bool b9) ∧ K (.bool b9) H8
theorem privityref04_Same.spec {base : Nat} {Ax0 : Option Addr} {lx0 cx0 : Nat} {Ax1 : Option Addr} {lx1 cx1 : Nat} {H0 : HH} {K : Value → HH → Prop} (h : privityref04_Same.sh base Ax0 lx0 cx0 Ax1 lx1 cx1 H0 K) : HCall Try.prog base 15 #[(.slice Ax0 lx0 cx0), (.slice Ax1 lx1 cx1)] H0 K := spec_of_wpC (n := 10) (ann := privityref04_Same.ann) mix Try.func15 (by kernel_rfl) (cast (show privityref04_Same.sh base Ax0 lx0 cx0 Ax1 lx1 cx1 H0 K = wpC Try.prog base 10 privityref04_Same.ann (bodyOf Try.f15) (ofL [(.slice Ax0 lx0 cx0), (.slice Ax1 lx1 cx1)]) H0 (retQ Try.prog 10 Try.f15 K) by kernel_rfl) h)
def privityref04_Words.ann : Ann := ⟨fun k => [], fun k => false, fun k => bif Nat.beq k 3 then [0, 1, 2, 7, 8] else []⟩
def privityref04_Words.P0 (base : Nat) (l : List Value) (H0 : HH) (K : Value → HH → Prop) : Prop := HCodeL Try.prog base 30 (codeAt [.r, .r, .l, .r, .b] (bodyOf Try.f11)) [0, 1, 2, 7, 8] l H0 (qAt Try.prog base 30 privityref04_Words.ann [.r, .r, .l, .r, .b] [] (bodyOf Try.f11) (retQ Try.prog 30 Try.f11 K))
def privityref04_Words.sh (base : Nat) (x0 : Int) (Ax1 : Option Addr) (lx1 cx1 : Nat) (x2 : Int) (H0 : HH) (K : Value → HH → Prop) : Prop :=
 privityref04_Words.P0 base [(.int .u64 x0), (.slice Ax1 lx1 cx1), (.int .i64 x2), (.slice none 0 0), (.int .i64 0)] H0 K
theorem privityref04_Words.spec {base : Nat} {x0 : Int} {Ax1 : Option Addr} {lx1 cx1 : Nat} {x2 : Int} {H0 : HH} {K : Value → HH → Prop} (h : privityref04_Words.sh base x0 Ax1 lx1 cx1 x2 H0 K) : HCall Try.prog base 11 #[(.int .u64 x0), (.slice Ax1 lx1 cx1), (.int .i64 x2)] H0 K := spec_of_wpC (n := 30) (ann := privityref04_Words.ann) mix Try.func11 (by kernel_rfl) (cast (show privityref04_Words.sh base x0 Ax1 lx1 cx1 x2 H0 K = wpC Try.prog base 30 privityref04_Words.ann (bodyOf Try.f11) (ofL [(.int .u64 x0), (.slice Ax1 lx1 cx1), (.int .i64 x2)]) H0 (retQ Try.prog 30 Try.f11 K) by kernel_rfl) h)
def privityref04_Words.B0 (base : Nat) (x0 : Int) (Ax1 : Option Addr) (lx1 cx1 : Nat) (x2 : Int) (Ay7 : Option Addr) (ly7 cy7 : Nat) (y8 : Int) (g : Fr) (N0 : Value → Value → HH → Prop) (H0 : HH) (K : Value → HH → Prop) : Prop :=
 if (decide ((y8 : Int) < (((lx1 : Nat) : Int)))) = true then
 if (decide ((y8 : Int) < x2)) = true then
 ∃ a1 : Addr, AQ Try.prog (Instr.indexAt 30 (.slice Ax1 lx1 cx1) (.int .i64 y8)) (.pointer ((some a1))) ∧
 ∃ n2 : Int, QRun Try.prog (Instr.loadAt 22 (.pointer ((some a1)))) H0 (.int .u64 n2) ∧
 ∃ n3 : Int, AQ Try.prog (binSem .rem 22 (.tmp 24) (.tmp 25) (.int .u64 n2) (.int .u64 x0)) (.int .u64 n3) ∧
 HRun Try.prog base (Instr.buildSlice 30 1 #[(0, (.int .u64 n3))]) H0 fun v4 H5 =>
 ∃ (A6 : Option Addr) (l6 c6 : Nat), v4 = (.slice A6 l6 c6) ∧ HRun Try.prog base (Builtin.append_ #[30, 30] 30 #[(.slice Ay7 ly7 cy7), (.slice A6 l6 c6)]) H5 fun v7 H8 =>
 ∃ (A9 : Option Addr) (l9 c9 : Nat), v7 = (.slice A9 l9 c9) ∧ N0 (.slice A9 l9 c9) (.int .i64 ((IntKind.i64.wrap (y8 + 1)))) H8
 else
 K (.slice Ay7 ly7 cy7) H0
 else
 K (.slice Ay7 ly7 cy7) H0
theorem privityref04_Words.loop0 {base : Nat} {x0 : Int} {Ax1 : Option Addr} {lx1 cx1 : Nat} {x2 : Int} {Ay7_i : Option Addr} {ly7_i cy7_i : Nat} {y8_i : Int} {H0 : HH} {K : Value → HH → Prop} (J : Nat → Option Addr → Nat → Nat → Int → HH → Prop) (n : Nat) (h0 : J n Ay7_i ly7_i cy7_i y8_i H0)
    (hs : ∀ (n : Nat) (Ay7 : Option Addr) (ly7 cy7 : Nat) (y8 : Int) (g : Fr) (H0 : HH), J n Ay7 ly7 cy7 y8 H0 → privityref04_Words.B0 base x0 Ax1 lx1 cx1 x2 Ay7 ly7 cy7 y8 g (fun w7 w8 H => ∃ n', n' < n ∧ ∃ (Ay7' : Option Addr) (ly7' cy7' : Nat) (y8' : Int), w7 = (.slice Ay7' ly7' cy7') ∧ w8 = (.int .i64 y8') ∧ J n' Ay7' ly7' cy7' y8' H) H0 K) : privityref04_Words.P0 base [(.int .u64 x0), (.slice Ax1 lx1 cx1), (.int .i64 x2), (.slice Ay7_i ly7_i cy7_i), (.int .i64 y8_i)] H0 K := by
  refine loop_rule (ann := privityref04_Words.ann) (body := codeAt [.r, .r, .l, .r, .b, .lp] (bodyOf Try.f11)) mix (by kernel_rfl) 536870784 (by kernel_rfl) [0, 1, 2] [(.int .u64 x0), (.slice Ax1 lx1 cx1), (.int .i64 x2)] (by kernel_rfl) (fun fr ⟨e0, e1, e2, e7, e8, _⟩ => ⟨e0, e1, e2, trivial⟩) (fun n g H => ∃ (Ay7 : Option Addr) (ly7 cy7 : Nat) (y8 : Int), g 7 = (.slice Ay7 ly7 cy7) ∧ g 8 = (.int .i64 y8) ∧ J n Ay7 ly7 cy7 y8 H) n (fun fr ⟨e0, e1, e2, e7, e8, _⟩ => ⟨Ay7_i, ly7_i, cy7_i, y8_i, e7, e8, h0⟩) ?_
  rintro n g H0 ⟨e0, e1, e2, _⟩ ⟨Ay7, ly7, cy7, y8, e7, e8, hJ⟩
  rw [← ov_eq (g := g) [(0, (.int .u64 x0)), (1, (.slice Ax1 lx1 cx1)), (2, (.int .i64 x2)), (7, (.slice Ay7 ly7 cy7)), (8, (.int .i64 y8))] (by simp only [List.mem_cons, List.not_mem_nil, or_false, forall_eq_or_imp, forall_eq, false_implies, implies_true]; exact ⟨e0, e1, e2, e7, e8⟩)]
  have key : ∀ NN : Value → Value → HH → Prop, privityref04_Words.B0 base x0 Ax1 lx1 cx1 x2 Ay7 ly7 cy7 y8 g NN H0 K = wpC Try.prog base 30 privityref04_Words.ann (codeAt [.r, .r, .l, .r, .b, .lp] (bodyOf Try.f11)) (ov g [(0, (.int .u64 x0)), (1, (.slice Ax1 lx1 cx1)), (2, (.int .i64 x2)), (7, (.slice Ay7 ly7 cy7)), (8, (.int .i64 y8))]) H0 (thenQ (fun fr H => NN (fr 7) (fr 8) H) (qAt Try.prog base 30 privityref04_Words.ann [.r, .r, .l, .r, .b] [] (bodyOf Try.f11) (retQ Try.prog 30 Try.f11 K))) := fun NN => by kernel_rfl
  refine cast ?_ (hs n Ay7 ly7 cy7 y8 g H0 hJ)
  refine (key (fun w7 w8 H => ∃ n', n' < n ∧ ∃ (Ay7' : Option Addr) (ly7' cy7' : Nat) (y8' : Int), w7 = (.slice Ay7' ly7' cy7') ∧ w8 = (.int .i64 y8') ∧ J n' Ay7' ly7' cy7' y8' H)).trans ?_
  kernel_rfl
def privityref08_ErrorPositions.ann : Ann := ⟨fun k => bif Nat.beq k 5 then [] else [], fun k => false, fun k => bif Nat.beq k 3 then [0, 1, 2, 7, 8] else []⟩
def privityref08_May.ann : Ann := ⟨fun k => bif Nat.beq k 10 then [] else [], fun k => false, fun k => bif Nat.beq k 5 then [0, 7, 8] else bif Nat.beq k 8 then [0, 7, 8, 9] else []⟩
def privityref08_Places.ann : Ann := ⟨fun k => bif Nat.beq k 6 then [] else [], fun k => false, fun k => bif Nat.beq k 4 then [0, 1, 5] else []⟩
def privityref08_Places.P0 (base : Nat) (l : List Value) (H0 : HH) (K : Value → HH → Prop) : Prop := HCodeL Try.prog base 26 (codeAt [.r, .r, .l, .r, .b] (bodyOf Try.f16)) [0, 1, 5] l H0 (qAt Try.prog base 26 privityref08_Places.ann [.r, .r, .l, .r, .b] [] (bodyOf Try.f16) (retQ Try.prog 26 Try.f16 K))
def privityref08_Places.sh (base : Nat) (Ax0 : Option Addr) (lx0 cx0 : Nat) (Ax1 : Option Addr) (lx1 cx1 : Nat) (H0 : HH) (K : Value → HH → Prop) : Prop :=
 if ((((lx0 : Nat) : Int) : Int) != (((lx1 : Nat) : Int))) = true then
 K (.bool false) H0
 else
 privityref08_Places.P0 base [(.slice Ax0 lx0 cx0), (.slice Ax1 lx1 cx1), (.int .i64 0)] H0 K
theorem privityref08_Places.spec {base : Nat} {Ax0 : Option Addr} {lx0 cx0 : Nat} {Ax1 : Option Addr} {lx1 cx1 : Nat} {H0 : HH} {K : Value → HH → Prop} (h : privityref08_Places.sh base Ax0 lx0 cx0 Ax1 lx1 cx1 H0 K) : HCall Try.prog base 16 #[(.slice Ax0 lx0 cx0), (.slice Ax1 lx1 cx1)] H0 K := spec_of_wpC (n := 26) (ann := privityref08_Places.ann) mix Try.func16 (by kernel_rfl) (cast (show privityref08_Places.sh base Ax0 lx0 cx0 Ax1 lx1 cx1 H0 K = wpC Try.prog base 26 privityref08_Places.ann (bodyOf Try.f16) (ofL [(.slice Ax0 lx0 cx0), (.slice Ax1 lx1 cx1)]) H0 (retQ Try.prog 26 Try.f16 K) by kernel_rfl) h)
def privityref08_Places.B0 (base : Nat) (Ax0 : Option Addr) (lx0 cx0 : Nat) (Ax1 : Option Addr) (lx1 cx1 : Nat) (y5 : Int) (g : Fr) (N0 : Value → HH → Prop) (H0 : HH) (K : Value → HH → Prop) : Prop :=
 if (decide ((y5 : Int) < (((lx0 : Nat) : Int)))) = true then
 ∃ a1 : Addr, AQ Try.prog (Instr.indexAt 31 (.slice Ax0 lx0 cx0) (.int .i64 y5)) (.pointer ((some a1))) ∧
 ∃ n2 : Int, QRun Try.prog (Instr.loadAt 3 (.pointer ((some a1)))) H0 (.int .i64 n2) ∧
 ∃ a3 : Addr, AQ Try.prog (Instr.indexAt 31 (.slice Ax1 lx1 cx1) (.int .i64 y5)) (.pointer ((some a3))) ∧
 ∃ n4 : Int, QRun Try.prog (Instr.loadAt 3 (.pointer ((some a3)))) H0 (.int .i64 n4) ∧
 if ((n2 : Int) != n4) = true then
 K (.bool false) H0
 else
 N0 (.int .i64 ((IntKind.i64.wrap (y5 + 1)))) H0
 else
 K (.bool true) H0
theorem privityref08_Places.loop0 {base : Nat} {Ax0 : Option Addr} {lx0 cx0 : Nat} {Ax1 : Option Addr} {lx1 cx1 : Nat} {y5_i : Int} {H0 : HH} {K : Value → HH → Prop} (J : Nat → Int → HH → Prop) (n : Nat) (h0 : J n y5_i H0)
    (hs : ∀ (n : Nat) (y5 : Int) (g : Fr) (H0 : HH), J n y5 H0 → privityref08_Places.B0 base Ax0 lx0 cx0 Ax1 lx1 cx1 y5 g (fun w5 H => ∃ n', n' < n ∧ ∃ (y5' : Int), w5 = (.int .i64 y5') ∧ J n' y5' H) H0 K) : privityref08_Places.P0 base [(.slice Ax0 lx0 cx0), (.slice Ax1 lx1 cx1), (.int .i64 y5_i)] H0 K := by
  refine loop_rule (ann := privityref08_Places.ann) (body := codeAt [.r, .r, .l, .r, .b, .lp] (bodyOf Try.f16)) mix (by kernel_rfl) 67106864 (by kernel_rfl) [0, 1] [(.slice Ax0 lx0 cx0), (.slice Ax1 lx1 cx1)] (by kernel_rfl) (fun fr ⟨e0, e1, e5, _⟩ => ⟨e0, e1, trivial⟩) (fun n g H => ∃ (y5 : Int), g 5 = (.int .i64 y5) ∧ J n y5 H) n (fun fr ⟨e0, e1, e5, _⟩ => ⟨y5_i, e5, h0⟩) ?_
  rintro n g H0 ⟨e0, e1, _⟩ ⟨y5, e5, hJ⟩
  rw [← ov_eq (g := g) [(0, (.slice Ax0 lx0 cx0)), (1, (.slice Ax1 lx1 cx1)), (5, (.int .i64 y5))] (by simp only [List.mem_cons, List.not_mem_nil, or_false, forall_eq_or_imp, forall_eq, false_implies, implies_true]; exact ⟨e0, e1, e5⟩)]
  have key : ∀ NN : Value → HH → Prop, privityref08_Places.B0 base Ax0 lx0 cx0 Ax1 lx1 cx1 y5 g NN H0 K = wpC Try.prog base 26 privityref08_Places.ann (codeAt [.r, .r, .l, .r, .b, .lp] (bodyOf Try.f16)) (ov g [(0, (.slice Ax0 lx0 cx0)), (1, (.slice Ax1 lx1 cx1)), (5, (.int .i64 y5))]) H0 (thenQ (fun fr H => NN (fr 5) H) (qAt Try.prog base 26 privityref08_Places.ann [.r, .r, .l, .r, .b] [] (bodyOf Try.f16) (retQ Try.prog 26 Try.f16 K))) := fun NN => by kernel_rfl
  refine cast ?_ (hs n y5 g H0 hJ)
  refine (key (fun w5 H => ∃ n', n' < n ∧ ∃ (y5' : Int), w5 = (.int .i64 y5') ∧ J n' y5' H)).trans ?_
  kernel_rfl
def privityref08_Points.ann : Ann := ⟨fun k => bif Nat.beq k 5 then [16, 17] else [], fun k => false, fun k => bif Nat.beq k 3 then [0, 1, 2, 7, 8] else []⟩
def privityref08_Points.P0 (base : Nat) (l : List Value) (H0 : HH) (K : Value → HH → Prop) : Prop := HCodeL Try.prog base 39 (codeAt [.r, .r, .l, .r, .b] (bodyOf Try.f23)) [0, 1, 2, 7, 8] l H0 (qAt Try.prog base 39 privityref08_Points.ann [.r, .r, .l, .r, .b] [] (bodyOf Try.f23) (retQ Try.prog 39 Try.f23 K))
def privityref08_Points.sh (base : Nat) (x0 : Int) (Ax1 : Option Addr) (lx1 cx1 : Nat) (x2 : Int) (H0 : HH) (K : Value → HH → Prop) : Prop :=
 privityref08_Points.P0 base [(.int .u64 x0), (.slice Ax1 lx1 cx1), (.int .i64 x2), (.slice none 0 0), (.int .i64 0)] H0 K
theorem privityref08_Points.spec {base : Nat} {x0 : Int} {Ax1 : Option Addr} {lx1 cx1 : Nat} {x2 : Int} {H0 : HH} {K : Value → HH → Prop} (h : privityref08_Points.sh base x0 Ax1 lx1 cx1 x2 H0 K) : HCall Try.prog base 23 #[(.int .u64 x0), (.slice Ax1 lx1 cx1), (.int .i64 x2)] H0 K := spec_of_wpC (n := 39) (ann := privityref08_Points.ann) mix Try.func23 (by kernel_rfl) (cast (show privityref08_Points.sh base x0 Ax1 lx1 cx1 x2 H0 K = wpC Try.prog base 39 privityref08_Points.ann (bodyOf Try.f23) (ofL [(.int .u64 x0), (.slice Ax1 lx1 cx1), (.int .i64 x2)]) H0 (retQ Try.prog 39 Try.f23 K) by kernel_rfl) h)
def privityref08_Points.B0 (base : Nat) (x0 : Int) (Ax1 : Option Addr) (lx1 cx1 : Nat) (x2 : Int) (Ay7 : Option Addr) (ly7 cy7 : Nat) (y8 : Int) (g : Fr) (N0 : Value → Value → HH → Prop) (H0 : HH) (K : Value → HH → Prop) : Prop :=
 if (decide ((y8 : Int) < (((lx1 : Nat) : Int)))) = true then
 if (decide ((y8 : Int) < x2)) = true then
 ∃ a1 : Addr, AQ Try.prog (Instr.indexAt 23 (.slice Ax1 lx1 cx1) (.int .i64 y8)) (.pointer ((some a1))) ∧
 ∃ a2 : Addr, AQ Try.prog (Instr.fieldAt 29 (.pointer ((some a1))) 0) (.pointer ((some a2))) ∧
 ∃ n3 : Int, QRun Try.prog (Instr.loadAt 22 (.pointer ((some a2)))) H0 (.int .u64 n3) ∧
 ∃ n4 : Int, AQ Try.prog (binSem .rem 22 (.tmp 25) (.tmp 26) (.int .u64 n3) (.int .u64 x0)) (.int .u64 n4) ∧
 ∃ a5 : Addr, AQ Try.prog (Instr.indexAt 23 (.slice Ax1 lx1 cx1) (.int .i64 y8)) (.pointer ((some a5))) ∧
 ∃ a6 : Addr, AQ Try.prog (Instr.fieldAt 29 (.pointer ((some a5))) 1) (.pointer ((some a6))) ∧
 ∃ n7 : Int, QRun Try.prog (Instr.loadAt 22 (.pointer ((some a6)))) H0 (.int .u64 n7) ∧
 ∃ n8 : Int, AQ Try.prog (binSem .rem 22 (.tmp 32) (.tmp 33) (.int .u64 n7) (.int .u64 x0)) (.int .u64 n8) ∧
 ∃ n9 : Int, ∃ n10 : Int, AQ Try.prog (Instr.build 29 #[(0, (.int .u64 n4)), (1, (.int .u64 n8))]) (.agg #[(.int .u64 n9), (.int .u64 n10)]) ∧
 HRun Try.prog base (Instr.buildSlice 23 1 #[(0, (.agg #[(.int .u64 n9), (.int .u64 n10)]))]) H0 fun v11 H12 =>
 ∃ (A13 : Option Addr) (l13 c13 : Nat), v11 = (.slice A13 l13 c13) ∧ HRun Try.prog base (Builtin.append_ #[23, 23] 23 #[(.slice Ay7 ly7 cy7), (.slice A13 l13 c13)]) H12 fun v14 H15 =>
 ∃ (A16 : Option Addr) (l16 c16 : Nat), v14 = (.slice A16 l16 c16) ∧ N0 (.slice A16 l16 c16) (.int .i64 ((IntKind.i64.wrap (y8 + 1)))) H15
 else
 K (.slice Ay7 ly7 cy7) H0
 else
 K (.slice Ay7 ly7 cy7) H0
theorem privityref08_Points.loop0 {base : Nat} {x0 : Int} {Ax1 : Option Addr} {lx1 cx1 : Nat} {x2 : Int} {Ay7_i : Option Addr} {ly7_i cy7_i : Nat} {y8_i : Int} {H0 : HH} {K : Value → HH → Prop} (J : Nat → Option Addr → Nat → Nat → Int → HH → Prop) (n : Nat) (h0 : J n Ay7_i ly7_i cy7_i y8_i H0)
    (hs : ∀ (n : Nat) (Ay7 : Option Addr) (ly7 cy7 : Nat) (y8 : Int) (g : Fr) (H0 : HH), J n Ay7 ly7 cy7 y8 H0 → privityref08_Points.B0 base x0 Ax1 lx1 cx1 x2 Ay7 ly7 cy7 y8 g (fun w7 w8 H => ∃ n', n' < n ∧ ∃ (Ay7' : Option Addr) (ly7' cy7' : Nat) (y8' : Int), w7 = (.slice Ay7' ly7' cy7') ∧ w8 = (.int .i64 y8') ∧ J n' Ay7' ly7' cy7' y8' H) H0 K) : privityref08_Points.P0 base [(.int .u64 x0), (.slice Ax1 lx1 cx1), (.int .i64 x2), (.slice Ay7_i ly7_i cy7_i), (.int .i64 y8_i)] H0 K := by
  refine loop_rule (ann := privityref08_Points.ann) (body := codeAt [.r, .r, .l, .r, .b, .lp] (bodyOf Try.f23)) mix (by kernel_rfl) 274877906816 (by kernel_rfl) [0, 1, 2] [(.int .u64 x0), (.slice Ax1 lx1 cx1), (.int .i64 x2)] (by kernel_rfl) (fun fr ⟨e0, e1, e2, e7, e8, _⟩ => ⟨e0, e1, e2, trivial⟩) (fun n g H => ∃ (Ay7 : Option Addr) (ly7 cy7 : Nat) (y8 : Int), g 7 = (.slice Ay7 ly7 cy7) ∧ g 8 = (.int .i64 y8) ∧ J n Ay7 ly7 cy7 y8 H) n (fun fr ⟨e0, e1, e2, e7, e8, _⟩ => ⟨Ay7_i, ly7_i, cy7_i, y8_i, e7, e8, h0⟩) ?_
  rintro n g H0 ⟨e0, e1, e2, _⟩ ⟨Ay7, ly7, cy7, y8, e7, e8, hJ⟩
  rw [← ov_eq (g := g) [(0, (.int .u64 x0)), (1, (.slice Ax1 lx1 cx1)), (2, (.int .i64 x2)), (7, (.slice Ay7 ly7 cy7)), (8, (.int .i64 y8))] (by simp only [List.mem_cons, List.not_mem_nil, or_false, forall_eq_or_imp, forall_eq, false_implies, implies_true]; exact ⟨e0, e1, e2, e7, e8⟩)]
  have key : ∀ NN : Value → Value → HH → Prop, privityref08_Points.B0 base x0 Ax1 lx1 cx1 x2 Ay7 ly7 cy7 y8 g NN H0 K = wpC Try.prog base 39 privityref08_Points.ann (codeAt [.r, .r, .l, .r, .b, .lp] (bodyOf Try.f23)) (ov g [(0, (.int .u64 x0)), (1, (.slice Ax1 lx1 cx1)), (2, (.int .i64 x2)), (7, (.slice Ay7 ly7 cy7)), (8, (.int .i64 y8))]) H0 (thenQ (fun fr H => NN (fr 7) (fr 8) H) (qAt Try.prog base 39 privityref08_Points.ann [.r, .r, .l, .r, .b] [] (bodyOf Try.f23) (retQ Try.prog 39 Try.f23 K))) := fun NN => by kernel_rfl
  refine cast ?_ (hs n Ay7 ly7 cy7 y8 g H0 hJ)
  refine (key (fun w7 w8 H => ∃ n', n' < n ∧ ∃ (Ay7' : Option Addr) (ly7' cy7' : Nat) (y8' : Int), w7 = (.slice Ay7' ly7' cy7') ∧ w8 = (.int .i64 y8') ∧ J n' Ay7' ly7' cy7' y8' H)).trans ?_
  kernel_rfl
end Go.Proofs.Ytbogcgkeabkliac.HL
end

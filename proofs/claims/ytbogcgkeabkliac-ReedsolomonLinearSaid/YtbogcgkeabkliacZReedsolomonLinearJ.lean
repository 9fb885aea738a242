/- Part J of: The statement ReedsolomonLinear: the law answers true whatever its arguments; no condition. -/
import Derived.Test.YtbogcgkeabkliacZReedsolomonLinearI
import Derived.KernelRfl
import Derived.Test.YtbogcgkeabkliacProg
import Derived.Laws.Tables
section
set_option linter.unusedVariables false
set_option linter.unusedSimpArgs false
set_option linter.unusedSectionVars false
namespace Go.Proofs.Ytbogcgkeabkliac.HL
open Go Go.Proofs.YtbogcgkeabkliacNum Go.Proofs.Ytbogcgkeabkliac.FEv
section
variable {P : Program} {base : Nat} {H : HH}
theorem h_sta {t b T : Nat} {old : Array Value} {vs : List Value} {K : Unit → HH → Prop} (hz : (P.info? t).map (·.size) = some vs.length) (h1 : vs.all (·.oneCell') = true) (hb : H b = some (.cells old T (0, 0))) (hbase : base ≤ b) (ho : old.size = vs.length) (h : K () (upd H b (.cells vs.toArray T (0, 0)))) : HRun P base (Instr.storeAt t (.pointer (some ⟨b, 0, none⟩)) (.agg vs.toArray)) H K := by
  refine h_do (cs' := vs.toArray) hb hbase (by simp [ho]) (fun W hs => ⟨W.setRow b vs.toArray, ?_, rfl, rfl, rfl, ?_, ?_, ?_⟩) h
  · have := run_storeVar_row (P := P) W b T t old vs.toArray (hs b _ hb) (by simpa using hz) (by simpa using ho) (by simpa using h1)
    simp [Instr.storeAt, Instr.sureAddr, this]
  · simp [World.setRow]
  · intro k hk
    simp only [World.setRow, Array.getElem?_modify]
    rw [if_neg (fun e => hk e.symm)]
  · exact setRow_heap W b old vs.toArray T (0, 0) (hs b _ hb)
theorem h_var {t : Nat} {old z : Value} {vs : List Value} (hz0 : (P.info? t).bind (·.zero) = some z) (hzc : z.cells.size = vs.length) (hz : (P.info? t).map (·.size) = some vs.length) (h1 : vs.all (·.oneCell') = true) {C : Addr → HH → Prop}
    (hk : ∀ b H', Ext H H' → base ≤ b → H b = none → H' b = some (.cells vs.toArray t (0, 0)) → C ⟨b, 0, none⟩ H') :
    HRun P base (Instr.alloc t true old) H fun v H1 => ∃ a : Addr, v = .pointer (some a) ∧ HRun P base (Instr.storeAt t (.pointer (some a)) (.agg vs.toArray)) H1 fun _ H2 => C a H2 :=
  h_alloc hz0 (fun b hb hbase => ⟨_, rfl, h_sta hz h1 (upd_self _ _ _) hbase hzc (hk b _ (fun k o hk => by
    have : k ≠ b := fun e => by rw [e, hb] at hk; cases hk
    rw [upd_ne _ this, upd_ne _ this]; exact hk) hbase hb (upd_self _ _ _))⟩)
end
abbrev tPt : Nat := 29
abbrev tPts : Nat := 23
theorem unPts : Try.prog.underlying tPts = some (.slice tPt) := by kernel_rfl
theorem infoPt : (Try.prog.info? tPt).map (·.size) = some 2 := by kernel_rfl
theorem fp0 (a : Addr) : AQ Try.prog (Instr.fieldAt tPt (.pointer (some a)) 0) (.pointer (some (a.add 0))) := aq_fld (off := 0) (sz := 1) (by kernel_rfl) (by decide) a
theorem fp1 (a : Addr) : AQ Try.prog (Instr.fieldAt tPt (.pointer (some a)) 1) (.pointer (some (a.add 1))) := aq_fld (off := 1) (sz := 1) (by kernel_rfl) (by decide) a
def PtAt (H : HH) (a : Addr) (q : Int × Int) : Prop := cellH H (a.add 0) = some (.int .u64 q.1) ∧ cellH H (a.add 1) = some (.int .u64 q.2)
section
variable {base : Nat} {H : HH} {a : Addr} {q : Int × Int}
theorem PtAt.ext {H' : HH} (h : PtAt H a q) (he : Ext H H') : PtAt H' a q := ⟨cellH_ext he h.1, cellH_ext he h.2⟩
theorem PtAt.x (h : PtAt H a q) : QRun Try.prog (Instr.loadAt 22 (.pointer (some (a.add 0)))) H (.int .u64 q.1) := q_ld sc22 h.1
theorem PtAt.y (h : PtAt H a q) : QRun Try.prog (Instr.loadAt 22 (.pointer (some (a.add 1)))) H (.int .u64 q.2) := q_ld sc22 h.2
theorem PtAt.all (h : PtAt H a q) : QRun Try.prog (Instr.loadAt tPt (.pointer (some a))) H (.agg #[.int .u64 q.1, .int .u64 q.2]) :=
  q_lda (cs := [.int .u64 q.1, .int .u64 q.2]) (by kernel_rfl) infoPt (fun j u hu => by
    match j, hu with
    | 0, hu => cases hu; exact h.1
    | 1, hu => cases hu; exact h.2)
theorem h_ptvar {old : Value} {x y : Int} {C : Addr → HH → Prop} (hk : ∀ a H', Ext H H' → PtAt H' a (x, y) → C a H') :
    HRun Try.prog base (Instr.alloc tPt true old) H fun v H1 => ∃ a : Addr, v = .pointer (some a) ∧ HRun Try.prog base (Instr.storeAt tPt (.pointer (some a)) (.agg #[.int .u64 x, .int .u64 y])) H1 fun _ H2 => C a H2 :=
  h_var (vs := [.int .u64 x, .int .u64 y]) (z := .agg #[.int .u64 0, .int .u64 0]) (by kernel_rfl) rfl infoPt rfl (fun b H' he hbase hn hb => hk _ H' he ⟨by rw [add0, cellH_blk hb]; rfl, by rw [add0, cellH_blk hb]; rfl⟩)
end
def pc (l : List (Int × Int)) : List Value := l.flatMap fun q => [.int .u64 q.1, .int .u64 q.2]
theorem pc_length (l : List (Int × Int)) : (pc l).length = l.length * 2 := by
  induction l with
  | nil => rfl
  | cons q l ih => show (_ :: _ :: pc l).length = _; simp [ih]; omega
theorem pc_get : ∀ (l : List (Int × Int)) (i : Nat) (q : Int × Int), l[i]? = some q → (pc l)[i * 2]? = some (.int .u64 q.1) ∧ (pc l)[i * 2 + 1]? = some (.int .u64 q.2)
  | [], i, q, h => by simp at h
  | r :: l, 0, q, h => by cases h; exact ⟨rfl, rfl⟩
  | r :: l, i + 1, q, h => by
    have := pc_get l i q (by simpa using h)
    rw [show (i + 1) * 2 = i * 2 + 1 + 1 by omega, show i * 2 + 1 + 1 + 1 = (i * 2 + 1) + 1 + 1 by omega]
    exact this
def Pts (H : HH) (A : Option Addr) (n : Nat) (l : List (Int × Int)) : Prop := n = l.length ∧ Rd H A (pc l)
section
variable {base : Nat} {H : HH} {A : Option Addr} {n : Nat} {l : List (Int × Int)} {i : Int}
theorem Pts.ext {H' : HH} (h : Pts H A n l) (he : Ext H H') : Pts H' A n l := ⟨h.1, h.2.ext he⟩
theorem Pts.nil : Pts H none 0 [] := ⟨rfl, .inl rfl⟩
theorem addr_add' (a : Addr) (m n : Nat) : (a.add m).add n = a.add (m + n) := by
  unfold Addr.add
  by_cases hm : m = 0 <;> by_cases hn : n = 0 <;> simp_all [Nat.add_assoc]
theorem Pts.at (h : Pts H A n l) (c : Nat) (h0 : 0 ≤ i) (h1 : i < n) : ∃ a, AQ Try.prog (Instr.indexAt tPts (.slice A n c) (.int .i64 i)) (.pointer (some a)) ∧ PtAt H a (l.getD i.toNat (0, 0)) := by
  obtain ⟨e, h⟩ := h
  have hi : i.toNat < l.length := by omega
  have hq : l[i.toNat]? = some (l.getD i.toNat (0, 0)) := by simp [hi]
  obtain ⟨g1, g2⟩ := pc_get l _ _ hq
  obtain ⟨ad, rfl, hc⟩ := Rd.at h g1
  obtain ⟨ad', e', hc'⟩ := Rd.at h g2
  cases e'
  exact ⟨_, aq_ix unPts infoPt h0 h1, by rw [addr_add']; exact hc, by rw [addr_add']; exact hc'⟩
end
section
variable {p : Nat} [NeZero p]
/-- Points over Fin p, as words. -/
def vp (l : List (Pt p)) : List (Int × Int) := l.map fun q => (V q.1, V q.2)
@[simp] theorem vp_length (l : List (Pt p)) : (vp l).length = l.length := by simp [vp]
theorem vp_get (l : List (Pt p)) (i : Nat) : (vp l).getD i (0, 0) = (V (l.getD i (0, 0)).1, V (l.getD i (0, 0)).2) := by
  unfold vp
  rw [List.getD_eq_getElem?_getD, List.getD_eq_getElem?_getD, List.getElem?_map]
  cases l[i]? with
  | none => show ((0 : Int), (0 : Int)) = (V 0, V 0); rw [V_zero]
  | some q => rfl
end
def RowI (H : HH) (A : Option Addr) (n : Nat) (l : List Nat) : Prop := n = l.length ∧ Rd H A (ns l)
theorem RowI.ext {H H' : HH} {A : Option Addr} {n : Nat} {l : List Nat} (h : RowI H A n l) (he : Ext H H') : RowI H' A n l := ⟨h.1, h.2.ext he⟩
theorem RowI.nil {H : HH} : RowI H none 0 [] := ⟨rfl, .inl rfl⟩
theorem RowI.at {H : HH} {A : Option Addr} {n : Nat} {l : List Nat} (h : RowI H A n l) (c : Nat) {j : Nat} (hj : j < n) : ∃ a, AQ Try.prog (Instr.indexAt 31 (.slice A n c) (.int .i64 j)) (.pointer (some a)) ∧ QRun Try.prog (Instr.loadAt 3 (.pointer (some a))) H (.int .i64 ((l.getD j 0 : Nat) : Int)) := by
  obtain ⟨e, h⟩ := h
  subst e
  exact Piv.at h c hj
theorem own_rowI {base : Nat} {H : HH} {A : Option Addr} {n c : Nat} {l : List Nat} (h : Own base H 3 1 (.slice A n c) n (ns l)) : RowI H A n l := by
  obtain ⟨A', c', e, _, h1⟩ := h.slice
  cases e
  exact ⟨by have := h.1; rw [ns_length] at this; omega, h1⟩
end Go.Proofs.Ytbogcgkeabkliac.HL
end
section
set_option linter.unusedVariables false
set_option linter.unusedSimpArgs false
set_option maxRecDepth 100000
namespace Go.Proofs.Ytbogcgkeabkliac.HL
open Go
def poly_Eval.ann : Ann := ⟨fun k => bif Nat.beq k 5 then [] else [], fun k => false, fun k => bif Nat.beq k 3 then [0, 1, 2, 7, 8] else []⟩
def poly_Eval.P0 (base : Nat) (l : List Value) (H0 : HH) (K : Value → HH → Prop) : Prop := HCodeL Try.prog base 27 (codeAt [.r, .r, .l, .r, .b] (bodyOf Try.f39)) [0, 1, 2, 7, 8] l H0 (qAt Try.prog base 27 poly_Eval.ann [.r, .r, .l, .r, .b] [] (bodyOf Try.f39) (retQ Try.prog 27 Try.f39 K))
def poly_Eval.sh (base : Nat) (x0 : Int) (Ax1 : Option Addr) (lx1 cx1 : Nat) (x2 : Int) (H0 : HH) (K : Value → HH → Prop) : Prop :=
 poly_Eval.P0 base [(.int .u64 x0), (.slice Ax1 lx1 cx1), (.int .u64 x2), (.int .u64 0), (.int .i64 ((IntKind.i64.wrap ((((lx1 : Nat) : Int)) - 1))))] H0 K
theorem poly_Eval.spec {base : Nat} {x0 : Int} {Ax1 : Option Addr} {lx1 cx1 : Nat} {x2 : Int} {H0 : HH} {K : Value → HH → Prop} (h : poly_Eval.sh base x0 Ax1 lx1 cx1 x2 H0 K) : HCall Try.prog base 39 #[(.int .u64 x0), (.slice Ax1 lx1 cx1), (.int .u64 x2)] H0 K := spec_of_wpC (n := 27) (ann := poly_Eval.ann) mix Try.func39 (by kernel_rfl) (cast (show poly_Eval.sh base x0 Ax1 lx1 cx1 x2 H0 K = wpC Try.prog base 27 poly_Eval.ann (bodyOf Try.f39) (ofL [(.int .u64 x0), (.slice Ax1 lx1 cx1), (.int .u64 x2)]) H0 (retQ Try.prog 27 Try.f39 K) by kernel_rfl) h)
def poly_Eval.B0 (base : Nat) (x0 : Int) (Ax1 : Option Addr) (lx1 cx1 : Nat) (x2 : Int) (y7 : Int) (y8 : Int) (g : Fr) (N0 : Value → Value → HH → Prop) (H0 : HH) (K : Value → HH → Prop) : Prop :=
 if (decide ((y8 : Int) ≥ 0)) = true then
 ∃ n1 : Int, HCall Try.prog base 33 #[(.int .u64 x0), (.int .u64 y7), (.int .u64 x2)] H0 (fun v_ H_ => v_ = (.int .u64 n1) ∧ H_ = H0) ∧
 ∃ a2 : Addr, AQ Try.prog (Instr.indexAt 30 (.slice Ax1 lx1 cx1) (.int .i64 y8)) (.pointer ((some a2))) ∧
 ∃ n3 : Int, QRun Try.prog (Instr.loadAt 22 (.pointer ((some a2)))) H0 (.int .u64 n3) ∧
 ∃ n4 : Int, HCall Try.prog base 47 #[(.int .u64 x0), (.int .u64 n1), (.int .u64 n3)] H0 (fun v_ H_ => v_ = (.int .u64 n4) ∧ H_ = H0) ∧
 N0 (.int .u64 n4) (.int .i64 ((IntKind.i64.wrap (y8 - 1)))) H0
 else
 K (.int .u64 y7) H0
theorem poly_Eval.loop0 {base : Nat} {x0 : Int} {Ax1 : Option Addr} {lx1 cx1 : Nat} {x2 y7_i y8_i : Int} {H0 : HH} {K : Value → HH → Prop} (J : Nat → Int → Int → HH → Prop) (n : Nat) (h0 : J n y7_i y8_i H0)
    (hs : ∀ (n : Nat) (y7 : Int) (y8 : Int) (g : Fr) (H0 : HH), J n y7 y8 H0 → poly_Eval.B0 base x0 Ax1 lx1 cx1 x2 y7 y8 g (fun w7 w8 H => ∃ n', n' < n ∧ ∃ (y7' : Int) (y8' : Int), w7 = (.int .u64 y7') ∧ w8 = (.int .i64 y8') ∧ J n' y7' y8' H) H0 K) : poly_Eval.P0 base [(.int .u64 x0), (.slice Ax1 lx1 cx1), (.int .u64 x2), (.int .u64 y7_i), (.int .i64 y8_i)] H0 K := by
  refine loop_rule (ann := poly_Eval.ann) (body := codeAt [.r, .r, .l, .r, .b, .lp] (bodyOf Try.f39)) mix (by kernel_rfl) 67105152 (by kernel_rfl) [0, 1, 2] [(.int .u64 x0), (.slice Ax1 lx1 cx1), (.int .u64 x2)] (by kernel_rfl) (fun fr ⟨e0, e1, e2, e7, e8, _⟩ => ⟨e0, e1, e2, trivial⟩) (fun n g H => ∃ (y7 : Int) (y8 : Int), g 7 = (.int .u64 y7) ∧ g 8 = (.int .i64 y8) ∧ J n y7 y8 H) n (fun fr ⟨e0, e1, e2, e7, e8, _⟩ => ⟨y7_i, y8_i, e7, e8, h0⟩) ?_
  rintro n g H0 ⟨e0, e1, e2, _⟩ ⟨y7, y8, e7, e8, hJ⟩
  rw [← ov_eq (g := g) [(0, (.int .u64 x0)), (1, (.slice Ax1 lx1 cx1)), (2, (.int .u64 x2)), (7, (.int .u64 y7)), (8, (.int .i64 y8))] (by simp only [List.mem_cons, List.not_mem_nil, or_false, forall_eq_or_imp, forall_eq, false_implies, implies_true]; exact ⟨e0, e1, e2, e7, e8⟩)]
  have key : ∀ NN : Value → Value → HH → Prop, poly_Eval.B0 base x0 Ax1 lx1 cx1 x2 y7 y8 g NN H0 K = wpC Try.prog base 27 poly_Eval.ann (codeAt [.r, .r, .l, .r, .b, .lp] (bodyOf Try.f39)) (ov g [(0, (.int .u64 x0)), (1, (.slice Ax1 lx1 cx1)), (2, (.int .u64 x2)), (7, (.int .u64 y7)), (8, (.int .i64 y8))]) H0 (thenQ (fun fr H => NN (fr 7) (fr 8) H) (qAt Try.prog base 27 poly_Eval.ann [.r, .r, .l, .r, .b] [] (bodyOf Try.f39) (retQ Try.prog 27 Try.f39 K))) := fun NN => by kernel_rfl
  refine cast ?_ (hs n y7 y8 g H0 hJ)
  refine (key (fun w7 w8 H => ∃ n', n' < n ∧ ∃ (y7' : Int) (y8' : Int), w7 = (.int .u64 y7') ∧ w8 = (.int .i64 y8') ∧ J n' y7' y8' H)).trans ?_
  kernel_rfl
def poly_Trim.ann : Ann := ⟨fun k => [], fun k => false, fun k => []⟩
def poly_Trim.sh (base : Nat) (Ax0 : Option Addr) (lx0 cx0 : Nat) (H0 : HH) (K : Value → HH → Prop) : Prop :=
 HCall Try.prog base 27 #[(.slice Ax0 lx0 cx0)] H0 fun v1 H2 =>
 ∃ n3 : Int, v1 = (.int .i64 n3) ∧ ∃ (A4 : Option Addr) (l4 c4 : Nat), AQ Try.prog (Instr.sliceAt 30 (.slice Ax0 lx0 cx0) none (some (.int .i64 ((IntKind.i64.wrap (n3 + 1))))) none) (.slice A4 l4 c4) ∧
 HRun Try.prog base (Builtin.append_ #[30, 30] 30 #[(.slice none 0 0), (.slice A4 l4 c4)]) H2 fun v5 H6 =>
 ∃ (A7 : Option Addr) (l7 c7 : Nat), v5 = (.slice A7 l7 c7) ∧ K (.slice A7 l7 c7) H6
theorem poly_Trim.spec {base : Nat} {Ax0 : Option Addr} {lx0 cx0 : Nat} {H0 : HH} {K : Value → HH → Prop} (h : poly_Trim.sh base Ax0 lx0 cx0 H0 K) : HCall Try.prog base 36 #[(.slice Ax0 lx0 cx0)] H0 K := spec_of_wpC (n := 11) (ann := poly_Trim.ann) mix Try.func36 (by kernel_rfl) (cast (show poly_Trim.sh base Ax0 lx0 cx0 H0 K = wpC Try.prog base 11 poly_Trim.ann (bodyOf Try.f36) (ofL [(.slice Ax0 lx0 cx0)]) H0 (retQ Try.prog 11 Try.f36 K) by kernel_rfl) h)
def poly_Degree.ann : Ann := ⟨fun k => [], fun k => false, fun k => bif Nat.beq k 2 then [0, 3] else []⟩
def poly_Degree.P0 (base : Nat) (l : List Value) (H0 : HH) (K : Value → HH → Prop) : Prop := HCodeL Try.prog base 17 (codeAt [.r, .l, .r, .b] (bodyOf Try.f27)) [0, 3] l H0 (qAt Try.prog base 17 poly_Degree.ann [.r, .l, .r, .b] [] (bodyOf Try.f27) (retQ Try.prog 17 Try.f27 K))
def poly_Degree.sh (base : Nat) (Ax0 : Option Addr) (lx0 cx0 : Nat) (H0 : HH) (K : Value → HH → Prop) : Prop :=
 poly_Degree.P0 base [(.slice Ax0 lx0 cx0), (.int .i64 ((IntKind.i64.wrap ((((lx0 : Nat) : Int)) - 1))))] H0 K
theorem poly_Degree.spec {base : Nat} {Ax0 : Option Addr} {lx0 cx0 : Nat} {H0 : HH} {K : Value → HH → Prop} (h : poly_Degree.sh base Ax0 lx0 cx0 H0 K) : HCall Try.prog base 27 #[(.slice Ax0 lx0 cx0)] H0 K := spec_of_wpC (n := 17) (ann := poly_Degree.ann) mix Try.func27 (by kernel_rfl) (cast (show poly_Degree.sh base Ax0 lx0 cx0 H0 K = wpC Try.prog base 17 poly_Degree.ann (bodyOf Try.f27) (ofL [(.slice Ax0 lx0 cx0)]) H0 (retQ Try.prog 17 Try.f27 K) by kernel_rfl) h)
def poly_Degree.B0 (base : Nat) (Ax0 : Option Addr) (lx0 cx0 : Nat) (y3 : Int) (g : Fr) (N0 : Value → HH → Prop) (H0 : HH) (K : Value → HH → Prop) : Prop :=
 if (decide ((y3 : Int) ≥ 0)) = true then
 ∃ a1 : Addr, AQ Try.prog (Instr.indexAt 30 (.slice Ax0 lx0 cx0) (.int .i64 y3)) (.pointer ((some a1))) ∧
 ∃ n2 : Int, QRun Try.prog (Instr.loadAt 22 (.pointer ((some a1)))) H0 (.int .u64 n2) ∧
 if ((n2 : Int) != 0) = true then
 K (.int .i64 y3) H0
 else
 N0 (.int .i64 ((IntKind.i64.wrap (y3 - 1)))) H0
 else
 K (.int .i64 ((-1))) H0
theorem poly_Degree.loop0 {base : Nat} {Ax0 : Option Addr} {lx0 cx0 : Nat} {y3_i : Int} {H0 : HH} {K : Value → HH → Prop} (J : Nat → Int → HH → Prop) (n : Nat) (h0 : J n y3_i H0)
    (hs : ∀ (n : Nat) (y3 : Int) (g : Fr) (H0 : HH), J n y3 H0 → poly_Degree.B0 base Ax0 lx0 cx0 y3 g (fun w3 H => ∃ n', n' < n ∧ ∃ (y3' : Int), w3 = (.int .i64 y3') ∧ J n' y3' H) H0 K) : poly_Degree.P0 base [(.slice Ax0 lx0 cx0), (.int .i64 y3_i)] H0 K := by
  refine loop_rule (ann := poly_Degree.ann) (body := codeAt [.r, .l, .r, .b, .lp] (bodyOf Try.f27)) mix (by kernel_rfl) 130956 (by kernel_rfl) [0] [(.slice Ax0 lx0 cx0)] (by kernel_rfl) (fun fr ⟨e0, e3, _⟩ => ⟨e0, trivial⟩) (fun n g H => ∃ (y3 : Int), g 3 = (.int .i64 y3) ∧ J n y3 H) n (fun fr ⟨e0, e3, _⟩ => ⟨y3_i, e3, h0⟩) ?_
  rintro n g H0 ⟨e0, _⟩ ⟨y3, e3, hJ⟩
  rw [← ov_eq (g := g) [(0, (.slice Ax0 lx0 cx0)), (3, (.int .i64 y3))] (by simp only [List.mem_cons, List.not_mem_nil, or_false, forall_eq_or_imp, forall_eq, false_implies, implies_true]; exact ⟨e0, e3⟩)]
  have key : ∀ NN : Value → HH → Prop, poly_Degree.B0 base Ax0 lx0 cx0 y3 g NN H0 K = wpC Try.prog base 17 poly_Degree.ann (codeAt [.r, .l, .r, .b, .lp] (bodyOf Try.f27)) (ov g [(0, (.slice Ax0 lx0 cx0)), (3, (.int .i64 y3))]) H0 (thenQ (fun fr H => NN (fr 3) H) (qAt Try.prog base 17 poly_Degree.ann [.r, .l, .r, .b] [] (bodyOf Try.f27) (retQ Try.prog 17 Try.f27 K))) := fun NN => by kernel_rfl
  refine cast ?_ (hs n y3 g H0 hJ)
  refine (key (fun w3 H => ∃ n', n' < n ∧ ∃ (y3' : Int), w3 = (.int .i64 y3') ∧ J n' y3' H)).trans ?_
  kernel_rfl
def poly_DivMod.ann : Ann := ⟨fun k => bif Nat.beq k 14 then [17] else [], fun k => false, fun k => bif Nat.beq k 7 then [0, 2, 9, 11, 12] else bif Nat.beq k 12 then [0, 2, 9, 11, 12, 13, 14, 66, 67, 68] else []⟩
def poly_DivMod.P0 (base : Nat) (l : List Value) (H0 : HH) (K : Value → HH → Prop) : Prop := HCodeL Try.prog base 96 (codeAt [.r, .r, .r, .r, .r, .r, .l, .b] (bodyOf Try.f26)) [0, 2, 9, 11, 12] l H0 (qAt Try.prog base 96 poly_DivMod.ann [.r, .r, .r, .r, .r, .r, .l, .b] [] (bodyOf Try.f26) (retQ Try.prog 96 Try.f26 K))
def poly_DivMod.P1 (base : Nat) (N0 : Value → HH → Prop) (l : List Value) (H0 : HH) (K : Value → HH → Prop) : Prop := HCodeL Try.prog base 96 (codeAt [.r, .r, .r, .r, .r, .r, .l, .b, .lp, .r, .b, .r, .r, .r, .l, .r, .b] (bodyOf Try.f26)) [0, 2, 9, 11, 12, 13, 14, 66, 67, 68] l H0 (qAt Try.prog base 96 poly_DivMod.ann [.r, .r, .r, .r, .r, .r, .l, .b, .lp, .r, .b, .r, .r, .r, .l, .r, .b] [fun fr H => N0 (fr 11) H] (bodyOf Try.f26) (retQ Try.prog 96 Try.f26 K))
def poly_DivMod.sh (base : Nat) (x0 : Int) (Ax1 : Option Addr) (lx1 cx1 : Nat) (Ax2 : Option Addr) (lx2 cx2 : Nat) (H0 : HH) (K : Value → HH → Prop) : Prop :=
 HCall Try.prog base 36 #[(.slice Ax2 lx2 cx2)] H0 fun v1 H2 =>
 ∃ (A3 : Option Addr) (l3 c3 : Nat), v1 = (.slice A3 l3 c3) ∧ if ((((l3 : Nat) : Int) : Int) == 0) = true then
 K (.tuple #[(.slice none 0 0), (.slice none 0 0), (.int .i64 8)]) H2
 else
 ∃ a4 : Addr, AQ Try.prog (Instr.indexAt 30 (.slice A3 l3 c3) (.int .i64 ((IntKind.i64.wrap ((((l3 : Nat) : Int)) - 1))))) (.pointer ((some a4))) ∧
 ∃ n5 : Int, QRun Try.prog (Instr.loadAt 22 (.pointer ((some a4)))) H2 (.int .u64 n5) ∧
 HCall Try.prog base 37 #[(.int .u64 x0), (.int .u64 n5)] H2 fun v6 H7 =>
 ∃ n8 : Int, ∃ n9 : Int, v6 = (.tuple #[(.int .u64 n8), (.int .i64 n9)]) ∧ HCall Try.prog base 36 #[(.slice Ax1 lx1 cx1)] H7 fun v10 H11 =>
 ∃ (A12 : Option Addr) (l12 c12 : Nat), v10 = (.slice A12 l12 c12) ∧ ∃ n13 : Int, AQ Try.prog (Builtin.max_ #[3, 3] 3 #[(.int .i64 0), (.int .i64 ((IntKind.i64.wrap (((IntKind.i64.wrap ((((l12 : Nat) : Int)) - (((l3 : Nat) : Int))))) + 1))))]) (.int .i64 n13) ∧
 HRun Try.prog base (Instr.makeSlice 30 (.int .i64 n13) (.int .i64 n13)) H11 fun v14 H15 =>
 ∃ (A16 : Option Addr) (l16 c16 : Nat), v14 = (.slice A16 l16 c16) ∧ poly_DivMod.P0 base [(.int .u64 x0), (.slice A3 l3 c3), (.int .u64 n8), (.slice A12 l12 c12), (.slice A16 l16 c16)] H15 K
theorem poly_DivMod.spec {base : Nat} {x0 : Int} {Ax1 : Option Addr} {lx1 cx1 : Nat} {Ax2 : Option Addr} {lx2 cx2 : Nat} {H0 : HH} {K : Value → HH → Prop} (h : poly_DivMod.sh base x0 Ax1 lx1 cx1 Ax2 lx2 cx2 H0 K) : HCall Try.prog base 26 #[(.int .u64 x0), (.slice Ax1 lx1 cx1), (.slice Ax2 lx2 cx2)] H0 K := spec_of_wpC (n := 96) (ann := poly_DivMod.ann) mix Try.func26 (by kernel_rfl) (cast (show poly_DivMod.sh base x0 Ax1 lx1 cx1 Ax2 lx2 cx2 H0 K = wpC Try.prog base 96 poly_DivMod.ann (bodyOf Try.f26) (ofL [(.int .u64 x0), (.slice Ax1 lx1 cx1), (.slice Ax2 lx2 cx2)]) H0 (retQ Try.prog 96 Try.f26 K) by kernel_rfl) h)
def poly_DivMod.B0 (base : Nat) (x0 : Int) (Ax2 : Option Addr) (lx2 cx2 : Nat) (x9 : Int) (Ax12 : Option Addr) (lx12 cx12 : Nat) (Ay11 : Option Addr) (ly11 cy11 : Nat) (g : Fr) (N0 : Value → HH → Prop) (H0 : HH) (K : Value → HH → Prop) : Prop :=
 if (decide ((((ly11 : Nat) : Int) : Int) ≥ (((lx2 : Nat) : Int)))) = true then
 ∃ a17 : Addr, AQ Try.prog (Instr.indexAt 30 (.slice Ay11 ly11 cy11) (.int .i64 ((IntKind.i64.wrap ((((ly11 : Nat) : Int)) - 1))))) (.pointer ((some a17))) ∧
 ∃ n18 : Int, QRun Try.prog (Instr.loadAt 22 (.pointer ((some a17)))) H0 (.int .u64 n18) ∧
 HCall Try.prog base 33 #[(.int .u64 x0), (.int .u64 n18), (.int .u64 x9)] H0 fun v19 H20 =>
 ∃ n21 : Int, v19 = (.int .u64 n21) ∧ ∃ a22 : Addr, AQ Try.prog (Instr.indexAt 30 (.slice Ax12 lx12 cx12) (.int .i64 ((IntKind.i64.wrap ((((ly11 : Nat) : Int)) - (((lx2 : Nat) : Int))))))) (.pointer ((some a22))) ∧
 HRun Try.prog base (Instr.storeAt 22 (.pointer ((some a22))) (.int .u64 n21)) H20 fun _ H23 =>
 poly_DivMod.P1 base N0 [(.int .u64 x0), (.slice Ax2 lx2 cx2), (.int .u64 x9), (.slice Ay11 ly11 cy11), (.slice Ax12 lx12 cx12), (.int .i64 ((IntKind.i64.wrap ((((ly11 : Nat) : Int)) - (((lx2 : Nat) : Int)))))), (.int .u64 n21), (.slice Ax2 lx2 cx2), (.int .i64 (((lx2 : Nat) : Int))), (.int .i64 0)] H23 K
 else
 HCall Try.prog base 36 #[(.slice Ax12 lx12 cx12)] H0 fun v24 H25 =>
 ∃ (A26 : Option Addr) (l26 c26 : Nat), v24 = (.slice A26 l26 c26) ∧ K (.tuple #[(.slice A26 l26 c26), (.slice Ay11 ly11 cy11), (.int .i64 0)]) H25
theorem poly_DivMod.loop0 {base : Nat} {x0 : Int} {Ax2 : Option Addr} {lx2 cx2 : Nat} {x9 : Int} {Ax12 : Option Addr} {lx12 cx12 : Nat} {Ay11_i : Option Addr} {ly11_i cy11_i : Nat} {H0 : HH} {K : Value → HH → Prop} (J : Nat → Option Addr → Nat → Nat → HH → Prop) (n : Nat) (h0 : J n Ay11_i ly11_i cy11_i H0)
    (hs : ∀ (n : Nat) (Ay11 : Option Addr) (ly11 cy11 : Nat) (g : Fr) (H0 : HH), J n Ay11 ly11 cy11 H0 → poly_DivMod.B0 base x0 Ax2 lx2 cx2 x9 Ax12 lx12 cx12 Ay11 ly11 cy11 g (fun w11 H => ∃ n', n' < n ∧ ∃ (Ay11' : Option Addr) (ly11' cy11' : Nat), w11 = (.slice Ay11' ly11' cy11') ∧ J n' Ay11' ly11' cy11' H) H0 K) : poly_DivMod.P0 base [(.int .u64 x0), (.slice Ax2 lx2 cx2), (.int .u64 x9), (.slice Ay11_i ly11_i cy11_i), (.slice Ax12 lx12 cx12)] H0 K := by
  refine loop_rule (ann := poly_DivMod.ann) (body := codeAt [.r, .r, .r, .r, .r, .r, .l, .b, .lp] (bodyOf Try.f26)) mix (by kernel_rfl) 9903520314283033403100096512 (by kernel_rfl) [0, 2, 9, 12] [(.int .u64 x0), (.slice Ax2 lx2 cx2), (.int .u64 x9), (.slice Ax12 lx12 cx12)] (by kernel_rfl) (fun fr ⟨e0, e2, e9, e11, e12, _⟩ => ⟨e0, e2, e9, e12, trivial⟩) (fun n g H => ∃ (Ay11 : Option Addr) (ly11 cy11 : Nat), g 11 = (.slice Ay11 ly11 cy11) ∧ J n Ay11 ly11 cy11 H) n (fun fr ⟨e0, e2, e9, e11, e12, _⟩ => ⟨Ay11_i, ly11_i, cy11_i, e11, h0⟩) ?_
  rintro n g H0 ⟨e0, e2, e9, e12, _⟩ ⟨Ay11, ly11, cy11, e11, hJ⟩
  rw [← ov_eq (g := g) [(0, (.int .u64 x0)), (2, (.slice Ax2 lx2 cx2)), (9, (.int .u64 x9)), (11, (.slice Ay11 ly11 cy11)), (12, (.slice Ax12 lx12 cx12))] (by simp only [List.mem_cons, List.not_mem_nil, or_false, forall_eq_or_imp, forall_eq, false_implies, implies_true]; exact ⟨e0, e2, e9, e11, e12⟩)]
  have key : ∀ NN : Value → HH → Prop, poly_DivMod.B0 base x0 Ax2 lx2 cx2 x9 Ax12 lx12 cx12 Ay11 ly11 cy11 g NN H0 K = wpC Try.prog base 96 poly_DivMod.ann (codeAt [.r, .r, .r, .r, .r, .r, .l, .b, .lp] (bodyOf Try.f26)) (ov g [(0, (.int .u64 x0)), (2, (.slice Ax2 lx2 cx2)), (9, (.int .u64 x9)), (11, (.slice Ay11 ly11 cy11)), (12, (.slice Ax12 lx12 cx12))]) H0 (thenQ (fun fr H => NN (fr 11) H) (qAt Try.prog base 96 poly_DivMod.ann [.r, .r, .r, .r, .r, .r, .l, .b] [] (bodyOf Try.f26) (retQ Try.prog 96 Try.f26 K))) := fun NN => by kernel_rfl
  refine cast ?_ (hs n Ay11 ly11 cy11 g H0 hJ)
  refine (key (fun w11 H => ∃ n', n' < n ∧ ∃ (Ay11' : Option Addr) (ly11' cy11' : Nat), w11 = (.slice Ay11' ly11' cy11') ∧ J n' Ay11' ly11' cy11' H)).trans ?_
  kernel_rfl
def poly_DivMod.B1 (base : Nat) (N0 : Value → HH → Prop) (x0 : Int) (Ax2 : Option Addr) (lx2 cx2 : Nat) (x9 : Int) (Ax11 : Option Addr) (lx11 cx11 : Nat) (Ax12 : Option Addr) (lx12 cx12 : Nat) (x13 x14 : Int) (Ax66 : Option Addr) (lx66 cx66 : Nat) (x67 : Int) (y68 : Int) (g : Fr) (N1 : Value → HH → Prop) (H0 : HH) (K : Value → HH → Prop) : Prop :=
 if (decide ((y68 : Int) < x67)) = true then
 ∃ a27 : Addr, AQ Try.prog (Instr.indexAt 30 (.slice Ax66 lx66 cx66) (.int .i64 y68)) (.pointer ((some a27))) ∧
 ∃ n28 : Int, QRun Try.prog (Instr.loadAt 22 (.pointer ((some a27)))) H0 (.int .u64 n28) ∧
 ∃ a29 : Addr, AQ Try.prog (Instr.indexAt 30 (.slice Ax11 lx11 cx11) (.int .i64 ((IntKind.i64.wrap (x13 + y68))))) (.pointer ((some a29))) ∧
 ∃ n30 : Int, QRun Try.prog (Instr.loadAt 22 (.pointer ((some a29)))) H0 (.int .u64 n30) ∧
 ∃ n31 : Int, HCall Try.prog base 33 #[(.int .u64 x0), (.int .u64 x14), (.int .u64 n28)] H0 (fun v_ H_ => v_ = (.int .u64 n31) ∧ H_ = H0) ∧
 ∃ n32 : Int, HCall Try.prog base 38 #[(.int .u64 x0), (.int .u64 n30), (.int .u64 n31)] H0 (fun v_ H_ => v_ = (.int .u64 n32) ∧ H_ = H0) ∧
 ∃ a33 : Addr, AQ Try.prog (Instr.indexAt 30 (.slice Ax11 lx11 cx11) (.int .i64 ((IntKind.i64.wrap (x13 + y68))))) (.pointer ((some a33))) ∧
 HRun Try.prog base (Instr.storeAt 22 (.pointer ((some a33))) (.int .u64 n32)) H0 fun _ H34 =>
 N1 (.int .i64 ((IntKind.i64.wrap (y68 + 1)))) H34
 else
 HCall Try.prog base 36 #[(.slice Ax11 lx11 cx11)] H0 fun v35 H36 =>
 ∃ (A37 : Option Addr) (l37 c37 : Nat), v35 = (.slice A37 l37 c37) ∧ N0 (.slice A37 l37 c37) H36
theorem poly_DivMod.loop1 {base : Nat} {N0 : Value → HH → Prop} {x0 : Int} {Ax2 : Option Addr} {lx2 cx2 : Nat} {x9 : Int} {Ax11 : Option Addr} {lx11 cx11 : Nat} {Ax12 : Option Addr} {lx12 cx12 : Nat} {x13 x14 : Int} {Ax66 : Option Addr} {lx66 cx66 : Nat} {x67 y68_i : Int} {H0 : HH} {K : Value → HH → Prop} (J : Nat → Int → HH → Prop) (n : Nat) (h0 : J n y68_i H0)
    (hs : ∀ (n : Nat) (y68 : Int) (g : Fr) (H0 : HH), J n y68 H0 → poly_DivMod.B1 base N0 x0 Ax2 lx2 cx2 x9 Ax11 lx11 cx11 Ax12 lx12 cx12 x13 x14 Ax66 lx66 cx66 x67 y68 g (fun w68 H => ∃ n', n' < n ∧ ∃ (y68' : Int), w68 = (.int .i64 y68') ∧ J n' y68' H) H0 K) : poly_DivMod.P1 base N0 [(.int .u64 x0), (.slice Ax2 lx2 cx2), (.int .u64 x9), (.slice Ax11 lx11 cx11), (.slice Ax12 lx12 cx12), (.int .i64 x13), (.int .u64 x14), (.slice Ax66 lx66 cx66), (.int .i64 x67), (.int .i64 y68_i)] H0 K := by
  refine loop_rule (ann := poly_DivMod.ann) (body := codeAt [.r, .r, .r, .r, .r, .r, .l, .b, .lp, .r, .b, .r, .r, .r, .l, .r, .b, .lp] (bodyOf Try.f26)) mix (by kernel_rfl) 2475879783422855370445520896 (by kernel_rfl) [0, 2, 9, 11, 12, 13, 14, 66, 67] [(.int .u64 x0), (.slice Ax2 lx2 cx2), (.int .u64 x9), (.slice Ax11 lx11 cx11), (.slice Ax12 lx12 cx12), (.int .i64 x13), (.int .u64 x14), (.slice Ax66 lx66 cx66), (.int .i64 x67)] (by kernel_rfl) (fun fr ⟨e0, e2, e9, e11, e12, e13, e14, e66, e67, e68, _⟩ => ⟨e0, e2, e9, e11, e12, e13, e14, e66, e67, trivial⟩) (fun n g H => ∃ (y68 : Int), g 68 = (.int .i64 y68) ∧ J n y68 H) n (fun fr ⟨e0, e2, e9, e11, e12, e13, e14, e66, e67, e68, _⟩ => ⟨y68_i, e68, h0⟩) ?_
  rintro n g H0 ⟨e0, e2, e9, e11, e12, e13, e14, e66, e67, _⟩ ⟨y68, e68, hJ⟩
  rw [← ov_eq (g := g) [(0, (.int .u64 x0)), (2, (.slice Ax2 lx2 cx2)), (9, (.int .u64 x9)), (11, (.slice Ax11 lx11 cx11)), (12, (.slice Ax12 lx12 cx12)), (13, (.int .i64 x13)), (14, (.int .u64 x14)), (66, (.slice Ax66 lx66 cx66)), (67, (.int .i64 x67)), (68, (.int .i64 y68))] (by simp only [List.mem_cons, List.not_mem_nil, or_false, forall_eq_or_imp, forall_eq, false_implies, implies_true]; exact ⟨e0, e2, e9, e11, e12, e13, e14, e66, e67, e68⟩)]
  have key : ∀ NN : Value → HH → Prop, poly_DivMod.B1 base N0 x0 Ax2 lx2 cx2 x9 Ax11 lx11 cx11 Ax12 lx12 cx12 x13 x14 Ax66 lx66 cx66 x67 y68 g NN H0 K = wpC Try.prog base 96 poly_DivMod.ann (codeAt [.r, .r, .r, .r, .r, .r, .l, .b, .lp, .r, .b, .r, .r, .r, .l, .r, .b, .lp] (bodyOf Try.f26)) (ov g [(0, (.int .u64 x0)), (2, (.slice Ax2 lx2 cx2)), (9, (.int .u64 x9)), (11, (.slice Ax11 lx11 cx11)), (12, (.slice Ax12 lx12 cx12)), (13, (.int .i64 x13)), (14, (.int .u64 x14)), (66, (.slice Ax66 lx66 cx66)), (67, (.int .i64 x67)), (68, (.int .i64 y68))]) H0 (thenQ (fun fr H => NN (fr 68) H) (qAt Try.prog base 96 poly_DivMod.ann [.r, .r, .r, .r, .r, .r, .l, .b, .lp, .r, .b, .r, .r, .r, .l, .r, .b] [fun fr H => N0 (fr 11) H] (bodyOf Try.f26) (retQ Try.prog 96 Try.f26 K))) := fun NN => by kernel_rfl
  refine cast ?_ (hs n y68 g H0 hJ)
  refine (key (fun w68 H => ∃ n', n' < n ∧ ∃ (y68' : Int), w68 = (.int .i64 y68') ∧ J n' y68' H)).trans ?_
  kernel_rfl
end Go.Proofs.Ytbogcgkeabkliac.HL
end
section
set_option linter.unusedVariables false
set_option linter.unusedSimpArgs false
set_option linter.unusedSectionVars false
set_option maxHeartbeats 1000000
namespace Go.Proofs.Ytbogcgkeabkliac.HL
open Go Go.Proofs.YtbogcgkeabkliacNum Go.Proofs.Ytbogcgkeabkliac.FEv
theorem aq_to {P : Program} {t e sz : Nat} (ht : P.underlying t = some (.slice e)) (hs : (P.info? e).map (·.size) = some sz) {A : Option Addr} {n c : Nat} {kd : IntKind} {h : Int} (h0 : 0 ≤ h) (h1 : h ≤ c) :
    AQ P (Instr.sliceAt t (.slice A n c) none (some (.int kd h)) none) (.slice A h.toNat c) := fun W => by
  have he : P.elem t = e := by unfold Program.elem; rw [ht]
  have hh := run_slice_h W t A n c (he.symm ▸ ht) kd h h0 h1
  rw [run_sliceAt_slice W t _ _ _ _ (he.symm ▸ ht), hh, he, run_sz hs]
  have : (if c = 0 then A else A.map (·.add (0 * sz))) = A := by
    split
    · rfl
    · cases A with
      | none => rfl
      | some a => simp [Addr.add]
  simp only [Result.andThen, sliced, this, Nat.sub_zero]
theorem Rd.take {H : HH} {A : Option Addr} {xs : List Value} (h : Rd H A xs) (k : Nat) : Rd H A (xs.take k) := by
  rcases h with e | ⟨ad, e, hc⟩
  · exact .inl (by rw [e]; simp)
  · exact .inr ⟨ad, e, fun i u hu => hc i u (by
      rw [List.getElem?_take] at hu
      split at hu
      · exact hu
      · cases hu)⟩
theorem dec {j : Nat} (h : 0 < j) (hj : j ≤ 1000000) : IntKind.i64.wrap ((j : Int) - 1 - 1) = ((j - 1 : Nat) : Int) - 1 := by
  unfold IntKind.wrap
  simp [IntKind.bits, IntKind.signed]
  omega
theorem dec1 {j : Nat} (hj : j ≤ 1000000) : IntKind.i64.wrap ((j : Int) - 1) = (j : Int) - 1 := by
  unfold IntKind.wrap
  simp [IntKind.bits, IntKind.signed]
  omega
theorem w64 {x : Int} (h0 : -9223372036854775808 ≤ x) (h1 : x < 9223372036854775808) : IntKind.i64.wrap x = x := by
  unfold IntKind.wrap
  simp [IntKind.bits, IntKind.signed]
  omega
section
variable {p : Nat} [NeZero p] {base : Nat} {H : HH} {K : Value → HH → Prop} {A A' : Option Addr} {n n' c c' : Nat}
theorem drop_cf {f : List (Fin p)} {j : Nat} (h : j < f.length) : f.drop j = cf f j :: f.drop (j + 1) := getD_cons_drop h 0
theorem h_eval (hp : Sup p) {f : List (Fin p)} (h : Row H A n (vs f)) (hz : f.length ≤ 1000) (x : Fin p) (hk : K (.int .u64 (V (peval f x))) H) : HCall Try.prog base 39 #[.int .u64 p, .slice A n c, .int .u64 (V x)] H K := by
  refine poly_Eval.spec ?_
  unfold poly_Eval.sh
  have e1 := h.1
  rw [vs_length] at e1
  rw [dec1 (by omega)]
  refine poly_Eval.loop0 (fun k y z H' => H' = H ∧ ∃ j : Nat, j ≤ n ∧ k = j ∧ z = (j : Int) - 1 ∧ y = V (peval (f.drop j) x)) n ⟨rfl, n, Nat.le_refl _, rfl, rfl, by rw [List.drop_eq_nil_of_le (by omega), peval_nil, V_zero]⟩ ?_
  rintro k y z g H' ⟨rfl, j, hj, rfl, rfl, rfl⟩
  unfold poly_Eval.B0
  split
  · rename_i e
    have e := of_decide_eq_true e
    have hj0 : 0 < k := by omega
    obtain ⟨a1, q1, q2⟩ := h.at c (i := (k : Int) - 1) (by omega) (by omega)
    rw [show ((k : Int) - 1).toNat = k - 1 by omega, vs_get] at q2
    refine ⟨_, h_mul hp _ _ ⟨rfl, rfl⟩, a1, q1, _, q2, _, h_add hp _ _ ⟨rfl, rfl⟩, ?_⟩
    refine ⟨k - 1, by omega, _, _, rfl, rfl, rfl, k - 1, by omega, rfl, dec hj0 (by omega), ?_⟩
    rw [drop_cf (show k - 1 < f.length by omega), show k - 1 + 1 = k by omega, peval_cons]
    congr 1
    grind
  · rename_i e
    have e : ¬ ((k : Int) - 1 ≥ 0) := fun h => e (decide_eq_true h)
    have : k = 0 := by omega
    subst this
    exact hk
theorem h_reval (hp : Sup p) {f : List (Fin p)} (h : Row H A n (vs f)) (hz : f.length ≤ 1000) (x : Fin p) (hk : K (.int .u64 (V (peval f x))) H) : HCall Try.prog base 20 #[.int .u64 p, .slice A n c, .int .u64 (V x)] H K := by
  refine privityref04_Eval.spec ?_
  unfold privityref04_Eval.sh
  have e1 := h.1
  rw [vs_length] at e1
  refine privityref04_Eval.loop0 (fun k y z w H' => H' = H ∧ ∃ j : Nat, w = j ∧ j ≤ n ∧ k = n - j ∧ y = V (Go.Proofs.YtbogcgkeabkliacNum.evF j (cf f) x) ∧ z = V (x ^ j)) n ⟨rfl, 0, rfl, Nat.zero_le _, by omega, by rw [show Go.Proofs.YtbogcgkeabkliacNum.evF 0 (cf f) x = 0 from rfl, V_zero], by rw [pw_zero, V_one hp]⟩ ?_
  rintro k y z w g H' ⟨rfl, j, rfl, hj, hkk, rfl, rfl⟩
  unfold privityref04_Eval.B0
  split
  · rename_i e
    have e := of_decide_eq_true e
    obtain ⟨a1, q1, q2⟩ := h.at c (i := j) (by omega) e
    rw [Int.toNat_natCast, vs_get] at q2
    refine ⟨a1, q1, _, q2, h_rmul hp _ _ ⟨_, rfl, h_radd hp _ _ ⟨_, rfl, h_rmul hp _ _ ⟨_, rfl, ?_⟩⟩⟩⟩
    refine ⟨k - 1, by omega, _, _, _, rfl, rfl, rfl, rfl, j + 1, nxt (n := n) (by omega) (by unfold maxLen; omega), by omega, by omega, rfl, by rw [pw_succ]⟩
  · rename_i e
    have e : ¬ ((j : Int) < (n : Int)) := fun h => e (decide_eq_true h)
    have : j = f.length := by omega
    subst this
    exact hk
theorem trim_take {f : List (Fin p)} {j : Nat} (hj : j ≤ f.length) (hz : ∀ i, j ≤ i → cf f i = 0) (ht : j = 0 ∨ cf f (j - 1) ≠ 0) : ptrim f = f.take j ∧ (ptrim f).length = j := by
  have hl : (f.take j).length = j := by rw [List.length_take]; omega
  have hc : ∀ i, cf (f.take j) i = cf f i := fun i => by
    by_cases h : i < j
    · unfold cf
      rw [List.getD_eq_getElem?_getD, List.getD_eq_getElem?_getD, List.getElem?_take, if_pos h]
    · rw [cf_ge (by omega), hz i (by omega)]
  have htr : Tr (f.take j) := by
    rcases ht with h | h
    · left; rw [h]; simp
    · right; rw [hl, hc]; exact h
  have e : ptrim f = f.take j := by rw [← ptrim_of htr]; exact ptrim_congr (fun i => (hc i).symm)
  exact ⟨e, by rw [e, hl]⟩
theorem h_degree {f : List (Fin p)} (h : Row H A n (vs f)) (hz : f.length ≤ 1000) (hk : K (.int .i64 (((ptrim f).length : Int) - 1)) H) : HCall Try.prog base 27 #[.slice A n c] H K := by
  refine poly_Degree.spec ?_
  unfold poly_Degree.sh
  have e1 := h.1
  rw [vs_length] at e1
  rw [dec1 (by omega)]
  refine poly_Degree.loop0 (fun k z H' => H' = H ∧ ∃ j : Nat, j ≤ n ∧ k = j ∧ z = (j : Int) - 1 ∧ ∀ i, j ≤ i → cf f i = 0) n ⟨rfl, n, Nat.le_refl _, rfl, rfl, fun i hi => cf_ge (by omega)⟩ ?_
  rintro k z g H' ⟨rfl, j, hj, rfl, rfl, hzz⟩
  unfold poly_Degree.B0
  split
  · rename_i e
    have e := of_decide_eq_true e
    have hj0 : 0 < k := by omega
    obtain ⟨a1, q1, q2⟩ := h.at c (i := (k : Int) - 1) (by omega) (by omega)
    rw [show ((k : Int) - 1).toNat = k - 1 by omega, vs_get] at q2
    refine ⟨a1, q1, _, q2, ?_⟩
    split
    · rename_i e2
      have hne : cf f (k - 1) ≠ 0 := fun h => by rw [h, V_zero] at e2; simp at e2
      rw [(trim_take (by omega) hzz (.inr hne)).2] at hk
      exact hk
    · rename_i e2
      have heq : cf f (k - 1) = 0 := by
        have : V (cf f (k - 1)) = 0 := by simpa using e2
        exact V_eq_zero.1 this
      refine ⟨k - 1, by omega, _, rfl, rfl, k - 1, by omega, rfl, dec hj0 (by omega), fun i hi => ?_⟩
      by_cases e3 : i = k - 1
      · rw [e3]; exact heq
      · exact hzz i (by omega)
  · rename_i e
    have e : ¬ ((k : Int) - 1 ≥ 0) := fun h => e (decide_eq_true h)
    have : k = 0 := by omega
    subst this
    rw [(trim_take (by omega) hzz (.inl rfl)).2] at hk
    exact hk
/-- What is read is appended to nil: a row of the call's own. -/
theorem h_appnil {ty : Nat} {f : List (Fin p)} {m : Nat} (hm : m = f.length) (hl : m ≤ 100000) (hr : Rd H A (us (vs f))) {C : Option Addr → Nat → Nat → HH → Prop} (hk : ∀ A' c' H', Ext H H' → Own base H' 22 1 (.slice A' m c') m (us (vs f)) → Fresh H (.slice A' m c') → C A' m c' H') :
    HRun Try.prog base (Builtin.append_ #[30, 30] ty #[.slice none 0 0, .slice A m c]) H fun v H1 => ∃ (A' : Option Addr) (l' c' : Nat), v = .slice A' l' c' ∧ C A' l' c' H1 := by
  refine h_app (m := m) (ys := us (vs f)) un32 inf22 rfl (by decide) (Own.nil base H _ _) hr (by simp [hm]) (fun u hu => by obtain ⟨x, _, rfl⟩ := List.mem_map.1 hu; rfl) (fun e => ?_) (by omega) (by decide) (fun A' c' H' ho g => ⟨_, _, _, rfl, ?_⟩)
  · rcases hr with e2 | ⟨ad, e2, _⟩
    · rw [hm]; simpa [us, vs] using e2
    · rw [e] at e2; cases e2
  · rw [Nat.zero_add] at ho g ⊢
    refine hk A' c' H' (fun b o hb => g.keep b o (by simp [Value.ownBlock]) hb) (by simpa using ho) (fun b hb => ?_)
    rcases g.at_ with e | e
    · rw [e] at hb; simp [Value.ownBlock] at hb
    · exact e b hb
theorem h_trim {f : List (Fin p)} (h : Row H A n (vs f)) (hz : f.length ≤ 1000) (hc : n ≤ c) (hk : ∀ A' c' H', Ext H H' → Own base H' 22 1 (.slice A' (ptrim f).length c') (ptrim f).length (us (vs (ptrim f))) → Fresh H (.slice A' (ptrim f).length c') → K (.slice A' (ptrim f).length c') H') : HCall Try.prog base 36 #[.slice A n c] H K := by
  refine poly_Trim.spec ?_
  unfold poly_Trim.sh
  have e1 := h.1
  rw [vs_length] at e1
  have hl := ptrim_len f
  have ht : ptrim f = f.take (ptrim f).length := by
    have htr := tr_ptrim f
    have hcf := cf_ptrim f
    refine (trim_take hl (fun i hi => ?_) ?_).1
    · rw [← hcf]; exact cf_ge hi
    · rcases htr with h | h
      · left; rw [h]; rfl
      · right; rwa [hcf] at h
  refine h_degree h hz ⟨_, rfl, ?_⟩
  rw [w64 (by omega) (by omega), show ((ptrim f).length : Int) - 1 + 1 = ((ptrim f).length : Nat) by omega]
  refine ⟨_, _, _, aq_to un32 info22 (by omega) (by omega), ?_⟩
  rw [Int.toNat_natCast]
  refine h_appnil rfl (by omega) ?_ (fun A' c' H' X o F => hk A' c' H' X o F)
  have : us (vs (ptrim f)) = (us (vs f)).take (ptrim f).length := by
    conv => lhs; rw [ht]
    unfold us vs
    rw [List.map_take, List.map_take]
  rw [this]
  exact h.2.take _
end
end Go.Proofs.Ytbogcgkeabkliac.HL
end
section
set_option linter.unusedVariables false
set_option linter.unusedSimpArgs false
set_option linter.unusedSectionVars false
set_option maxHeartbeats 1000000
namespace Go.Proofs.Ytbogcgkeabkliac.HL
open Go Go.Proofs.YtbogcgkeabkliacNum Go.Proofs.Ytbogcgkeabkliac.FEv
section
variable {base : Nat} {H H' F : HH} {v : Value} {b : Nat}
theorem Own.same {T sz n : Nat} {xs : List Value} (h : Own base H T sz v n xs) (hb : v.ownBlock ≠ some b) (he : ∀ k, k ≠ b → H' k = H k) : Own base H' T sz v n xs :=
  h.move (fun g o hg ho => by rw [he g (fun e => hb (by rw [hg, e]))]; exact ho)
theorem Frz.same (h : Frz F H v) (hF : F b = none) (he : ∀ k, k ≠ b → H' k = H k) : Frz F H' v :=
  ⟨fun k o hk => by rw [he k (fun e => by rw [e, hF] at hk; cases hk)]; exact h.ext k o hk, h.off⟩
end
section
variable {p : Nat} [NeZero p] {base : Nat} {H : HH} {K : Value → HH → Prop} {A A' : Option Addr} {n n' c c' : Nat}
theorem h_put2 {T q c : Nat} {g : Nat} {xs : List Value} (hT : (Try.prog.info? T).map (·.size) = some 1) (ho : Own base H T 1 (.slice (some ⟨g, 0, none⟩) q c) q xs) {j : Nat} (hj : j < q) {u : Value} (hu : u.oneCell' = true) {K : Unit → HH → Prop}
    (hk : ∀ H', Own base H' T 1 (.slice (some ⟨g, 0, none⟩) q c) q (xs.set j u) → (∀ k, k ≠ g → H' k = H k) → K () H') : HRun Try.prog base (Instr.storeAt T (.pointer (some ⟨g, j, none⟩)) u) H K := by
  obtain ⟨g', cur, e1, e2, e3, e4, e5⟩ := ho.at hj
  cases e1
  refine h_st hT hu e3 e2 e4 (hk _ (ho.put (by simp [Value.ownBlock]) e3 j u) (fun k hk => upd_ne _ hk))
theorem conv_delta (f g : Nat → Fin p) (n j : Nat) (c : Fin p) : conv (fun i => f i + if i = n then c else 0) g j = conv f g j + if n ≤ j then c * g (j - n) else 0 := by
  rw [conv_addl]
  congr 1
  unfold conv
  by_cases h : n ≤ j
  · rw [sumF_one (j := n) (by omega) (fun i _ hi => by show (if i = n then c else 0) * _ = 0; rw [if_neg hi]; grind), if_pos h]
    show (if n = n then c else 0) * g (j - n) = _
    rw [if_pos rfl]
  · rw [if_neg h, sumF_ext (m := 0) (Nat.zero_le _) (fun i _ hi => by show (if i = n then c else 0) * _ = 0; rw [if_neg (by omega)]; grind)]
    rfl
theorem cf_setL (l : List (Fin p)) (n j : Nat) (c : Fin p) (h : n < l.length) : cf (l.set n c) j = if j = n then c else cf l j := by
  unfold cf
  rw [List.getD_eq_getElem?_getD, List.getD_eq_getElem?_getD, List.getElem?_set]
  by_cases e : n = j
  · subst e
    rw [if_pos rfl, if_pos h, if_pos rfl]
    rfl
  · rw [if_neg e, if_neg (fun h => e h.symm)]
/-- The rest, from which i entries of k b have gone, s places up. -/
def lessL (r b : List (Fin p)) (k : Fin p) (s i : Nat) : List (Fin p) := (List.range r.length).map fun x => if s ≤ x ∧ x < s + i then cf r x - k * cf b (x - s) else cf r x
@[simp] theorem lessL_length (r b : List (Fin p)) (k : Fin p) (s i : Nat) : (lessL r b k s i).length = r.length := by simp [lessL]
theorem lessL_zero (r b : List (Fin p)) (k : Fin p) (s : Nat) : lessL r b k s 0 = r := by
  conv => rhs; rw [← range_cf r]
  unfold lessL
  apply List.map_congr_left
  intro x _
  rw [if_neg (by omega)]
theorem lessL_step {r b : List (Fin p)} {k : Fin p} {s i : Nat} (h : s + i < r.length) : (lessL r b k s i).set (s + i) (cf r (s + i) - k * cf b i) = lessL r b k s (i + 1) := by
  unfold lessL
  refine set_range _ _ h _ (by rw [if_pos (by omega), Nat.add_sub_cancel_left]) (fun x _ hx => ?_)
  by_cases h1 : s ≤ x ∧ x < s + i
  · rw [if_pos h1, if_pos (by omega)]
  · rw [if_neg h1, if_neg (by omega)]
theorem cf_lessL {r b : List (Fin p)} {k : Fin p} {s i x : Nat} (hx : x < r.length) : cf (lessL r b k s i) x = if s ≤ x ∧ x < s + i then cf r x - k * cf b (x - s) else cf r x := by
  unfold lessL
  rw [cf_map_range, if_pos hx]
theorem cf_lessL_all {r b : List (Fin p)} {k : Fin p} {s : Nat} (h : s + b.length = r.length) (x : Nat) : cf (lessL r b k s b.length) x = cf r x - if s ≤ x then k * cf b (x - s) else 0 := by
  by_cases hx : x < r.length
  · rw [cf_lessL hx]
    by_cases h1 : s ≤ x
    · rw [if_pos (by omega), if_pos h1]
    · rw [if_neg (by omega), if_neg h1]; grind
  · rw [cf_ge (by simp; omega), cf_ge (l := r) (by omega)]
    split
    · rw [cf_ge (l := b) (by omega)]; grind
    · grind
theorem h_divmod (hp : Sup p) {a b : List (Fin p)} (h : Row H A n (vs a)) (h' : Row H A' n' (vs b)) (hz : a.length ≤ 1000) (hz' : b.length ≤ 1000) (hc : n ≤ c) (hc' : n' ≤ c')
    (hk0 : ptrim b = [] → ∀ H', Ext H H' → K (.tuple #[.slice none 0 0, .slice none 0 0, .int .i64 8]) H')
    (hk : ∀ q r, IsDiv (ptrim a) (ptrim b) q r → q.length ≤ a.length → ∀ Aq cq Ar cr H', Ext H H' → Row H' Aq q.length (vs q) → Row H' Ar r.length (vs r) → q.length ≤ cq → K (.tuple #[.slice Aq q.length cq, .slice Ar r.length cr, .int .i64 0]) H') :
    HCall Try.prog base 26 #[.int .u64 p, .slice A n c, .slice A' n' c'] H K := by
  refine poly_DivMod.spec ?_
  unfold poly_DivMod.sh
  have hla := ptrim_len a
  have hlb := ptrim_len b
  have htb := tr_ptrim b
  have hta := tr_ptrim a
  have hdiv : ∀ q r, Tr q → Tr r → r.length < (ptrim b).length → (∀ i, cf (ptrim a) i = conv (cf q) (cf (ptrim b)) i + cf r i) → IsDiv (ptrim a) (ptrim b) q r := fun q r h1 h2 h3 h4 => ⟨h1, h2, h3, h4⟩
  refine h_trim h' hz' hc' (fun AB cB H2 X2 oB fB => ⟨_, _, _, rfl, ?_⟩)
  split
  · rename_i e
    exact hk0 (List.eq_nil_of_length_eq_zero (by simpa using e)) H2 X2
  rename_i e
  have hb0 : 0 < (ptrim b).length := by
    have : ¬ (ptrim b).length = 0 := by simpa using e
    omega
  obtain ⟨gB, curB, eB1, eB2, eB3, eB4, eB5⟩ := oB.at (j := (ptrim b).length - 1) (by omega)
  have rB := oB.row
  have hbt : cf (ptrim b) ((ptrim b).length - 1) ≠ 0 := by
    rcases htb with h | h
    · rw [h] at hb0; simp at hb0
    · exact h
  have ew : ∀ (m : Nat), 0 < m → m ≤ 100000 → IntKind.i64.wrap ((m : Int) - 1) = ((m - 1 : Nat) : Int) := fun m h1 h2 => by rw [dec1 (by omega)]; omega
  rw [ew _ hb0 (by omega)]
  obtain ⟨a1, q1, q2⟩ := rB.at cB (i := ((ptrim b).length - 1 : Nat)) (by omega) (by omega)
  rw [Int.toNat_natCast, vs_get] at q2
  refine ⟨a1, q1, _, q2, h_inv hp hbt ⟨_, _, rfl, ?_⟩⟩
  refine h_trim (h.ext X2) hz hc (fun AR cR H3 X3 oR fR => ⟨_, _, _, rfl, ?_⟩)
  generalize hN : ((ptrim a).length + 1 - (ptrim b).length) = N
  have hmax : (Builtin.max_ #[3, 3] 3 #[.int .i64 0, .int .i64 (IntKind.i64.wrap (IntKind.i64.wrap (((ptrim a).length : Int) - ((ptrim b).length : Int)) + 1))]) = (Builtin.max_ #[3, 3] 3 #[.int .i64 0, .int .i64 (((ptrim a).length : Int) - ((ptrim b).length : Int) + 1)]) := by
    rw [w64 (x := ((ptrim a).length : Int) - ((ptrim b).length : Int)) (by omega) (by omega), w64 (by omega) (by omega)]
  rw [hmax]
  refine ⟨(N : Int), fun W => ?_, ?_⟩
  · have e2 : (N : Int) = if ((ptrim a).length : Int) - ((ptrim b).length : Int) + 1 > 0 then ((ptrim a).length : Int) - ((ptrim b).length : Int) + 1 else 0 := by split <;> omega
    rw [e2]
    simp [Builtin.max_, Builtin.max2]
  refine h_zeros (p := p) (q := N) (by omega) (fun gq H4 hbase oQ fQ => ⟨_, _, _, rfl, ?_⟩)
  have rB3 := rB.ext X3
  have fR2 : Frz H2 H4 (.slice AR (ptrim a).length cR) := ⟨X3.trans fQ.ext, fR⟩
  have fQ2 : Frz H2 H4 (.slice (some ⟨gq, 0, none⟩) N N) := ⟨X3.trans fQ.ext, fun b hb => X3.none (fQ.off b hb)⟩
  have gqb : (Value.slice (some ⟨gq, 0, none⟩) N N).ownBlock = some gq := by simp [Value.ownBlock]
  have dist : (Value.slice AR (ptrim a).length cR).ownBlock ≠ some gq := fun e => by
    obtain ⟨_, cur, hc⟩ := oR.known e
    rw [fQ.off gq gqb] at hc; cases hc
  have oR4 := oR.ext fQ.ext
  clear oR fR
  refine poly_DivMod.loop0 (fun k Ar lr cr H' => ∃ r q : List (Fin p), lr = r.length ∧ k = r.length ∧ Tr r ∧ r.length ≤ (ptrim a).length ∧ q.length = N ∧ (∀ i, cf (ptrim a) i = conv (cf q) (cf (ptrim b)) i + cf r i) ∧ (∀ i, i + (ptrim b).length ≤ r.length → cf q i = 0) ∧
      Own base H' 22 1 (.slice Ar r.length cr) r.length (us (vs r)) ∧ Frz H2 H' (.slice Ar r.length cr) ∧ Own base H' 22 1 (.slice (some ⟨gq, 0, none⟩) N N) N (us (vs q)) ∧ Frz H2 H' (.slice (some ⟨gq, 0, none⟩) N N) ∧ (Value.slice Ar r.length cr).ownBlock ≠ some gq) (ptrim a).length
    ⟨ptrim a, List.replicate N 0, rfl, rfl, hta, Nat.le_refl _, by simp, fun i => by
      have hz0 : ∀ j, cf (List.replicate N (0 : Fin p)) j = 0 := fun j => by
        unfold cf
        rw [List.getD_eq_getElem?_getD, List.getElem?_replicate]
        split <;> rfl
      have : conv (cf (List.replicate N (0 : Fin p))) (cf (ptrim b)) i = 0 := by
        unfold conv
        rw [sumF_congr (g := fun _ => 0) (fun j _ => by rw [hz0]; grind), sumF_zero]
      rw [this]; grind, fun i _ => by
        unfold cf
        rw [List.getD_eq_getElem?_getD, List.getElem?_replicate]
        split <;> rfl, oR4, fR2, oQ, fQ2, dist⟩ ?_
  rintro k Ar lr cr g H5 ⟨r, q, rfl, rfl, htr, hrl, hql, heq, hqz, oR5, fR5, oQ5, fQ5, hd5⟩
  unfold poly_DivMod.B0
  have rB5 : Row H5 AB (ptrim b).length (vs (ptrim b)) := rB.ext fR5.ext
  split
  · rename_i e1
    have e1 := of_decide_eq_true e1
    have hlb2 : (ptrim b).length ≤ r.length := by omega
    obtain ⟨gr, curr, er1, er2, er3, er4, er5⟩ := oR5.at (j := r.length - 1) (by omega)
    cases er1
    rw [ew r.length (by omega) (by omega), w64 (x := (r.length : Int) - ((ptrim b).length : Int)) (by omega) (by omega), show (r.length : Int) - ((ptrim b).length : Int) = ((r.length - (ptrim b).length : Nat) : Int) by omega]
    have rR5 := oR5.row
    obtain ⟨a2, p1, p2⟩ := rR5.at cr (i := (r.length - 1 : Nat)) (by omega) (by omega)
    rw [Int.toNat_natCast, vs_get] at p2
    refine ⟨a2, p1, _, p2, h_mul hp _ _ ⟨_, rfl, _, aq_own un32 info22 (show r.length - (ptrim b).length < N by omega), ?_⟩⟩
    refine h_put2 info22 oQ5 (by omega) rfl (fun H6 oQ6 s6 => ?_)
    rw [us_set, vs_set] at oQ6
    have hgq : H2 gq = none := fQ5.off gq gqb
    have oR6 := oR5.same hd5 s6
    have fR6 := fR5.same hgq s6
    have fQ6 := fQ5.same hgq s6
    have rB6 : Row H6 AB (ptrim b).length (vs (ptrim b)) := rB.ext fR6.ext
    generalize hs : r.length - (ptrim b).length = s at *
    generalize hkk : cf r (r.length - 1) * inv (cf (ptrim b) ((ptrim b).length - 1)) = kk at *
    have hgr : (Value.slice (some ⟨gr, 0, none⟩) r.length cr).ownBlock = some gr := by simp [Value.ownBlock]
    have hne : gr ≠ gq := fun e => hd5 (by rw [hgr, e])
    refine poly_DivMod.loop1 (fun k1 y H' => ∃ i : Nat, y = i ∧ i ≤ (ptrim b).length ∧ k1 = (ptrim b).length - i ∧ Own base H' 22 1 (.slice (some ⟨gr, 0, none⟩) r.length cr) r.length (us (vs (lessL r (ptrim b) kk s i))) ∧ Frz H2 H' (.slice (some ⟨gr, 0, none⟩) r.length cr) ∧ Own base H' 22 1 (.slice (some ⟨gq, 0, none⟩) N N) N (us (vs (q.set s kk))) ∧ Frz H2 H' (.slice (some ⟨gq, 0, none⟩) N N)) (ptrim b).length
      ⟨0, rfl, Nat.zero_le _, by omega, by rw [lessL_zero]; exact oR6, fR6, oQ6, fQ6⟩ ?_
    rintro k1 y g H7 ⟨i, rfl, hi, hk1, oR7, fR7, oQ7, fQ7⟩
    unfold poly_DivMod.B1
    have rB7 : Row H7 AB (ptrim b).length (vs (ptrim b)) := rB.ext fR7.ext
    split
    · rename_i e3
      have e3 := of_decide_eq_true e3
      have hib : i < (ptrim b).length := by omega
      obtain ⟨a3, r1, r2⟩ := rB7.at cB (i := i) (by omega) e3
      rw [Int.toNat_natCast, vs_get] at r2
      have hsi : IntKind.i64.wrap (((s : Nat) : Int) + (i : Int)) = ((s + i : Nat) : Int) := by rw [w64 (by omega) (by omega)]; omega
      rw [hsi]
      have hw := oR7.row
      obtain ⟨a4, t1, t2⟩ := hw.at cr (i := (s + i : Nat)) (by omega) (by omega)
      rw [Int.toNat_natCast, vs_get, cf_lessL (by omega), if_neg (by omega)] at t2
      refine ⟨a3, r1, _, r2, a4, t1, _, t2, _, h_mul hp _ _ ⟨rfl, rfl⟩, _, h_sub hp _ _ ⟨rfl, rfl⟩, _, aq_own un32 info22 (show s + i < r.length by omega), ?_⟩
      refine h_put2 info22 oR7 (by omega) rfl (fun H8 oR8 s8 => ?_)
      rw [us_set, vs_set, lessL_step (by omega)] at oR8
      have hgr2 : H2 gr = none := fR7.off gr hgr
      exact ⟨k1 - 1, by omega, _, rfl, i + 1, nxt (n := (ptrim b).length) (by omega) (by unfold maxLen; omega), by omega, by omega, oR8, fR7.same hgr2 s8, oQ7.same (by rw [gqb]; exact fun e => hne (Option.some.inj e).symm) s8, fQ7.same hgr2 s8⟩
    · rename_i e3
      have e3 : ¬ ((i : Int) < _) := fun h => e3 (decide_eq_true h)
      have : i = (ptrim b).length := by omega
      subst this
      have hall := cf_lessL_all (r := r) (b := ptrim b) (k := kk) (s := s) (by omega)
      refine h_trim oR7.row (by simp; omega) oR7.le (fun A9 c9 H9 X9 o9 f9 => ⟨_, _, _, rfl, ?_⟩)
      have htop : cf (lessL r (ptrim b) kk s (ptrim b).length) (r.length - 1) = 0 := by
        rw [hall, if_pos (by omega), ← hkk, show r.length - 1 - s = (ptrim b).length - 1 by omega]
        have := mul_inv hp.pr hbt
        grind
      have hlt : (ptrim (lessL r (ptrim b) kk s (ptrim b).length)).length < r.length := by
        have h1 := ptrim_len (lessL r (ptrim b) kk s (ptrim b).length)
        rw [lessL_length] at h1
        rcases Nat.lt_or_ge (ptrim (lessL r (ptrim b) kk s (ptrim b).length)).length r.length with h2 | h2
        · exact h2
        · exfalso
          have e9 : (ptrim (lessL r (ptrim b) kk s (ptrim b).length)).length = r.length := by omega
          rcases tr_ptrim (lessL r (ptrim b) kk s (ptrim b).length) with h3 | h3
          · rw [h3] at e9; simp at e9; omega
          · rw [e9, cf_ptrim, htop] at h3; exact h3 rfl
      have hq2 : ∀ j, cf (q.set s kk) j = cf q j + if j = s then kk else 0 := fun j => by
        rw [cf_setL q s j kk (by omega)]
        split
        · rename_i e; rw [e, hqz s (by omega)]; grind
        · grind
      refine ⟨_, hlt, _, _, _, rfl, ptrim (lessL r (ptrim b) kk s (ptrim b).length), q.set s kk, rfl, rfl, tr_ptrim _, by omega, by simpa using hql, fun j => ?_, fun j hj => ?_, o9, ⟨fR7.ext.trans X9, fun b hb => fR7.ext.none (f9 b hb)⟩, oQ7.ext X9, fQ7.more X9, fun e => ?_⟩
      · rw [conv_congr (fun i _ => hq2 i) (fun _ _ => rfl), conv_delta, cf_ptrim (lessL r (ptrim b) kk s (ptrim b).length), hall, heq j]
        split <;> grind
      · rw [hq2, hqz j (by omega), if_neg (by omega)]; grind
      · obtain ⟨_, cur, hcq⟩ := oQ7.known gqb
        rw [f9 gq e] at hcq; cases hcq
  · rename_i e1
    have e1 : ¬ ((r.length : Int) ≥ _) := fun h => e1 (decide_eq_true h)
    refine h_trim oQ5.row (by omega) (Nat.le_refl _) (fun A9 c9 H9 X9 o9 f9 => ⟨_, _, _, rfl, ?_⟩)
    have hq9 := ptrim_len q
    exact hk (ptrim q) r (hdiv _ _ (tr_ptrim q) htr (by omega) (fun i => by rw [heq i]; congr 1; exact conv_congr (fun j _ => (cf_ptrim q j).symm) (fun _ _ => rfl))) (by omega) _ _ _ _ H9 (X2.trans (fR5.ext.trans X9)) o9.row (oR5.ext X9).row o9.le
end
end Go.Proofs.Ytbogcgkeabkliac.HL
end
section
set_option linter.unusedVariables false
set_option linter.unusedSimpArgs false
set_option maxRecDepth 100000
namespace Go.Proofs.Ytbogcgkeabkliac.HL
open Go
def reedsolomon_may.ann : Ann := ⟨fun k => [], fun k => false, fun k => bif Nat.beq k 5 then [7, 39, 40, 41] else []⟩
def reedsolomon_may.P0 (base : Nat) (l : List Value) (H0 : HH) (K : Value → HH → Prop) : Prop := HCodeL Try.prog base 53 (codeAt [.r, .r, .r, .l, .r, .b] (bodyOf Try.f24)) [7, 39, 40, 41] l H0 (qAt Try.prog base 53 reedsolomon_may.ann [.r, .r, .r, .l, .r, .b] [] (bodyOf Try.f24) (retQ Try.prog 53 Try.f24 K))
def reedsolomon_may.sh (base : Nat) (Ax0 : Option Addr) (lx0 cx0 : Nat) (x1 : Int) (x2 : Int) (H0 : HH) (K : Value → HH → Prop) : Prop :=
 if (decide ((x1 : Int) < 0)) = false then
 if (decide ((x2 : Int) < 0)) = false then
 if (decide ((x2 : Int) > (((lx0 : Nat) : Int)))) = false then
 if (decide ((x1 : Int) > (((lx0 : Nat) : Int)))) = false then
 if (decide ((((lx0 : Nat) : Int) : Int) < ((IntKind.i64.wrap (((IntKind.i64.wrap (x1 + 1))) + ((IntKind.i64.wrap (2 * x2)))))))) = true then
 K (.bool false) H0
 else
 HRun Try.prog base (Instr.makeMap 66 none) H0 fun v1 H2 =>
 ∃ r3 : Option Nat, v1 = (.map r3) ∧ reedsolomon_may.P0 base [(.map r3), (.slice Ax0 lx0 cx0), (.int .i64 (((lx0 : Nat) : Int))), (.int .i64 0)] H2 K
 else
 K (.bool false) H0
 else
 K (.bool false) H0
 else
 K (.bool false) H0
 else
 K (.bool false) H0
theorem reedsolomon_may.spec {base : Nat} {Ax0 : Option Addr} {lx0 cx0 : Nat} {x1 : Int} {x2 : Int} {H0 : HH} {K : Value → HH → Prop} (h : reedsolomon_may.sh base Ax0 lx0 cx0 x1 x2 H0 K) : HCall Try.prog base 24 #[(.slice Ax0 lx0 cx0), (.int .i64 x1), (.int .i64 x2)] H0 K := spec_of_wpC (n := 53) (ann := reedsolomon_may.ann) mix Try.func24 (by kernel_rfl) (cast (show reedsolomon_may.sh base Ax0 lx0 cx0 x1 x2 H0 K = wpC Try.prog base 53 reedsolomon_may.ann (bodyOf Try.f24) (ofL [(.slice Ax0 lx0 cx0), (.int .i64 x1), (.int .i64 x2)]) H0 (retQ Try.prog 53 Try.f24 K) by kernel_rfl) h)
def reedsolomon_may.B0 (base : Nat) (x7 : Option Nat) (Ax39 : Option Addr) (lx39 cx39 : Nat) (x40 : Int) (y41 : Int) (g : Fr) (N0 : Value → HH → Prop) (H0 : HH) (K : Value → HH → Prop) : Prop :=
 if (decide ((y41 : Int) < x40)) = true then
 ∃ a4 : Addr, AQ Try.prog (Instr.indexAt 23 (.slice Ax39 lx39 cx39) (.int .i64 y41)) (.pointer ((some a4))) ∧
 ∃ n5 : Int, ∃ n6 : Int, QRun Try.prog (Instr.loadAt 29 (.pointer ((some a4)))) H0 (.agg #[(.int .u64 n5), (.int .u64 n6)]) ∧
 HRun Try.prog base (Instr.alloc 29 true (.tuple #[])) H0 fun v7 H8 =>
 ∃ a9 : Addr, v7 = (.pointer ((some a9))) ∧ HRun Try.prog base (Instr.storeAt 29 (.pointer ((some a9))) (.agg #[(.int .u64 n5), (.int .u64 n6)])) H8 fun _ H10 =>
 ∃ a11 : Addr, AQ Try.prog (Instr.fieldAt 29 (.pointer ((some a9))) 0) (.pointer ((some a11))) ∧
 ∃ n12 : Int, QRun Try.prog (Instr.loadAt 22 (.pointer ((some a11)))) H10 (.int .u64 n12) ∧
 ∃ b13 : Bool, QRun Try.prog (Instr.lookup 66 (.map x7) (.int .u64 n12) false) H10 (.bool b13) ∧
 if b13 = true then
 K (.bool false) H10
 else
 ∃ a14 : Addr, AQ Try.prog (Instr.fieldAt 29 (.pointer ((some a9))) 0) (.pointer ((some a14))) ∧
 ∃ n15 : Int, QRun Try.prog (Instr.loadAt 22 (.pointer ((some a14)))) H10 (.int .u64 n15) ∧
 HRun Try.prog base (Instr.mapUpdate 66 (.map x7) (.int .u64 n15) (.bool true)) H10 fun _ H16 =>
 N0 (.int .i64 ((IntKind.i64.wrap (y41 + 1)))) H16
 else
 K (.bool true) H0
theorem reedsolomon_may.loop0 {base : Nat} {x7 : Option Nat} {Ax39 : Option Addr} {lx39 cx39 : Nat} {x40 y41_i : Int} {H0 : HH} {K : Value → HH → Prop} (J : Nat → Int → HH → Prop) (n : Nat) (h0 : J n y41_i H0)
    (hs : ∀ (n : Nat) (y41 : Int) (g : Fr) (H0 : HH), J n y41 H0 → reedsolomon_may.B0 base x7 Ax39 lx39 cx39 x40 y41 g (fun w41 H => ∃ n', n' < n ∧ ∃ (y41' : Int), w41 = (.int .i64 y41') ∧ J n' y41' H) H0 K) : reedsolomon_may.P0 base [(.map x7), (.slice Ax39 lx39 cx39), (.int .i64 x40), (.int .i64 y41_i)] H0 K := by
  refine loop_rule (ann := reedsolomon_may.ann) (body := codeAt [.r, .r, .r, .l, .r, .b, .lp] (bodyOf Try.f24)) mix (by kernel_rfl) 9005000231486016 (by kernel_rfl) [7, 39, 40] [(.map x7), (.slice Ax39 lx39 cx39), (.int .i64 x40)] (by kernel_rfl) (fun fr ⟨e7, e39, e40, e41, _⟩ => ⟨e7, e39, e40, trivial⟩) (fun n g H => ∃ (y41 : Int), g 41 = (.int .i64 y41) ∧ J n y41 H) n (fun fr ⟨e7, e39, e40, e41, _⟩ => ⟨y41_i, e41, h0⟩) ?_
  rintro n g H0 ⟨e7, e39, e40, _⟩ ⟨y41, e41, hJ⟩
  rw [← ov_eq (g := g) [(7, (.map x7)), (39, (.slice Ax39 lx39 cx39)), (40, (.int .i64 x40)), (41, (.int .i64 y41))] (by simp only [List.mem_cons, List.not_mem_nil, or_false, forall_eq_or_imp, forall_eq, false_implies, implies_true]; exact ⟨e7, e39, e40, e41⟩)]
  have key : ∀ NN : Value → HH → Prop, reedsolomon_may.B0 base x7 Ax39 lx39 cx39 x40 y41 g NN H0 K = wpC Try.prog base 53 reedsolomon_may.ann (codeAt [.r, .r, .r, .l, .r, .b, .lp] (bodyOf Try.f24)) (ov g [(7, (.map x7)), (39, (.slice Ax39 lx39 cx39)), (40, (.int .i64 x40)), (41, (.int .i64 y41))]) H0 (thenQ (fun fr H => NN (fr 41) H) (qAt Try.prog base 53 reedsolomon_may.ann [.r, .r, .r, .l, .r, .b] [] (bodyOf Try.f24) (retQ Try.prog 53 Try.f24 K))) := fun NN => by kernel_rfl
  refine cast ?_ (hs n y41 g H0 hJ)
  refine (key (fun w41 H => ∃ n', n' < n ∧ ∃ (y41' : Int), w41 = (.int .i64 y41') ∧ J n' y41' H)).trans ?_
  kernel_rfl
def reedsolomon_ErrorPositions.ann : Ann := ⟨fun k => bif Nat.beq k 5 then [] else [], fun k => false, fun k => bif Nat.beq k 3 then [0, 1, 7, 10, 11, 12] else []⟩
def reedsolomon_ErrorPositions.P0 (base : Nat) (l : List Value) (H0 : HH) (K : Value → HH → Prop) : Prop := HCodeL Try.prog base 31 (codeAt [.r, .r, .l, .r, .b] (bodyOf Try.f28)) [0, 1, 7, 10, 11, 12] l H0 (qAt Try.prog base 31 reedsolomon_ErrorPositions.ann [.r, .r, .l, .r, .b] [] (bodyOf Try.f28) (retQ Try.prog 31 Try.f28 K))
def reedsolomon_ErrorPositions.sh (base : Nat) (x0 : Int) (Ax1 : Option Addr) (lx1 cx1 : Nat) (Ax2 : Option Addr) (lx2 cx2 : Nat) (H0 : HH) (K : Value → HH → Prop) : Prop :=
 reedsolomon_ErrorPositions.P0 base [(.int .u64 x0), (.slice Ax1 lx1 cx1), (.slice none 0 0), (.slice Ax2 lx2 cx2), (.int .i64 (((lx2 : Nat) : Int))), (.int .i64 0)] H0 K
theorem reedsolomon_ErrorPositions.spec {base : Nat} {x0 : Int} {Ax1 : Option Addr} {lx1 cx1 : Nat} {Ax2 : Option Addr} {lx2 cx2 : Nat} {H0 : HH} {K : Value → HH → Prop} (h : reedsolomon_ErrorPositions.sh base x0 Ax1 lx1 cx1 Ax2 lx2 cx2 H0 K) : HCall Try.prog base 28 #[(.int .u64 x0), (.slice Ax1 lx1 cx1), (.slice Ax2 lx2 cx2)] H0 K := spec_of_wpC (n := 31) (ann := reedsolomon_ErrorPositions.ann) mix Try.func28 (by kernel_rfl) (cast (show reedsolomon_ErrorPositions.sh base x0 Ax1 lx1 cx1 Ax2 lx2 cx2 H0 K = wpC Try.prog base 31 reedsolomon_ErrorPositions.ann (bodyOf Try.f28) (ofL [(.int .u64 x0), (.slice Ax1 lx1 cx1), (.slice Ax2 lx2 cx2)]) H0 (retQ Try.prog 31 Try.f28 K) by kernel_rfl) h)
def reedsolomon_ErrorPositions.B0 (base : Nat) (x0 : Int) (Ax1 : Option Addr) (lx1 cx1 : Nat) (Ax10 : Option Addr) (lx10 cx10 : Nat) (x11 : Int) (Ay7 : Option Addr) (ly7 cy7 : Nat) (y12 : Int) (g : Fr) (N0 : Value → Value → HH → Prop) (H0 : HH) (K : Value → HH → Prop) : Prop :=
 if (decide ((y12 : Int) < x11)) = true then
 ∃ a1 : Addr, AQ Try.prog (Instr.indexAt 23 (.slice Ax10 lx10 cx10) (.int .i64 y12)) (.pointer ((some a1))) ∧
 ∃ n2 : Int, ∃ n3 : Int, QRun Try.prog (Instr.loadAt 29 (.pointer ((some a1)))) H0 (.agg #[(.int .u64 n2), (.int .u64 n3)]) ∧
 HRun Try.prog base (Instr.alloc 29 true (.tuple #[])) H0 fun v4 H5 =>
 ∃ a6 : Addr, v4 = (.pointer ((some a6))) ∧ HRun Try.prog base (Instr.storeAt 29 (.pointer ((some a6))) (.agg #[(.int .u64 n2), (.int .u64 n3)])) H5 fun _ H7 =>
 ∃ a8 : Addr, AQ Try.prog (Instr.fieldAt 29 (.pointer ((some a6))) 0) (.pointer ((some a8))) ∧
 ∃ n9 : Int, QRun Try.prog (Instr.loadAt 22 (.pointer ((some a8)))) H7 (.int .u64 n9) ∧
 ∃ n10 : Int, HCall Try.prog base 39 #[(.int .u64 x0), (.slice Ax1 lx1 cx1), (.int .u64 n9)] H7 (fun v_ H_ => v_ = (.int .u64 n10) ∧ H_ = H7) ∧
 ∃ a11 : Addr, AQ Try.prog (Instr.fieldAt 29 (.pointer ((some a6))) 1) (.pointer ((some a11))) ∧
 ∃ n12 : Int, QRun Try.prog (Instr.loadAt 22 (.pointer ((some a11)))) H7 (.int .u64 n12) ∧
 if ((n10 : Int) != n12) = true then
 HRun Try.prog base (Instr.buildSlice 31 1 #[(0, (.int .i64 y12))]) H7 fun v13 H14 =>
 ∃ (A15 : Option Addr) (l15 c15 : Nat), v13 = (.slice A15 l15 c15) ∧ HRun Try.prog base (Builtin.append_ #[31, 31] 31 #[(.slice Ay7 ly7 cy7), (.slice A15 l15 c15)]) H14 fun v16 H17 =>
 ∃ (A18 : Option Addr) (l18 c18 : Nat), v16 = (.slice A18 l18 c18) ∧ N0 (.slice A18 l18 c18) (.int .i64 ((IntKind.i64.wrap (y12 + 1)))) H17
 else
 N0 (.slice Ay7 ly7 cy7) (.int .i64 ((IntKind.i64.wrap (y12 + 1)))) H7
 else
 K (.slice Ay7 ly7 cy7) H0
theorem reedsolomon_ErrorPositions.loop0 {base : Nat} {x0 : Int} {Ax1 : Option Addr} {lx1 cx1 : Nat} {Ax10 : Option Addr} {lx10 cx10 : Nat} {x11 : Int} {Ay7_i : Option Addr} {ly7_i cy7_i : Nat} {y12_i : Int} {H0 : HH} {K : Value → HH → Prop} (J : Nat → Option Addr → Nat → Nat → Int → HH → Prop) (n : Nat) (h0 : J n Ay7_i ly7_i cy7_i y12_i H0)
    (hs : ∀ (n : Nat) (Ay7 : Option Addr) (ly7 cy7 : Nat) (y12 : Int) (g : Fr) (H0 : HH), J n Ay7 ly7 cy7 y12 H0 → reedsolomon_ErrorPositions.B0 base x0 Ax1 lx1 cx1 Ax10 lx10 cx10 x11 Ay7 ly7 cy7 y12 g (fun w7 w12 H => ∃ n', n' < n ∧ ∃ (Ay7' : Option Addr) (ly7' cy7' : Nat) (y12' : Int), w7 = (.slice Ay7' ly7' cy7') ∧ w12 = (.int .i64 y12') ∧ J n' Ay7' ly7' cy7' y12' H) H0 K) : reedsolomon_ErrorPositions.P0 base [(.int .u64 x0), (.slice Ax1 lx1 cx1), (.slice Ay7_i ly7_i cy7_i), (.slice Ax10 lx10 cx10), (.int .i64 x11), (.int .i64 y12_i)] H0 K := by
  refine loop_rule (ann := reedsolomon_ErrorPositions.ann) (body := codeAt [.r, .r, .l, .r, .b, .lp] (bodyOf Try.f28)) mix (by kernel_rfl) 1073738624 (by kernel_rfl) [0, 1, 10, 11] [(.int .u64 x0), (.slice Ax1 lx1 cx1), (.slice Ax10 lx10 cx10), (.int .i64 x11)] (by kernel_rfl) (fun fr ⟨e0, e1, e7, e10, e11, e12, _⟩ => ⟨e0, e1, e10, e11, trivial⟩) (fun n g H => ∃ (Ay7 : Option Addr) (ly7 cy7 : Nat) (y12 : Int), g 7 = (.slice Ay7 ly7 cy7) ∧ g 12 = (.int .i64 y12) ∧ J n Ay7 ly7 cy7 y12 H) n (fun fr ⟨e0, e1, e7, e10, e11, e12, _⟩ => ⟨Ay7_i, ly7_i, cy7_i, y12_i, e7, e12, h0⟩) ?_
  rintro n g H0 ⟨e0, e1, e10, e11, _⟩ ⟨Ay7, ly7, cy7, y12, e7, e12, hJ⟩
  rw [← ov_eq (g := g) [(0, (.int .u64 x0)), (1, (.slice Ax1 lx1 cx1)), (7, (.slice Ay7 ly7 cy7)), (10, (.slice Ax10 lx10 cx10)), (11, (.int .i64 x11)), (12, (.int .i64 y12))] (by simp only [List.mem_cons, List.not_mem_nil, or_false, forall_eq_or_imp, forall_eq, false_implies, implies_true]; exact ⟨e0, e1, e7, e10, e11, e12⟩)]
  have key : ∀ NN : Value → Value → HH → Prop, reedsolomon_ErrorPositions.B0 base x0 Ax1 lx1 cx1 Ax10 lx10 cx10 x11 Ay7 ly7 cy7 y12 g NN H0 K = wpC Try.prog base 31 reedsolomon_ErrorPositions.ann (codeAt [.r, .r, .l, .r, .b, .lp] (bodyOf Try.f28)) (ov g [(0, (.int .u64 x0)), (1, (.slice Ax1 lx1 cx1)), (7, (.slice Ay7 ly7 cy7)), (10, (.slice Ax10 lx10 cx10)), (11, (.int .i64 x11)), (12, (.int .i64 y12))]) H0 (thenQ (fun fr H => NN (fr 7) (fr 12) H) (qAt Try.prog base 31 reedsolomon_ErrorPositions.ann [.r, .r, .l, .r, .b] [] (bodyOf Try.f28) (retQ Try.prog 31 Try.f28 K))) := fun NN => by kernel_rfl
  refine cast ?_ (hs n Ay7 ly7 cy7 y12 g H0 hJ)
  refine (key (fun w7 w12 H => ∃ n', n' < n ∧ ∃ (Ay7' : Option Addr) (ly7' cy7' : Nat) (y12' : Int), w7 = (.slice Ay7' ly7' cy7') ∧ w12 = (.int .i64 y12') ∧ J n' Ay7' ly7' cy7' y12' H)).trans ?_
  kernel_rfl
def reedsolomon_try.ann : Ann := ⟨fun k => bif Nat.beq k 26 then [3, 7, 8, 9] else [], fun k => false, fun k => bif Nat.beq k 4 then [0, 2, 3, 11, 12, 20, 21, 22] else bif Nat.beq k 9 then [0, 2, 3, 11, 12, 14, 15, 16, 20, 21, 22, 29, 30] else bif Nat.beq k 15 then [0, 2, 3, 11, 12, 14, 15, 16, 20, 21, 22, 44, 45] else []⟩
def reedsolomon_try.P0 (base : Nat) (l : List Value) (H0 : HH) (K : Value → HH → Prop) : Prop := HCodeL Try.prog base 91 (codeAt [.r, .r, .r, .l, .r, .b] (bodyOf Try.f25)) [0, 2, 3, 11, 12, 20, 21, 22] l H0 (qAt Try.prog base 91 reedsolomon_try.ann [.r, .r, .r, .l, .r, .b] [] (bodyOf Try.f25) (retQ Try.prog 91 Try.f25 K))
def reedsolomon_try.P1 (base : Nat) (N0 : Value → Value → Value → HH → Prop) (l : List Value) (H0 : HH) (K : Value → HH → Prop) : Prop := HCodeL Try.prog base 91 (codeAt [.r, .r, .r, .l, .r, .b, .lp, .r, .r, .l, .b, .r, .r, .r, .l, .r, .b] (bodyOf Try.f25)) [0, 2, 3, 11, 12, 14, 15, 16, 20, 21, 22, 29, 30] l H0 (qAt Try.prog base 91 reedsolomon_try.ann [.r, .r, .r, .l, .r, .b, .lp, .r, .r, .l, .b, .r, .r, .r, .l, .r, .b] [fun fr H => N0 (fr 11) (fr 12) (fr 22) H] (bodyOf Try.f25) (retQ Try.prog 91 Try.f25 K))
def reedsolomon_try.P2 (base : Nat) (N0 : Value → Value → Value → HH → Prop) (l : List Value) (H0 : HH) (K : Value → HH → Prop) : Prop := HCodeL Try.prog base 91 (codeAt [.r, .r, .r, .l, .r, .b, .lp, .r, .r, .l, .b, .r, .r, .r, .r, .r, .l, .r, .b] (bodyOf Try.f25)) [0, 2, 3, 11, 12, 14, 15, 16, 20, 21, 22, 44, 45] l H0 (qAt Try.prog base 91 reedsolomon_try.ann [.r, .r, .r, .l, .r, .b, .lp, .r, .r, .l, .b, .r, .r, .r, .r, .r, .l, .r, .b] [fun fr H => N0 (fr 11) (fr 12) (fr 22) H] (bodyOf Try.f25) (retQ Try.prog 91 Try.f25 K))
def reedsolomon_try.sh (base : Nat) (x0 : Int) (Ax1 : Option Addr) (lx1 cx1 : Nat) (x2 : Int) (x3 : Int) (H0 : HH) (K : Value → HH → Prop) : Prop :=
 reedsolomon_try.P0 base [(.int .u64 x0), (.int .i64 x2), (.int .i64 x3), (.slice none 0 0), (.slice none 0 0), (.slice Ax1 lx1 cx1), (.int .i64 (((lx1 : Nat) : Int))), (.int .i64 0)] H0 K
theorem reedsolomon_try.spec {base : Nat} {x0 : Int} {Ax1 : Option Addr} {lx1 cx1 : Nat} {x2 : Int} {x3 : Int} {H0 : HH} {K : Value → HH → Prop} (h : reedsolomon_try.sh base x0 Ax1 lx1 cx1 x2 x3 H0 K) : HCall Try.prog base 25 #[(.int .u64 x0), (.slice Ax1 lx1 cx1), (.int .i64 x2), (.int .i64 x3)] H0 K := spec_of_wpC (n := 91) (ann := reedsolomon_try.ann) mix Try.func25 (by kernel_rfl) (cast (show reedsolomon_try.sh base x0 Ax1 lx1 cx1 x2 x3 H0 K = wpC Try.prog base 91 reedsolomon_try.ann (bodyOf Try.f25) (ofL [(.int .u64 x0), (.slice Ax1 lx1 cx1), (.int .i64 x2), (.int .i64 x3)]) H0 (retQ Try.prog 91 Try.f25 K) by kernel_rfl) h)
def reedsolomon_try.B0 (base : Nat) (x0 x2 x3 : Int) (Ax20 : Option Addr) (lx20 cx20 : Nat) (x21 : Int) (Ay11 : Option Addr) (ly11 cy11 : Nat) (Ay12 : Option Addr) (ly12 cy12 : Nat) (y22 : Int) (g : Fr) (N0 : Value → Value → Value → HH → Prop) (H0 : HH) (K : Value → HH → Prop) : Prop :=
 if (decide ((y22 : Int) < x21)) = true then
 ∃ a1 : Addr, AQ Try.prog (Instr.indexAt 23 (.slice Ax20 lx20 cx20) (.int .i64 y22)) (.pointer ((some a1))) ∧
 ∃ n2 : Int, ∃ n3 : Int, QRun Try.prog (Instr.loadAt 29 (.pointer ((some a1)))) H0 (.agg #[(.int .u64 n2), (.int .u64 n3)]) ∧
 HRun Try.prog base (Instr.alloc 29 true (.tuple #[])) H0 fun v4 H5 =>
 ∃ a6 : Addr, v4 = (.pointer ((some a6))) ∧ HRun Try.prog base (Instr.storeAt 29 (.pointer ((some a6))) (.agg #[(.int .u64 n2), (.int .u64 n3)])) H5 fun _ H7 =>
 reedsolomon_try.P1 base N0 [(.int .u64 x0), (.int .i64 x2), (.int .i64 x3), (.slice Ay11 ly11 cy11), (.slice Ay12 ly12 cy12), (.pointer ((some a6))), (.slice none 0 0), (.int .u64 1), (.slice Ax20 lx20 cx20), (.int .i64 x21), (.int .i64 y22), (.int .i64 ((IntKind.i64.wrap (((IntKind.i64.wrap (x2 + x3))) + 1)))), (.int .i64 0)] H7 K
 else
 HCall Try.prog base 35 #[(.int .u64 x0), (.slice Ay11 ly11 cy11), (.slice Ay12 ly12 cy12)] H0 fun v8 H9 =>
 ∃ (A10 : Option Addr) (l10 c10 : Nat), ∃ n11 : Int, v8 = (.tuple #[(.slice A10 l10 c10), (.int .i64 n11)]) ∧ if ((n11 : Int) != 0) = true then
 K (.tuple #[(.slice none 0 0), (.slice none 0 0), (.bool false)]) H9
 else
 ∃ (A12 : Option Addr) (l12 c12 : Nat), AQ Try.prog (Instr.sliceAt 30 (.slice A10 l10 c10) none (some (.int .i64 ((IntKind.i64.wrap (((IntKind.i64.wrap (x2 + x3))) + 1))))) none) (.slice A12 l12 c12) ∧
 ∃ (A13 : Option Addr) (l13 c13 : Nat), AQ Try.prog (Instr.sliceAt 30 (.slice A10 l10 c10) (some (.int .i64 ((IntKind.i64.wrap (((IntKind.i64.wrap (x2 + x3))) + 1))))) none none) (.slice A13 l13 c13) ∧
 (HRun Try.prog base (Instr.buildSlice 30 0 #[]) H9 fun v14 H15 =>
 ∃ (A16 : Option Addr) (l16 c16 : Nat), v14 = (.slice A16 l16 c16) ∧ (HRun Try.prog base (Builtin.append_ #[30, 30] 30 #[(.slice A16 l16 c16), (.slice A13 l13 c13)]) H15 fun v17 H18 =>
 ∃ (A19 : Option Addr) (l19 c19 : Nat), v17 = (.slice A19 l19 c19) ∧ HRun Try.prog base (Instr.buildSlice 30 1 #[(0, (.int .u64 1))]) H18 fun v20 H21 =>
 ∃ (A22 : Option Addr) (l22 c22 : Nat), v20 = (.slice A22 l22 c22) ∧ HRun Try.prog base (Builtin.append_ #[30, 30] 30 #[(.slice A19 l19 c19), (.slice A22 l22 c22)]) H21 fun v23 H24 =>
 ∃ (A25 : Option Addr) (l25 c25 : Nat), v23 = (.slice A25 l25 c25) ∧ K (.tuple #[(.slice A12 l12 c12), (.slice A25 l25 c25), (.bool true)]) H24) ∧
 (HRun Try.prog base (Instr.buildSlice 30 1 #[(0, (.int .u64 1))]) H15 fun v26 H27 =>
 ∃ (A28 : Option Addr) (l28 c28 : Nat), v26 = (.slice A28 l28 c28) ∧ HRun Try.prog base (Builtin.append_ #[30, 30] 30 #[(.slice A16 l16 c16), (.slice A13 l13 c13)]) H27 fun v29 H30 =>
 ∃ (A31 : Option Addr) (l31 c31 : Nat), v29 = (.slice A31 l31 c31) ∧ HRun Try.prog base (Builtin.append_ #[30, 30] 30 #[(.slice A31 l31 c31), (.slice A28 l28 c28)]) H30 fun v32 H33 =>
 ∃ (A34 : Option Addr) (l34 c34 : Nat), v32 = (.slice A34 l34 c34) ∧ K (.tuple #[(.slice A12 l12 c12), (.slice A34 l34 c34), (.bool true)]) H33)) ∧
 (HRun Try.prog base (Instr.buildSlice 30 1 #[(0, (.int .u64 1))]) H9 fun v35 H36 =>
 ∃ (A37 : Option Addr) (l37 c37 : Nat), v35 = (.slice A37 l37 c37) ∧ HRun Try.prog base (Instr.buildSlice 30 0 #[]) H36 fun v38 H39 =>
 ∃ (A40 : Option Addr) (l40 c40 : Nat), v38 = (.slice A40 l40 c40) ∧ HRun Try.prog base (Builtin.append_ #[30, 30] 30 #[(.slice A40 l40 c40), (.slice A13 l13 c13)]) H39 fun v41 H42 =>
 ∃ (A43 : Option Addr) (l43 c43 : Nat), v41 = (.slice A43 l43 c43) ∧ HRun Try.prog base (Builtin.append_ #[30, 30] 30 #[(.slice A43 l43 c43), (.slice A37 l37 c37)]) H42 fun v44 H45 =>
 ∃ (A46 : Option Addr) (l46 c46 : Nat), v44 = (.slice A46 l46 c46) ∧ K (.tuple #[(.slice A12 l12 c12), (.slice A46 l46 c46), (.bool true)]) H45)
theorem reedsolomon_try.loop0 {base : Nat} {x0 x2 x3 : Int} {Ax20 : Option Addr} {lx20 cx20 : Nat} {x21 : Int} {Ay11_i : Option Addr} {ly11_i cy11_i : Nat} {Ay12_i : Option Addr} {ly12_i cy12_i : Nat} {y22_i : Int} {H0 : HH} {K : Value → HH → Prop} (J : Nat → Option Addr → Nat → Nat → Option Addr → Nat → Nat → Int → HH → Prop) (n : Nat) (h0 : J n Ay11_i ly11_i cy11_i Ay12_i ly12_i cy12_i y22_i H0)
    (hs : ∀ (n : Nat) (Ay11 : Option Addr) (ly11 cy11 : Nat) (Ay12 : Option Addr) (ly12 cy12 : Nat) (y22 : Int) (g : Fr) (H0 : HH), J n Ay11 ly11 cy11 Ay12 ly12 cy12 y22 H0 → reedsolomon_try.B0 base x0 x2 x3 Ax20 lx20 cx20 x21 Ay11 ly11 cy11 Ay12 ly12 cy12 y22 g (fun w11 w12 w22 H => ∃ n', n' < n ∧ ∃ (Ay11' : Option Addr) (ly11' cy11' : Nat) (Ay12' : Option Addr) (ly12' cy12' : Nat) (y22' : Int), w11 = (.slice Ay11' ly11' cy11') ∧ w12 = (.slice Ay12' ly12' cy12') ∧ w22 = (.int .i64 y22') ∧ J n' Ay11' ly11' cy11' Ay12' ly12' cy12' y22' H) H0 K) : reedsolomon_try.P0 base [(.int .u64 x0), (.int .i64 x2), (.int .i64 x3), (.slice Ay11_i ly11_i cy11_i), (.slice Ay12_i ly12_i cy12_i), (.slice Ax20 lx20 cx20), (.int .i64 x21), (.int .i64 y22_i)] H0 K := by
  refine loop_rule (ann := reedsolomon_try.ann) (body := codeAt [.r, .r, .r, .l, .r, .b, .lp] (bodyOf Try.f25)) mix (by kernel_rfl) 295147905179348752384 (by kernel_rfl) [0, 2, 3, 20, 21] [(.int .u64 x0), (.int .i64 x2), (.int .i64 x3), (.slice Ax20 lx20 cx20), (.int .i64 x21)] (by kernel_rfl) (fun fr ⟨e0, e2, e3, e11, e12, e20, e21, e22, _⟩ => ⟨e0, e2, e3, e20, e21, trivial⟩) (fun n g H => ∃ (Ay11 : Option Addr) (ly11 cy11 : Nat) (Ay12 : Option Addr) (ly12 cy12 : Nat) (y22 : Int), g 11 = (.slice Ay11 ly11 cy11) ∧ g 12 = (.slice Ay12 ly12 cy12) ∧ g 22 = (.int .i64 y22) ∧ J n Ay11 ly11 cy11 Ay12 ly12 cy12 y22 H) n (fun fr ⟨e0, e2, e3, e11, e12, e20, e21, e22, _⟩ => ⟨Ay11_i, ly11_i, cy11_i, Ay12_i, ly12_i, cy12_i, y22_i, e11, e12, e22, h0⟩) ?_
  rintro n g H0 ⟨e0, e2, e3, e20, e21, _⟩ ⟨Ay11, ly11, cy11, Ay12, ly12, cy12, y22, e11, e12, e22, hJ⟩
  rw [← ov_eq (g := g) [(0, (.int .u64 x0)), (2, (.int .i64 x2)), (3, (.int .i64 x3)), (11, (.slice Ay11 ly11 cy11)), (12, (.slice Ay12 ly12 cy12)), (20, (.slice Ax20 lx20 cx20)), (21, (.int .i64 x21)), (22, (.int .i64 y22))] (by simp only [List.mem_cons, List.not_mem_nil, or_false, forall_eq_or_imp, forall_eq, false_implies, implies_true]; exact ⟨e0, e2, e3, e11, e12, e20, e21, e22⟩)]
  have key : ∀ NN : Value → Value → Value → HH → Prop, reedsolomon_try.B0 base x0 x2 x3 Ax20 lx20 cx20 x21 Ay11 ly11 cy11 Ay12 ly12 cy12 y22 g NN H0 K = wpC Try.prog base 91 reedsolomon_try.ann (codeAt [.r, .r, .r, .l, .r, .b, .lp] (bodyOf Try.f25)) (ov g [(0, (.int .u64 x0)), (2, (.int .i64 x2)), (3, (.int .i64 x3)), (11, (.slice Ay11 ly11 cy11)), (12, (.slice Ay12 ly12 cy12)), (20, (.slice Ax20 lx20 cx20)), (21, (.int .i64 x21)), (22, (.int .i64 y22))]) H0 (thenQ (fun fr H => NN (fr 11) (fr 12) (fr 22) H) (qAt Try.prog base 91 reedsolomon_try.ann [.r, .r, .r, .l, .r, .b] [] (bodyOf Try.f25) (retQ Try.prog 91 Try.f25 K))) := fun NN => by kernel_rfl
  refine cast ?_ (hs n Ay11 ly11 cy11 Ay12 ly12 cy12 y22 g H0 hJ)
  refine (key (fun w11 w12 w22 H => ∃ n', n' < n ∧ ∃ (Ay11' : Option Addr) (ly11' cy11' : Nat) (Ay12' : Option Addr) (ly12' cy12' : Nat) (y22' : Int), w11 = (.slice Ay11' ly11' cy11') ∧ w12 = (.slice Ay12' ly12' cy12') ∧ w22 = (.int .i64 y22') ∧ J n' Ay11' ly11' cy11' Ay12' ly12' cy12' y22' H)).trans ?_
  kernel_rfl
def reedsolomon_try.B1 (base : Nat) (N0 : Value → Value → Value → HH → Prop) (x0 x2 x3 : Int) (Ax11 : Option Addr) (lx11 cx11 : Nat) (Ax12 : Option Addr) (lx12 cx12 : Nat) (x14 : Addr) (Ax20 : Option Addr) (lx20 cx20 : Nat) (x21 x22 x29 : Int) (Ay15 : Option Addr) (ly15 cy15 : Nat) (y16 : Int) (y30 : Int) (g : Fr) (N1 : Value → Value → Value → HH → Prop) (H0 : HH) (K : Value → HH → Prop) : Prop :=
 if (decide ((y30 : Int) < x29)) = true then
 HRun Try.prog base (Instr.buildSlice 30 1 #[(0, (.int .u64 y16))]) H0 fun v47 H48 =>
 ∃ (A49 : Option Addr) (l49 c49 : Nat), v47 = (.slice A49 l49 c49) ∧ HRun Try.prog base (Builtin.append_ #[30, 30] 30 #[(.slice Ay15 ly15 cy15), (.slice A49 l49 c49)]) H48 fun v50 H51 =>
 ∃ (A52 : Option Addr) (l52 c52 : Nat), v50 = (.slice A52 l52 c52) ∧ ∃ a53 : Addr, AQ Try.prog (Instr.fieldAt 29 (.pointer ((some x14))) 0) (.pointer ((some a53))) ∧
 ∃ n54 : Int, QRun Try.prog (Instr.loadAt 22 (.pointer ((some a53)))) H51 (.int .u64 n54) ∧
 HCall Try.prog base 33 #[(.int .u64 x0), (.int .u64 y16), (.int .u64 n54)] H51 fun v55 H56 =>
 ∃ n57 : Int, v55 = (.int .u64 n57) ∧ N1 (.slice A52 l52 c52) (.int .u64 n57) (.int .i64 ((IntKind.i64.wrap (y30 + 1)))) H56
 else
 ∃ a58 : Addr, AQ Try.prog (Instr.fieldAt 29 (.pointer ((some x14))) 1) (.pointer ((some a58))) ∧
 ∃ n59 : Int, QRun Try.prog (Instr.loadAt 22 (.pointer ((some a58)))) H0 (.int .u64 n59) ∧
 reedsolomon_try.P2 base N0 [(.int .u64 x0), (.int .i64 x2), (.int .i64 x3), (.slice Ax11 lx11 cx11), (.slice Ax12 lx12 cx12), (.pointer ((some x14))), (.slice Ay15 ly15 cy15), (.int .u64 n59), (.slice Ax20 lx20 cx20), (.int .i64 x21), (.int .i64 x22), (.int .i64 x3), (.int .i64 0)] H0 K
theorem reedsolomon_try.loop1 {base : Nat} {N0 : Value → Value → Value → HH → Prop} {x0 x2 x3 : Int} {Ax11 : Option Addr} {lx11 cx11 : Nat} {Ax12 : Option Addr} {lx12 cx12 : Nat} {x14 : Addr} {Ax20 : Option Addr} {lx20 cx20 : Nat} {x21 x22 x29 : Int} {Ay15_i : Option Addr} {ly15_i cy15_i : Nat} {y16_i y30_i : Int} {H0 : HH} {K : Value → HH → Prop} (J : Nat → Option Addr → Nat → Nat → Int → Int → HH → Prop) (n : Nat) (h0 : J n Ay15_i ly15_i cy15_i y16_i y30_i H0)
    (hs : ∀ (n : Nat) (Ay15 : Option Addr) (ly15 cy15 : Nat) (y16 : Int) (y30 : Int) (g : Fr) (H0 : HH), J n Ay15 ly15 cy15 y16 y30 H0 → reedsolomon_try.B1 base N0 x0 x2 x3 Ax11 lx11 cx11 Ax12 lx12 cx12 x14 Ax20 lx20 cx20 x21 x22 x29 Ay15 ly15 cy15 y16 y30 g (fun w15 w16 w30 H => ∃ n', n' < n ∧ ∃ (Ay15' : Option Addr) (ly15' cy15' : Nat) (y16' : Int) (y30' : Int), w15 = (.slice Ay15' ly15' cy15') ∧ w16 = (.int .u64 y16') ∧ w30 = (.int .i64 y30') ∧ J n' Ay15' ly15' cy15' y16' y30' H) H0 K) : reedsolomon_try.P1 base N0 [(.int .u64 x0), (.int .i64 x2), (.int .i64 x3), (.slice Ax11 lx11 cx11), (.slice Ax12 lx12 cx12), (.pointer ((some x14))), (.slice Ay15_i ly15_i cy15_i), (.int .u64 y16_i), (.slice Ax20 lx20 cx20), (.int .i64 x21), (.int .i64 x22), (.int .i64 x29), (.int .i64 y30_i)] H0 K := by
  refine loop_rule (ann := reedsolomon_try.ann) (body := codeAt [.r, .r, .r, .l, .r, .b, .lp, .r, .r, .l, .b, .r, .r, .r, .l, .r, .b, .lp] (bodyOf Try.f25)) mix (by kernel_rfl) 4396972867584 (by kernel_rfl) [0, 2, 3, 11, 12, 14, 20, 21, 22, 29] [(.int .u64 x0), (.int .i64 x2), (.int .i64 x3), (.slice Ax11 lx11 cx11), (.slice Ax12 lx12 cx12), (.pointer ((some x14))), (.slice Ax20 lx20 cx20), (.int .i64 x21), (.int .i64 x22), (.int .i64 x29)] (by kernel_rfl) (fun fr ⟨e0, e2, e3, e11, e12, e14, e15, e16, e20, e21, e22, e29, e30, _⟩ => ⟨e0, e2, e3, e11, e12, e14, e20, e21, e22, e29, trivial⟩) (fun n g H => ∃ (Ay15 : Option Addr) (ly15 cy15 : Nat) (y16 : Int) (y30 : Int), g 15 = (.slice Ay15 ly15 cy15) ∧ g 16 = (.int .u64 y16) ∧ g 30 = (.int .i64 y30) ∧ J n Ay15 ly15 cy15 y16 y30 H) n (fun fr ⟨e0, e2, e3, e11, e12, e14, e15, e16, e20, e21, e22, e29, e30, _⟩ => ⟨Ay15_i, ly15_i, cy15_i, y16_i, y30_i, e15, e16, e30, h0⟩) ?_
  rintro n g H0 ⟨e0, e2, e3, e11, e12, e14, e20, e21, e22, e29, _⟩ ⟨Ay15, ly15, cy15, y16, y30, e15, e16, e30, hJ⟩
  rw [← ov_eq (g := g) [(0, (.int .u64 x0)), (2, (.int .i64 x2)), (3, (.int .i64 x3)), (11, (.slice Ax11 lx11 cx11)), (12, (.slice Ax12 lx12 cx12)), (14, (.pointer ((some x14)))), (15, (.slice Ay15 ly15 cy15)), (16, (.int .u64 y16)), (20, (.slice Ax20 lx20 cx20)), (21, (.int .i64 x21)), (22, (.int .i64 x22)), (29, (.int .i64 x29)), (30, (.int .i64 y30))] (by simp only [List.mem_cons, List.not_mem_nil, or_false, forall_eq_or_imp, forall_eq, false_implies, implies_true]; exact ⟨e0, e2, e3, e11, e12, e14, e15, e16, e20, e21, e22, e29, e30⟩)]
  have key : ∀ NN : Value → Value → Value → HH → Prop, reedsolomon_try.B1 base N0 x0 x2 x3 Ax11 lx11 cx11 Ax12 lx12 cx12 x14 Ax20 lx20 cx20 x21 x22 x29 Ay15 ly15 cy15 y16 y30 g NN H0 K = wpC Try.prog base 91 reedsolomon_try.ann (codeAt [.r, .r, .r, .l, .r, .b, .lp, .r, .r, .l, .b, .r, .r, .r, .l, .r, .b, .lp] (bodyOf Try.f25)) (ov g [(0, (.int .u64 x0)), (2, (.int .i64 x2)), (3, (.int .i64 x3)), (11, (.slice Ax11 lx11 cx11)), (12, (.slice Ax12 lx12 cx12)), (14, (.pointer ((some x14)))), (15, (.slice Ay15 ly15 cy15)), (16, (.int .u64 y16)), (20, (.slice Ax20 lx20 cx20)), (21, (.int .i64 x21)), (22, (.int .i64 x22)), (29, (.int .i64 x29)), (30, (.int .i64 y30))]) H0 (thenQ (fun fr H => NN (fr 15) (fr 16) (fr 30) H) (qAt Try.prog base 91 reedsolomon_try.ann [.r, .r, .r, .l, .r, .b, .lp, .r, .r, .l, .b, .r, .r, .r, .l, .r, .b] [fun fr H => N0 (fr 11) (fr 12) (fr 22) H] (bodyOf Try.f25) (retQ Try.prog 91 Try.f25 K))) := fun NN => by kernel_rfl
  refine cast ?_ (hs n Ay15 ly15 cy15 y16 y30 g H0 hJ)
  refine (key (fun w15 w16 w30 H => ∃ n', n' < n ∧ ∃ (Ay15' : Option Addr) (ly15' cy15' : Nat) (y16' : Int) (y30' : Int), w15 = (.slice Ay15' ly15' cy15') ∧ w16 = (.int .u64 y16') ∧ w30 = (.int .i64 y30') ∧ J n' Ay15' ly15' cy15' y16' y30' H)).trans ?_
  kernel_rfl
def reedsolomon_try.B2 (base : Nat) (N0 : Value → Value → Value → HH → Prop) (x0 x2 x3 : Int) (Ax11 : Option Addr) (lx11 cx11 : Nat) (Ax12 : Option Addr) (lx12 cx12 : Nat) (x14 : Addr) (Ax20 : Option Addr) (lx20 cx20 : Nat) (x21 x22 x44 : Int) (Ay15 : Option Addr) (ly15 cy15 : Nat) (y16 : Int) (y45 : Int) (g : Fr) (N2 : Value → Value → Value → HH → Prop) (H0 : HH) (K : Value → HH → Prop) : Prop :=
 if (decide ((y45 : Int) < x44)) = true then
 HCall Try.prog base 34 #[(.int .u64 x0), (.int .u64 y16)] H0 fun v60 H61 =>
 ∃ n62 : Int, v60 = (.int .u64 n62) ∧ HRun Try.prog base (Instr.buildSlice 30 1 #[(0, (.int .u64 n62))]) H61 fun v63 H64 =>
 ∃ (A65 : Option Addr) (l65 c65 : Nat), v63 = (.slice A65 l65 c65) ∧ HRun Try.prog base (Builtin.append_ #[30, 30] 30 #[(.slice Ay15 ly15 cy15), (.slice A65 l65 c65)]) H64 fun v66 H67 =>
 ∃ (A68 : Option Addr) (l68 c68 : Nat), v66 = (.slice A68 l68 c68) ∧ ∃ a69 : Addr, AQ Try.prog (Instr.fieldAt 29 (.pointer ((some x14))) 0) (.pointer ((some a69))) ∧
 ∃ n70 : Int, QRun Try.prog (Instr.loadAt 22 (.pointer ((some a69)))) H67 (.int .u64 n70) ∧
 HCall Try.prog base 33 #[(.int .u64 x0), (.int .u64 y16), (.int .u64 n70)] H67 fun v71 H72 =>
 ∃ n73 : Int, v71 = (.int .u64 n73) ∧ N2 (.slice A68 l68 c68) (.int .u64 n73) (.int .i64 ((IntKind.i64.wrap (y45 + 1)))) H72
 else
 HRun Try.prog base (Instr.buildSlice 67 1 #[(0, (.slice Ay15 ly15 cy15))]) H0 fun v74 H75 =>
 ∃ (A76 : Option Addr) (l76 c76 : Nat), v74 = (.slice A76 l76 c76) ∧ HRun Try.prog base (Builtin.append_ #[67, 67] 67 #[(.slice Ax11 lx11 cx11), (.slice A76 l76 c76)]) H75 fun v77 H78 =>
 ∃ (A79 : Option Addr) (l79 c79 : Nat), v77 = (.slice A79 l79 c79) ∧ HRun Try.prog base (Instr.buildSlice 30 1 #[(0, (.int .u64 y16))]) H78 fun v80 H81 =>
 ∃ (A82 : Option Addr) (l82 c82 : Nat), v80 = (.slice A82 l82 c82) ∧ HRun Try.prog base (Builtin.append_ #[30, 30] 30 #[(.slice Ax12 lx12 cx12), (.slice A82 l82 c82)]) H81 fun v83 H84 =>
 ∃ (A85 : Option Addr) (l85 c85 : Nat), v83 = (.slice A85 l85 c85) ∧ N0 (.slice A79 l79 c79) (.slice A85 l85 c85) (.int .i64 ((IntKind.i64.wrap (x22 + 1)))) H84
theorem reedsolomon_try.loop2 {base : Nat} {N0 : Value → Value → Value → HH → Prop} {x0 x2 x3 : Int} {Ax11 : Option Addr} {lx11 cx11 : Nat} {Ax12 : Option Addr} {lx12 cx12 : Nat} {x14 : Addr} {Ax20 : Option Addr} {lx20 cx20 : Nat} {x21 x22 x44 : Int} {Ay15_i : Option Addr} {ly15_i cy15_i : Nat} {y16_i y45_i : Int} {H0 : HH} {K : Value → HH → Prop} (J : Nat → Option Addr → Nat → Nat → Int → Int → HH → Prop) (n : Nat) (h0 : J n Ay15_i ly15_i cy15_i y16_i y45_i H0)
    (hs : ∀ (n : Nat) (Ay15 : Option Addr) (ly15 cy15 : Nat) (y16 : Int) (y45 : Int) (g : Fr) (H0 : HH), J n Ay15 ly15 cy15 y16 y45 H0 → reedsolomon_try.B2 base N0 x0 x2 x3 Ax11 lx11 cx11 Ax12 lx12 cx12 x14 Ax20 lx20 cx20 x21 x22 x44 Ay15 ly15 cy15 y16 y45 g (fun w15 w16 w45 H => ∃ n', n' < n ∧ ∃ (Ay15' : Option Addr) (ly15' cy15' : Nat) (y16' : Int) (y45' : Int), w15 = (.slice Ay15' ly15' cy15') ∧ w16 = (.int .u64 y16') ∧ w45 = (.int .i64 y45') ∧ J n' Ay15' ly15' cy15' y16' y45' H) H0 K) : reedsolomon_try.P2 base N0 [(.int .u64 x0), (.int .i64 x2), (.int .i64 x3), (.slice Ax11 lx11 cx11), (.slice Ax12 lx12 cx12), (.pointer ((some x14))), (.slice Ay15_i ly15_i cy15_i), (.int .u64 y16_i), (.slice Ax20 lx20 cx20), (.int .i64 x21), (.int .i64 x22), (.int .i64 x44), (.int .i64 y45_i)] H0 K := by
  refine loop_rule (ann := reedsolomon_try.ann) (body := codeAt [.r, .r, .r, .l, .r, .b, .lp, .r, .r, .l, .b, .r, .r, .r, .r, .r, .l, .r, .b, .lp] (bodyOf Try.f25)) mix (by kernel_rfl) 576425567931432960 (by kernel_rfl) [0, 2, 3, 11, 12, 14, 20, 21, 22, 44] [(.int .u64 x0), (.int .i64 x2), (.int .i64 x3), (.slice Ax11 lx11 cx11), (.slice Ax12 lx12 cx12), (.pointer ((some x14))), (.slice Ax20 lx20 cx20), (.int .i64 x21), (.int .i64 x22), (.int .i64 x44)] (by kernel_rfl) (fun fr ⟨e0, e2, e3, e11, e12, e14, e15, e16, e20, e21, e22, e44, e45, _⟩ => ⟨e0, e2, e3, e11, e12, e14, e20, e21, e22, e44, trivial⟩) (fun n g H => ∃ (Ay15 : Option Addr) (ly15 cy15 : Nat) (y16 : Int) (y45 : Int), g 15 = (.slice Ay15 ly15 cy15) ∧ g 16 = (.int .u64 y16) ∧ g 45 = (.int .i64 y45) ∧ J n Ay15 ly15 cy15 y16 y45 H) n (fun fr ⟨e0, e2, e3, e11, e12, e14, e15, e16, e20, e21, e22, e44, e45, _⟩ => ⟨Ay15_i, ly15_i, cy15_i, y16_i, y45_i, e15, e16, e45, h0⟩) ?_
  rintro n g H0 ⟨e0, e2, e3, e11, e12, e14, e20, e21, e22, e44, _⟩ ⟨Ay15, ly15, cy15, y16, y45, e15, e16, e45, hJ⟩
  rw [← ov_eq (g := g) [(0, (.int .u64 x0)), (2, (.int .i64 x2)), (3, (.int .i64 x3)), (11, (.slice Ax11 lx11 cx11)), (12, (.slice Ax12 lx12 cx12)), (14, (.pointer ((some x14)))), (15, (.slice Ay15 ly15 cy15)), (16, (.int .u64 y16)), (20, (.slice Ax20 lx20 cx20)), (21, (.int .i64 x21)), (22, (.int .i64 x22)), (44, (.int .i64 x44)), (45, (.int .i64 y45))] (by simp only [List.mem_cons, List.not_mem_nil, or_false, forall_eq_or_imp, forall_eq, false_implies, implies_true]; exact ⟨e0, e2, e3, e11, e12, e14, e15, e16, e20, e21, e22, e44, e45⟩)]
  have key : ∀ NN : Value → Value → Value → HH → Prop, reedsolomon_try.B2 base N0 x0 x2 x3 Ax11 lx11 cx11 Ax12 lx12 cx12 x14 Ax20 lx20 cx20 x21 x22 x44 Ay15 ly15 cy15 y16 y45 g NN H0 K = wpC Try.prog base 91 reedsolomon_try.ann (codeAt [.r, .r, .r, .l, .r, .b, .lp, .r, .r, .l, .b, .r, .r, .r, .r, .r, .l, .r, .b, .lp] (bodyOf Try.f25)) (ov g [(0, (.int .u64 x0)), (2, (.int .i64 x2)), (3, (.int .i64 x3)), (11, (.slice Ax11 lx11 cx11)), (12, (.slice Ax12 lx12 cx12)), (14, (.pointer ((some x14)))), (15, (.slice Ay15 ly15 cy15)), (16, (.int .u64 y16)), (20, (.slice Ax20 lx20 cx20)), (21, (.int .i64 x21)), (22, (.int .i64 x22)), (44, (.int .i64 x44)), (45, (.int .i64 y45))]) H0 (thenQ (fun fr H => NN (fr 15) (fr 16) (fr 45) H) (qAt Try.prog base 91 reedsolomon_try.ann [.r, .r, .r, .l, .r, .b, .lp, .r, .r, .l, .b, .r, .r, .r, .r, .r, .l, .r, .b] [fun fr H => N0 (fr 11) (fr 12) (fr 22) H] (bodyOf Try.f25) (retQ Try.prog 91 Try.f25 K))) := fun NN => by kernel_rfl
  refine cast ?_ (hs n Ay15 ly15 cy15 y16 y45 g H0 hJ)
  refine (key (fun w15 w16 w45 H => ∃ n', n' < n ∧ ∃ (Ay15' : Option Addr) (ly15' cy15' : Nat) (y16' : Int) (y45' : Int), w15 = (.slice Ay15' ly15' cy15') ∧ w16 = (.int .u64 y16') ∧ w45 = (.int .i64 y45') ∧ J n' Ay15' ly15' cy15' y16' y45' H)).trans ?_
  kernel_rfl
def reedsolomon_Decode.ann : Ann := ⟨fun k => [], fun k => false, fun k => []⟩
def reedsolomon_Decode.sh (base : Nat) (x0 : Int) (Ax1 : Option Addr) (lx1 cx1 : Nat) (x2 : Int) (x3 : Int) (H0 : HH) (K : Value → HH → Prop) : Prop :=
 HCall Try.prog base 24 #[(.slice Ax1 lx1 cx1), (.int .i64 x2), (.int .i64 x3)] H0 fun v1 H2 =>
 ∃ b3 : Bool, v1 = (.bool b3) ∧ if (!b3) = true then
 K (.tuple #[(.slice none 0 0), (.slice none 0 0), (.int .i64 1)]) H2
 else
 HCall Try.prog base 25 #[(.int .u64 x0), (.slice Ax1 lx1 cx1), (.int .i64 x2), (.int .i64 x3)] H2 fun v4 H5 =>
 ∃ (A6 : Option Addr) (l6 c6 : Nat), ∃ (A7 : Option Addr) (l7 c7 : Nat), ∃ b8 : Bool, v4 = (.tuple #[(.slice A6 l6 c6), (.slice A7 l7 c7), (.bool b8)]) ∧ if (!b8) = true then
 K (.tuple #[(.slice none 0 0), (.slice none 0 0), (.int .i64 9)]) H5
 else
 HCall Try.prog base 26 #[(.int .u64 x0), (.slice A6 l6 c6), (.slice A7 l7 c7)] H5 fun v9 H10 =>
 ∃ (A11 : Option Addr) (l11 c11 : Nat), ∃ (A12 : Option Addr) (l12 c12 : Nat), ∃ n13 : Int, v9 = (.tuple #[(.slice A11 l11 c11), (.slice A12 l12 c12), (.int .i64 n13)]) ∧ if (decide ((((l12 : Nat) : Int) : Int) > 0)) = false then
 HCall Try.prog base 27 #[(.slice A11 l11 c11)] H10 fun v14 H15 =>
 ∃ n16 : Int, v14 = (.int .i64 n16) ∧ if (decide ((n16 : Int) > x2)) = true then
 K (.tuple #[(.slice none 0 0), (.slice none 0 0), (.int .i64 9)]) H15
 else
 HCall Try.prog base 28 #[(.int .u64 x0), (.slice A11 l11 c11), (.slice Ax1 lx1 cx1)] H15 fun v17 H18 =>
 ∃ (A19 : Option Addr) (l19 c19 : Nat), v17 = (.slice A19 l19 c19) ∧ if (decide ((((l19 : Nat) : Int) : Int) > x3)) = true then
 K (.tuple #[(.slice none 0 0), (.slice none 0 0), (.int .i64 9)]) H18
 else
 K (.tuple #[(.slice A11 l11 c11), (.slice A19 l19 c19), (.int .i64 0)]) H18
 else
 K (.tuple #[(.slice none 0 0), (.slice none 0 0), (.int .i64 9)]) H10
theorem reedsolomon_Decode.spec {base : Nat} {x0 : Int} {Ax1 : Option Addr} {lx1 cx1 : Nat} {x2 : Int} {x3 : Int} {H0 : HH} {K : Value → HH → Prop} (h : reedsolomon_Decode.sh base x0 Ax1 lx1 cx1 x2 x3 H0 K) : HCall Try.prog base 8 #[(.int .u64 x0), (.slice Ax1 lx1 cx1), (.int .i64 x2), (.int .i64 x3)] H0 K := spec_of_wpC (n := 61) (ann := reedsolomon_Decode.ann) mix Try.func8 (by kernel_rfl) (cast (show reedsolomon_Decode.sh base x0 Ax1 lx1 cx1 x2 x3 H0 K = wpC Try.prog base 61 reedsolomon_Decode.ann (bodyOf Try.f8) (ofL [(.int .u64 x0), (.slice Ax1 lx1 cx1), (.int .i64 x2), (.int .i64 x3)]) H0 (retQ Try.prog 61 Try.f8 K) by kernel_rfl) h)
end Go.Proofs.Ytbogcgkeabkliac.HL
end
section
set_option linter.unusedVariables false
set_option linter.unusedSimpArgs false
set_option linter.unusedSectionVars false
set_option maxHeartbeats 1000000
namespace Go.Proofs.Ytbogcgkeabkliac.HL
open Go Go.Proofs.YtbogcgkeabkliacNum Go.Proofs.Ytbogcgkeabkliac.FEv
section
variable {p : Nat} [NeZero p] {base : Nat} {H : HH} {K : Value → HH → Prop} {A A' : Option Addr} {n n' c c' : Nat}
abbrev hits (f : List (Fin p)) (q : Pt p) : Bool := Go.Proofs.YtbogcgkeabkliacNum.fits f q
/-- The indices of the errors. -/
def errIdx (f : List (Fin p)) (l : List (Pt p)) (j : Nat) : List Nat := (List.range j).filter fun i => !hits f (l.getD i (0, 0))
theorem errIdx_succ (f : List (Fin p)) (l : List (Pt p)) (j : Nat) : errIdx f l (j + 1) = if hits f (l.getD j (0, 0)) = true then errIdx f l j else errIdx f l j ++ [j] := by
  unfold errIdx
  rw [List.range_succ, List.filter_append]
  split
  · rename_i h; simp only [List.filter_cons, List.filter_nil, h]; simp
  · rename_i h; simp only [List.filter_cons, List.filter_nil, h]; simp
theorem errIdx_len (f : List (Fin p)) : ∀ l : List (Pt p), (errIdx f l l.length).length = (errs f l).length := by
  have key : ∀ (l : List (Pt p)) (j : Nat), j ≤ l.length → (errIdx f l j).length = (errs f (l.take j)).length := by
    intro l j
    induction j with
    | zero => intro _; rfl
    | succ j ih =>
      intro hj
      have ih := ih (by omega)
      rw [errIdx_succ, List.take_add_one, List.getElem?_eq_getElem (by omega)]
      unfold errs at ih ⊢
      rw [List.filter_append]
      have : l.getD j (0, 0) = l[j] := by simp [show j < l.length by omega]
      rw [this]
      cases hf : hits f l[j] with
      | true => simp [hf, ih]
      | false => simp [hf, ih]
  intro l
  have := key l l.length (Nat.le_refl _)
  rwa [List.take_length] at this
theorem h_pushI {F : HH} {k : Nat} {l : List Nat} {A : Option Addr} {c : Nat} (ho : Own base H 3 1 (.slice A l.length c) l.length (ns l)) (hf : Frz F H (.slice A l.length c)) (hl : l.length ≤ 1000) {C : Option Addr → Nat → Nat → HH → Prop} (hk : ∀ A' c' H', Own base H' 3 1 (.slice A' (l ++ [k]).length c') (l ++ [k]).length (ns (l ++ [k])) → Frz F H' (.slice A' (l ++ [k]).length c') → C A' (l ++ [k]).length c' H') {ty : Nat} :
    HRun Try.prog base (Instr.buildSlice 31 1 #[(0, .int .i64 ((k : Nat) : Int))]) H fun v1 H1 => ∃ (A1 : Option Addr) (l1 c1 : Nat), v1 = .slice A1 l1 c1 ∧ HRun Try.prog base (Builtin.append_ #[31, 31] ty #[.slice A l.length c, .slice A1 l1 c1]) H1 fun v2 H2 => ∃ (A' : Option Addr) (l' c' : Nat), v2 = .slice A' l' c' ∧ C A' l' c' H2 := by
  have e : l.length + 1 = (l ++ [k]).length := by simp
  rw [← e] at hk
  refine h_push un57 inf3 rfl (by decide) rfl ho (by omega) (fun A3 c3 H3 ho3 g3 => hk A3 c3 H3 ?_ (hf.grow g3))
  simpa [ns] using ho3
theorem hits_iff (f : List (Fin p)) (q : Pt p) : hits f q = true ↔ peval f q.1 = q.2 := by exact decide_eq_true_iff
theorem h_errpos (hp : Sup p) {f : List (Fin p)} {l : List (Pt p)} (h : Row H A n (vs f)) (h' : Pts H A' n' (vp l)) (hz : f.length ≤ 1000) (hz' : l.length ≤ 1000)
    (hk : ∀ A1 c1 H', Ext H H' → RowI H' A1 (errIdx f l l.length).length (errIdx f l l.length) → K (.slice A1 (errIdx f l l.length).length c1) H') : HCall Try.prog base 28 #[.int .u64 p, .slice A n c, .slice A' n' c'] H K := by
  refine reedsolomon_ErrorPositions.spec ?_
  unfold reedsolomon_ErrorPositions.sh
  have e1 := h'.1
  rw [vp_length] at e1
  refine reedsolomon_ErrorPositions.loop0 (fun k A1 l1 c1 y H' => ∃ j : Nat, y = j ∧ j ≤ n' ∧ k = n' - j ∧ l1 = (errIdx f l j).length ∧ Own base H' 3 1 (.slice A1 (errIdx f l j).length c1) (errIdx f l j).length (ns (errIdx f l j)) ∧ Frz H H' (.slice A1 (errIdx f l j).length c1)) n' ⟨0, rfl, Nat.zero_le _, by omega, rfl, Own.nil _ _ _ _, Frz.nil _⟩ ?_
  rintro k A1 l1 c1 y g H1 ⟨j, rfl, hj, hkk, rfl, ho, hf⟩
  unfold reedsolomon_ErrorPositions.B0
  split
  · rename_i e
    have e := of_decide_eq_true e
    obtain ⟨a, q1, q2⟩ := (h'.ext hf.ext).at c' (i := j) (by omega) e
    rw [Int.toNat_natCast, vp_get] at q2
    have hnx := nxt (n := n') (j := j) (by omega) (by unfold maxLen; omega)
    have hes := errIdx_succ f l j
    have hle : (errIdx f l j).length ≤ j := by unfold errIdx; have := List.length_filter_le (fun i => !hits f (l.getD i (0, 0))) (List.range j); simpa using this
    refine ⟨a, q1, _, _, q2.all, h_ptvar (fun a2 H2 X2 q3 => ?_)⟩
    have ho := ho.ext X2
    have hf := hf.more X2
    refine ⟨_, fp0 a2, _, q3.x, _, h_eval hp (h.ext hf.ext) hz _ ⟨rfl, rfl⟩, _, fp1 a2, _, q3.y, ?_⟩
    split
    · rename_i e2
      have hne : ¬ hits f (l.getD j (0, 0)) = true := fun h => by rw [hits_iff] at h; rw [h] at e2; simp at e2
      rw [if_neg hne] at hes
      refine h_pushI ho hf (by omega) (fun A3 c3 H3 ho3 hf3 => ?_)
      rw [← hes] at ho3 hf3 ⊢
      exact ⟨k - 1, by omega, _, _, _, _, rfl, rfl, j + 1, hnx, by omega, by omega, rfl, ho3, hf3⟩
    · rename_i e2
      have heq : hits f (l.getD j (0, 0)) = true := by
        rw [hits_iff]
        have : V (peval f (l.getD j (0, 0)).1) = V (l.getD j (0, 0)).2 := by simpa using e2
        exact V_inj.1 this
      rw [if_pos heq] at hes
      exact ⟨k - 1, by omega, _, _, _, _, rfl, rfl, j + 1, hnx, by omega, by omega, by rw [hes], by rw [hes]; exact ho, by rw [hes]; exact hf⟩
  · rename_i e
    have e : ¬ ((j : Int) < (n' : Int)) := fun h => e (decide_eq_true h)
    have : j = l.length := by omega
    subst this
    exact hk _ _ _ hf.ext (own_rowI ho)
theorem h_equal {l l' : List Int} (h : Row H A n l) (h' : Row H A' n' l') (hm : l.length ≤ maxLen) (hk : K (.bool (decide (l = l'))) H) : HCall Try.prog base 9 #[.slice A n c, .slice A' n' c'] H K := by
  refine privityref04_Equal.spec ?_
  unfold privityref04_Equal.sh
  have e1 := h.1
  have e2 := h'.1
  split
  · rename_i e
    have : l ≠ l' := fun hl => by subst hl; simp at e; omega
    simpa [this] using hk
  · rename_i e
    have en : n = n' := by simp at e; omega
    refine privityref04_Equal.loop0 (fun m y H' => H' = H ∧ ∃ j : Nat, y = j ∧ j ≤ n ∧ m = n - j ∧ l.take j = l'.take j) n ⟨rfl, 0, rfl, Nat.zero_le _, by omega, by simp⟩ ?_
    rintro m y g H' ⟨rfl, j, rfl, hj, hm', ht⟩
    unfold privityref04_Equal.B0
    split
    · rename_i e
      have e := of_decide_eq_true e
      obtain ⟨a, q1, q2⟩ := h.at c (i := j) (by omega) e
      refine ⟨a, q1, _, q2, ?_⟩
      obtain ⟨a, q1, q2⟩ := h'.at c' (i := j) (by omega) (by omega)
      refine ⟨a, q1, _, q2, ?_⟩
      rw [Int.toNat_natCast]
      split
      · rename_i e3
        have : l ≠ l' := fun hl => by subst hl; simp at e3
        simpa [this] using hk
      · rename_i e3
        refine ⟨m - 1, by omega, _, rfl, rfl, j + 1, nxt (n := n) (by omega) (by omega), by omega, by omega, take_eq_succ ht (by omega) (by omega) (d := 0) (by simpa using e3)⟩
    · rename_i e
      have e : ¬ ((j : Int) < (n : Int)) := fun h => e (decide_eq_true h)
      have : l = l' := by rwa [List.take_of_length_le (by omega), List.take_of_length_le (by omega)] at ht
      simpa [this] using hk
theorem h_places {l l' : List Nat} (h : RowI H A n l) (h' : RowI H A' n' l') (hm : l.length ≤ maxLen) (hk : K (.bool (decide (l = l'))) H) : HCall Try.prog base 16 #[.slice A n c, .slice A' n' c'] H K := by
  refine privityref08_Places.spec ?_
  unfold privityref08_Places.sh
  have e1 := h.1
  have e2 := h'.1
  split
  · rename_i e
    have : l ≠ l' := fun hl => by subst hl; simp at e; omega
    simpa [this] using hk
  · rename_i e
    have en : n = n' := by simp at e; omega
    refine privityref08_Places.loop0 (fun m y H' => H' = H ∧ ∃ j : Nat, y = j ∧ j ≤ n ∧ m = n - j ∧ l.take j = l'.take j) n ⟨rfl, 0, rfl, Nat.zero_le _, by omega, by simp⟩ ?_
    rintro m y g H' ⟨rfl, j, rfl, hj, hm', ht⟩
    unfold privityref08_Places.B0
    split
    · rename_i e
      have e := of_decide_eq_true e
      obtain ⟨a, q1, q2⟩ := h.at c (j := j) (by omega)
      refine ⟨a, q1, _, q2, ?_⟩
      obtain ⟨a, q1, q2⟩ := h'.at c' (j := j) (by omega)
      refine ⟨a, q1, _, q2, ?_⟩
      split
      · rename_i e3
        have : l ≠ l' := fun hl => by subst hl; simp at e3
        simpa [this] using hk
      · rename_i e3
        refine ⟨m - 1, by omega, _, rfl, rfl, j + 1, nxt (n := n) (by omega) (by omega), by omega, by omega, take_eq_succ ht (by omega) (by omega) (d := 0) ?_⟩
        have : ((l.getD j 0 : Nat) : Int) = ((l'.getD j 0 : Nat) : Int) := by simpa using e3
        omega
    · rename_i e
      have e : ¬ ((j : Int) < (n : Int)) := fun h => e (decide_eq_true h)
      have : l = l' := by rwa [List.take_of_length_le (by omega), List.take_of_length_le (by omega)] at ht
      simpa [this] using hk
end
section
variable {base : Nat} {H : HH}
theorem h_doO {α : Type} {P : Program} {s : Sem α} {K : α → HH → Prop} {b : Nat} {o o' : Obj} {v : α} (hb : H b = some o) (hbase : base ≤ b)
    (hr : ∀ W : World, Sat H W → ∃ W', s.run P W = .ok v W' ∧ W'.os = W.os ∧ W'.tape = W.tape ∧ W'.output = W.output ∧ W'.heap.size = W.heap.size ∧ (∀ k, k ≠ b → W'.heap[k]? = W.heap[k]?) ∧ W'.heap[b]? = some o')
    (h : K v (upd H b o')) : HRun P base s H K := fun W hs hb' => by
  obtain ⟨W', h1, h2, h3, h4, h5, h6, h7⟩ := hr W hs
  refine ⟨v, W', _, h1, h, ⟨h2, h3, h4, by omega, fun k hk hn => h6 k (fun e => ?_), fun k o hk => ?_, fun k hk hn => ?_⟩⟩
  · subst e
    rcases hn with hn | hn
    · omega
    · rw [hb] at hn; cases hn
  · by_cases e : k = b
    · subst e; rw [upd_self] at hk; cases hk; exact h7
    · rw [upd_ne _ e] at hk; rw [h6 k e]; exact hs k o hk
  · rw [upd_ne _ (fun e => by subst e; rw [hb] at hn; cases hn)]; exact hn
/-- A set of words. -/
def SetW (H : HH) (b : Nat) (xs : List Int) : Prop := ∃ (es : Array MapEntry) (clock : Nat), H b = some (.map es clock) ∧ es.toList.map (fun e => (e.key, e.val)) = xs.map fun x => (Value.int .u64 x, Value.bool true)
theorem findNow_set (x : Int) : ∀ (es : List MapEntry) (xs : List Int) (i : Nat), es.map (fun e => (e.key, e.val)) = xs.map (fun x => (Value.int .u64 x, Value.bool true)) → (x ∉ xs → Instr.findNow (.int .u64) (.int .u64 x) es i = some none) ∧ (x ∈ xs → ∃ k, Instr.findNow (.int .u64) (.int .u64 x) es i = some (some (k, .bool true)))
  | [], [], i, _ => ⟨fun _ => rfl, fun h => by cases h⟩
  | [], y :: ys, i, h => by simp at h
  | e :: es, [], i, h => by simp at h
  | e :: es, y :: ys, i, h => by
    simp only [List.map_cons, List.cons.injEq, Prod.mk.injEq] at h
    obtain ⟨⟨h1, h2⟩, h3⟩ := h
    obtain ⟨i1, i2⟩ := findNow_set x es ys (i + 1) h3
    unfold Instr.findNow
    rw [h1, h2]
    by_cases hxy : x = y
    · subst hxy
      refine ⟨fun h => absurd (List.mem_cons_self ..) h, fun _ => ⟨i, by simp [Instr.sameNow]⟩⟩
    · have : Instr.sameNow (.int .u64) (.int .u64 x) (.int .u64 y) = some false := by simp [Instr.sameNow, hxy]
      rw [this]
      exact ⟨fun h => i1 (fun hm => h (List.mem_cons_of_mem _ hm)), fun h => by
        rcases List.mem_cons.1 h with e | e
        · exact absurd e hxy
        · exact i2 e⟩
abbrev tSet : Nat := 66
theorem unSet : Try.prog.underlying tSet = some (.map 22 4) := by kernel_rfl
theorem un22' : Try.prog.underlying 22 = some (.int .u64) := by kernel_rfl
theorem zeroBool : (Try.prog.info? 4).bind (·.zero) = some (.bool false) := by kernel_rfl
theorem run_key (e : Bool) (x : Int) (W : World) : (Instr.checkKey e 10000 22 (.int .u64 x)).run Try.prog W = .ok () W := by
  rw [show (10000 : Nat) = 9999 + 1 from rfl]
  unfold Instr.checkKey
  simp [run_under un22']
theorem run_find {x : Int} {es : List MapEntry} {r : Option (Nat × Value)} (h : Instr.findNow (.int .u64) (.int .u64 x) es 0 = some r) (W : World) : (Instr.findKey 22 (.int .u64 x) es).run Try.prog W = .ok r W := by
  unfold Instr.findKey
  simp [run_under un22', h]
theorem run_obj {P : Program} {b : Nat} {es : Array MapEntry} {c : Nat} {W : World} (h : W.heap[b]? = some (.map es c)) : (getObj b).run P W = .ok (.map es c) W := by simp [getObj, Sem.run, h]
theorem run_setobj {P : Program} {b : Nat} {es : Array MapEntry} {c : Nat} {o : Obj} {W : World} (h : W.heap[b]? = some (.map es c)) : (setObj b o).run P W = .ok () { W with heap := W.heap.setIfInBounds b o } := by simp [setObj, Sem.run, h]
theorem q_in {b : Nat} {xs : List Int} (h : SetW H b xs) (x : Int) : QRun Try.prog (Instr.lookup tSet (.map (some b)) (.int .u64 x) false) H (.bool (decide (x ∈ xs))) := fun W hs => by
  obtain ⟨es, clock, h1, h2⟩ := h
  obtain ⟨i1, i2⟩ := findNow_set x es.toList xs 0 h2
  have hg := run_obj (P := Try.prog) (hs _ _ h1)
  obtain ⟨i, hi, hz⟩ := Option.bind_eq_some_iff.1 zeroBool
  unfold Instr.lookup
  by_cases hx : x ∈ xs
  · obtain ⟨k, hk⟩ := i2 hx
    simp [run_under unSet, hg, run_key, run_find hk, hx]
  · simp [run_under unSet, hg, run_key, run_find (i1 hx), hx, zeroValue, run_ti hi, hz]
theorem h_put_in {b : Nat} {xs : List Int} (h : SetW H b xs) (hbase : base ≤ b) {x : Int} (hx : x ∉ xs) {K : Unit → HH → Prop} (hk : ∀ H', SetW H' b (xs ++ [x]) → (∀ k, k ≠ b → H' k = H k) → K () H') : HRun Try.prog base (Instr.mapUpdate tSet (.map (some b)) (.int .u64 x) (.bool true)) H K := by
  obtain ⟨es, clock, h1, h2⟩ := h
  obtain ⟨i1, _⟩ := findNow_set x es.toList xs 0 h2
  refine h_doO (o' := .map (es.push { key := .int .u64 x, val := .bool true, born := clock }) (clock + 1)) h1 hbase (fun W hs => ⟨{ W with heap := W.heap.setIfInBounds b (.map (es.push { key := .int .u64 x, val := .bool true, born := clock }) (clock + 1)) }, ?_, rfl, rfl, rfl, ?_, ?_, ?_⟩) (hk _ ⟨_, _, upd_self _ _ _, ?_⟩ (fun k hk => upd_ne _ hk))
  · have hg := run_obj (P := Try.prog) (hs _ _ h1)
    unfold Instr.mapUpdate
    simp [run_under unSet, hg, run_key, run_find (i1 hx), run_setobj (hs _ _ h1)]
  · simp
  · intro k hk
    rw [Array.getElem?_setIfInBounds, if_neg (fun e => hk e.symm)]
  · have := (Array.getElem?_eq_some_iff.1 (hs _ _ h1)).1
    rw [Array.getElem?_setIfInBounds, if_pos rfl, if_pos this]
  · simp [h2]
theorem h_mkset {K : Value → HH → Prop} (hk : ∀ b H', base ≤ b → H b = none → Ext H H' → SetW H' b [] → K (.map (some b)) H') : HRun Try.prog base (Instr.makeMap tSet none) H K :=
  h_new (o := .map #[] 0) (f := fun b => .map (some b)) (fun W => rfl) (fun b hb hbase => hk b _ hbase hb (Ext.upd hb _) ⟨_, _, upd_self _ _ _, rfl⟩)
end
end Go.Proofs.Ytbogcgkeabkliac.HL
end
section
set_option linter.unusedVariables false
set_option linter.unusedSimpArgs false
set_option linter.unusedSectionVars false
set_option maxHeartbeats 1000000
namespace Go.Proofs.Ytbogcgkeabkliac.HL
open Go Go.Proofs.YtbogcgkeabkliacNum Go.Proofs.Ytbogcgkeabkliac.FEv
def mayP (l : List (Int × Int)) (deg wrong : Int) : Prop := (0 ≤ deg ∧ 0 ≤ wrong ∧ deg + 1 + 2 * wrong ≤ l.length) ∧ (l.map (·.1)).Nodup
instance (l : List (Int × Int)) (deg wrong : Int) : Decidable (mayP l deg wrong) := by unfold mayP; exact inferInstance
theorem take_map_succ {l : List (Int × Int)} {j : Nat} (h : j < l.length) : (l.take (j + 1)).map (·.1) = (l.take j).map (·.1) ++ [(l.getD j (0, 0)).1] := take_succ_map _ h _
theorem SetW.ext {H H' : HH} {b : Nat} {xs : List Int} (h : SetW H b xs) (he : Ext H H') : SetW H' b xs := by
  obtain ⟨es, c, h1, h2⟩ := h
  exact ⟨es, c, he _ _ h1, h2⟩
theorem nodup_take {α : Type} {l : List α} (h : l.Nodup) (n : Nat) : (l.take n).Nodup := List.Nodup.sublist (List.take_sublist n l) h
section
variable {base : Nat} {H : HH} {K : Value → HH → Prop} {A A' : Option Addr} {n n' c c' : Nat}
theorem h_may {l : List (Int × Int)} (h : Pts H A n l) (hz : l.length ≤ 1000) {deg wrong : Int} (hk : ∀ H', Ext H H' → K (.bool (decide (mayP l deg wrong))) H') : HCall Try.prog base 24 #[.slice A n c, .int .i64 deg, .int .i64 wrong] H K := by
  refine reedsolomon_may.spec ?_
  unfold reedsolomon_may.sh
  have e1 := h.1
  have no : ¬ (0 ≤ deg ∧ 0 ≤ wrong ∧ deg + 1 + 2 * wrong ≤ l.length) → ∀ H', Ext H H' → K (.bool false) H' := fun hn H' X => by
    have := hk H' X
    rwa [decide_eq_false (fun hm : mayP l deg wrong => hn hm.1)] at this
  split
  rotate_left
  · rename_i e; exact no (fun h => by simp at e; omega) _ (.refl H)
  rename_i e
  split
  rotate_left
  · rename_i e2; exact no (fun h => by simp at e2; omega) _ (.refl H)
  rename_i e2
  split
  rotate_left
  · rename_i e3; exact no (fun h => by simp at e3; omega) _ (.refl H)
  rename_i e3
  split
  rotate_left
  · rename_i e4; exact no (fun h => by simp at e4; omega) _ (.refl H)
  rename_i e4
  have e : ¬ deg < 0 := by simpa using e
  have e2 : ¬ wrong < 0 := by simpa using e2
  have e3 : ¬ wrong > (n : Int) := by simpa using e3
  have e4 : ¬ deg > (n : Int) := by simpa using e4
  have ew : IntKind.i64.wrap (IntKind.i64.wrap (deg + 1) + IntKind.i64.wrap (2 * wrong)) = deg + 1 + 2 * wrong := by
    rw [w64 (x := deg + 1) (by omega) (by omega), w64 (x := 2 * wrong) (by omega) (by omega), w64 (by omega) (by omega)]
  rw [ew]
  split
  · rename_i e5
    have e5 := of_decide_eq_true e5
    exact no (fun h => by omega) _ (.refl H)
  rename_i e5
  have e5 : ¬ ((n : Int) < deg + 1 + 2 * wrong) := fun h => e5 (decide_eq_true h)
  have hb : 0 ≤ deg ∧ 0 ≤ wrong ∧ deg + 1 + 2 * wrong ≤ l.length := ⟨by omega, by omega, by omega⟩
  refine h_mkset (fun b H2 hbase hnb X2 hS => ⟨_, rfl, ?_⟩)
  refine reedsolomon_may.loop0 (fun k y H' => ∃ j : Nat, y = j ∧ j ≤ n ∧ k = n - j ∧ Ext H H' ∧ SetW H' b ((l.take j).map (·.1)) ∧ ((l.take j).map (·.1)).Nodup) n ⟨0, rfl, Nat.zero_le _, by omega, X2, by simpa using hS, by simp⟩ ?_
  rintro k y g H3 ⟨j, rfl, hj, hkk, X3, hS3, hnd⟩
  unfold reedsolomon_may.B0
  split
  · rename_i e6
    have e6 := of_decide_eq_true e6
    have hjl : j < l.length := by omega
    obtain ⟨a, q1, q2⟩ := (h.ext X3).at c (i := j) (by omega) e6
    rw [Int.toNat_natCast] at q2
    refine ⟨a, q1, _, _, q2.all, h_ptvar (fun a2 H4 X4 q3 => ⟨_, fp0 a2, _, q3.x, _, q_in (hS3.ext X4) _, ?_⟩)⟩
    have hts := take_map_succ hjl
    split
    · rename_i e7
      have e7 := of_decide_eq_true e7
      have : ¬ mayP l deg wrong := fun hm => by
        have h2 := nodup_take hm.2 (j + 1)
        rw [← List.map_take, hts] at h2
        exact (List.nodup_append.1 h2).2.2 _ e7 _ (List.mem_singleton.2 rfl) rfl
      have hk := hk H4 (X3.trans X4)
      rwa [decide_eq_false this] at hk
    · rename_i e7
      have e7 : (l.getD j (0, 0)).1 ∉ (l.take j).map (·.1) := fun h => e7 (decide_eq_true h)
      refine ⟨_, fp0 a2, _, q3.x, h_put_in (hS3.ext X4) hbase e7 (fun H5 hS5 s5 => ?_)⟩
      refine ⟨k - 1, by omega, _, rfl, j + 1, nxt (n := n) (by omega) (by unfold maxLen; omega), by omega, by omega, fun k o hk => ?_, by rw [hts]; exact hS5, ?_⟩
      · rw [s5 k (fun e => by rw [e, hnb] at hk; cases hk)]
        exact X4 k o (X3 k o hk)
      · rw [hts, List.nodup_append]
        refine ⟨hnd, by simp, fun x hx y hy e => ?_⟩
        rw [List.mem_singleton] at hy
        exact e7 (by rw [← hy, ← e]; exact hx)
  · rename_i e6
    have e6 : ¬ ((j : Int) < (n : Int)) := fun h => e6 (decide_eq_true h)
    rw [List.take_of_length_le (by omega)] at hnd
    have hk := hk H3 X3
    rwa [decide_eq_true (show mayP l deg wrong from ⟨hb, hnd⟩)] at hk
end
/-- A finished row joins what is frozen; whatever was off it stays off. -/
theorem freezeA {base T n : Nat} {F H : HH} {v : Value} {xs : List Value} (hv : Frz F H v) (ho : Own base H T 1 v n xs) :
    ∃ F', Ext F F' ∧ (∀ w : Value, Frz F H w → (∀ b, w.ownBlock = some b → v.ownBlock ≠ some b) → Frz F' H w) ∧ ∃ A c, v = .slice A n c ∧ Rd F' A xs := by
  obtain ⟨h1, h2⟩ := ho
  rcases h2 with ⟨rfl, rfl⟩ | ⟨g, cap, cur, rfl, hb, hg, r1, r2, r3, r4⟩
  · exact ⟨F, .refl F, fun w hw _ => hw, none, 0, rfl, .inl (List.eq_nil_of_length_eq_zero (by rw [h1, Nat.zero_mul]))⟩
  · have hn : F g = none := hv.off g (by simp [Value.ownBlock])
    refine ⟨upd F g (.cells cur T (0, 0)), Ext.upd hn _, fun w hw hd => ⟨fun b o h => ?_, fun b h => ?_⟩, _, _, rfl, .inr ⟨_, rfl, fun i u hu => ?_⟩⟩
    · by_cases e : b = g
      · subst e; rw [upd_self] at h; cases h; exact hg
      · rw [upd_ne _ e] at h; exact hw.ext b o h
    · rw [upd_ne _ (fun e => by subst e; exact hd _ h (by simp [Value.ownBlock]))]; exact hw.off b h
    · rw [add0, cellH_blk (upd_self _ _ _), ← Array.getElem?_toList]
      rw [← r4, List.getElem?_take] at hu
      split at hu
      · exact hu
      · cases hu
theorem Grows.frz {F H H' : HH} {v v' w : Value} (g : Grows H H' v v') (hv : Frz F H v) (hw : Frz F H w) : Frz F H' w :=
  ⟨fun b o hb => g.keep b o (fun e => by rw [hv.off b e] at hb; cases hb) (hw.ext b o hb), hw.off⟩
theorem Own.grows {base T sz n : Nat} {H H' : HH} {v v' w : Value} {xs : List Value} (g : Grows H H' v v') (ho : Own base H T sz w n xs) (hd : ∀ b, w.ownBlock = some b → v.ownBlock ≠ some b) : Own base H' T sz w n xs :=
  ho.move (fun b o hb hx => g.keep b o (hd b hb) hx)
section
variable {p : Nat} [NeZero p]
def bwRow (deg wrong : Nat) (q : Pt p) : List (Fin p) := (List.range (deg + wrong + 1)).map (fun i => q.1 ^ i) ++ (List.range wrong).map (fun i => -(q.2 * q.1 ^ i))
def bwM (deg wrong : Nat) (l : List (Pt p)) : List (List (Fin p)) := l.map (bwRow deg wrong)
def bwR (wrong : Nat) (l : List (Pt p)) : List (Fin p) := l.map fun q => q.2 * q.1 ^ wrong
@[simp] theorem bwRow_length (deg wrong : Nat) (q : Pt p) : (bwRow deg wrong q).length = deg + wrong + 1 + wrong := by simp [bwRow]
@[simp] theorem bwM_length (deg wrong : Nat) (l : List (Pt p)) : (bwM deg wrong l).length = l.length := by simp [bwM]
@[simp] theorem bwR_length (wrong : Nat) (l : List (Pt p)) : (bwR wrong l).length = l.length := by simp [bwR]
theorem bw_row {deg wrong : Nat} {l : List (Pt p)} {i : Nat} (hi : i < l.length) : rowL (bwM deg wrong l) i = bwRow deg wrong l[i] := rowL_map hi
theorem bw_rect (deg wrong : Nat) (l : List (Pt p)) : RectM (bwM deg wrong l) := RectM.of (c := deg + wrong + 1 + wrong) (fun i hi => by rw [bw_row (by simpa using hi)]; simp)
theorem bw_cols {deg wrong : Nat} {l : List (Pt p)} (h : 0 < l.length) : colsM (bwM deg wrong l) = deg + wrong + 1 + wrong := by
  show (rowL (bwM deg wrong l) 0).length = _
  rw [bw_row h]; simp
def bwQ (deg wrong : Nat) (l : List (Pt p)) : List (Fin p) := (solL (bwM deg wrong l) (bwR wrong l)).take (deg + wrong + 1)
def bwE (deg wrong : Nat) (l : List (Pt p)) : List (Fin p) := (solL (bwM deg wrong l) (bwR wrong l)).drop (deg + wrong + 1) ++ [1]
theorem sumF_add_split (m n : Nat) (f : Nat → Fin p) : sumF (m + n) f = sumF m f + sumF n (fun i => f (m + i)) := by
  rw [sumF_split (Nat.le_add_right m n), Nat.add_sub_cancel_left]
theorem bw_eq (deg wrong : Nat) (q : Pt p) (v : Nat → Fin p) : sumF (deg + wrong + 1 + wrong) (fun j => cf (bwRow deg wrong q) j * v j) = sumF (deg + wrong + 1) (fun j => v j * q.1 ^ j) - q.2 * sumF wrong (fun j => v (deg + wrong + 1 + j) * q.1 ^ j) := by
  rw [sumF_add_split]
  have e1 : sumF (deg + wrong + 1) (fun j => cf (bwRow deg wrong q) j * v j) = sumF (deg + wrong + 1) (fun j => v j * q.1 ^ j) := sumF_congr (fun j hj => by
    unfold bwRow
    rw [cf_app, if_pos (by simpa using hj), cf_map_range, if_pos hj]
    grind)
  have e2 : sumF wrong (fun j => cf (bwRow deg wrong q) (deg + wrong + 1 + j) * v (deg + wrong + 1 + j)) = sumF wrong (fun j => (-q.2) * (v (deg + wrong + 1 + j) * q.1 ^ j)) := sumF_congr (fun j hj => by
    unfold bwRow
    rw [cf_app, if_neg (by simp), List.length_map, List.length_range, Nat.add_sub_cancel_left, cf_map_range, if_pos hj]
    grind)
  rw [e1, e2, sumF_mul]
  grind
theorem bw_solves (hp : IsPr p) {deg wrong : Nat} {l : List (Pt p)} (h0 : 0 < l.length) (hn : ¬ noSol (bwM deg wrong l) (bwR wrong l)) : Solves l deg wrong (bwQ deg wrong l) (bwE deg wrong l) := by
  have hlen : (solL (bwM deg wrong l) (bwR wrong l)).length = deg + wrong + 1 + wrong := by rw [sol_length, bw_cols h0]
  have hs := sol_ok hp (bw_rect deg wrong l) (b := bwR wrong l) (by simp) hn
  have hE : (bwE deg wrong l).length = wrong + 1 := by unfold bwE; simp [hlen]
  have hQ : (bwQ deg wrong l).length = deg + wrong + 1 := by unfold bwQ; simp [hlen]
  refine ⟨⟨hE, ?_⟩, by rw [hQ]; exact Nat.le_refl _, fun q hq => ?_⟩
  · unfold bwE
    rw [cf_app, if_neg (by simp [hlen]), List.length_drop, hlen, show wrong - (deg + wrong + 1 + wrong - (deg + wrong + 1)) = 0 by omega]
    exact cf_cons_zero _ _
  · obtain ⟨i, hi, rfl⟩ := List.getElem_of_mem hq
    have h1 : cf ((bwM deg wrong l).map fun r => dotL r (solL (bwM deg wrong l) (bwR wrong l))) i = cf (bwR wrong l) i := by rw [hs]
    rw [cf_lt (by simpa using hi), List.getElem_map, ← rowL_lt (by simpa using hi), bw_row hi, cf_lt (by simpa using hi)] at h1
    have h2 : (bwR wrong l)[i]'(by simpa using hi) = l[i].2 * l[i].1 ^ wrong := by simp [bwR]
    rw [h2] at h1
    unfold dotL at h1
    rw [bwRow_length, bw_eq] at h1
    have e1 : peval (bwQ deg wrong l) l[i].1 = sumF (deg + wrong + 1) (fun j => cf (solL (bwM deg wrong l) (bwR wrong l)) j * l[i].1 ^ j) := by
      unfold peval Go.Proofs.YtbogcgkeabkliacNum.evF
      rw [hQ]
      refine sumF_congr (fun j hj => ?_)
      congr 1
      unfold bwQ cf
      rw [List.getD_eq_getElem?_getD, List.getD_eq_getElem?_getD, List.getElem?_take, if_pos hj]
    have e2 : peval (bwE deg wrong l) l[i].1 = sumF wrong (fun j => cf (solL (bwM deg wrong l) (bwR wrong l)) (deg + wrong + 1 + j) * l[i].1 ^ j) + l[i].1 ^ wrong := by
      unfold peval Go.Proofs.YtbogcgkeabkliacNum.evF
      rw [hE]
      show sumF wrong _ + cf (bwE deg wrong l) wrong * l[i].1 ^ wrong = _
      have : cf (bwE deg wrong l) wrong = 1 := by
        unfold bwE
        rw [cf_app, if_neg (by simp [hlen]), List.length_drop, hlen, show wrong - (deg + wrong + 1 + wrong - (deg + wrong + 1)) = 0 by omega]
        exact cf_cons_zero _ _
      rw [this]
      have : sumF wrong (fun i_1 => cf (bwE deg wrong l) i_1 * l[i].1 ^ i_1) = sumF wrong (fun j => cf (solL (bwM deg wrong l) (bwR wrong l)) (deg + wrong + 1 + j) * l[i].1 ^ j) := sumF_congr (fun j hj => by
        congr 1
        unfold bwE
        rw [cf_app, if_pos (by simp [hlen]; omega)]
        unfold cf
        rw [List.getD_eq_getElem?_getD, List.getD_eq_getElem?_getD, List.getElem?_drop])
      rw [this]
      grind
    rw [e1, e2]
    grind
theorem bw_some (hp : IsPr p) {deg wrong : Nat} {l : List (Pt p)} (h0 : 0 < l.length) {Q E : List (Fin p)} (h : Solves l deg wrong Q E) : ¬ noSol (bwM deg wrong l) (bwR wrong l) := by
  refine sol_some hp (bw_rect deg wrong l) (fun j => if j < deg + wrong + 1 then cf Q j else cf E (j - (deg + wrong + 1))) (fun i hi => ?_)
  have hi : i < l.length := by simpa using hi
  rw [bw_cols h0, cf_lt (by simpa using hi)]
  have h2 : (bwR wrong l)[i]'(by simpa using hi) = l[i].2 * l[i].1 ^ wrong := by simp [bwR]
  rw [h2]
  have e0 : sumF (deg + wrong + 1 + wrong) (fun j => en (bwM deg wrong l) i j * (if j < deg + wrong + 1 then cf Q j else cf E (j - (deg + wrong + 1)))) = sumF (deg + wrong + 1 + wrong) (fun j => cf (bwRow deg wrong l[i]) j * (if j < deg + wrong + 1 then cf Q j else cf E (j - (deg + wrong + 1)))) := sumF_congr (fun j _ => by
    unfold en
    rw [bw_row hi])
  rw [e0, bw_eq deg wrong l[i] (fun j => if j < deg + wrong + 1 then cf Q j else cf E (j - (deg + wrong + 1)))]
  have e1 : sumF (deg + wrong + 1) (fun j => (if j < deg + wrong + 1 then cf Q j else cf E (j - (deg + wrong + 1))) * l[i].1 ^ j) = peval Q l[i].1 := by
    rw [sumF_congr (g := fun j => cf Q j * l[i].1 ^ j) (fun j hj => by rw [if_pos hj])]
    exact peval_eq Q _ h.len
  have e2 : sumF wrong (fun j => (if deg + wrong + 1 + j < deg + wrong + 1 then cf Q (deg + wrong + 1 + j) else cf E (deg + wrong + 1 + j - (deg + wrong + 1))) * l[i].1 ^ j) + l[i].1 ^ wrong = peval E l[i].1 := by
    rw [sumF_congr (g := fun j => cf E j * l[i].1 ^ j) (fun j hj => by rw [if_neg (by omega), Nat.add_sub_cancel_left])]
    unfold peval Go.Proofs.YtbogcgkeabkliacNum.evF
    rw [h.mon.len]
    show _ = sumF wrong _ + cf E wrong * l[i].1 ^ wrong
    rw [h.mon.top]
    grind
  rw [e1, h.eqs l[i] (List.getElem_mem hi), ← e2]
  grind
end
end Go.Proofs.Ytbogcgkeabkliac.HL
end
section
set_option linter.unusedVariables false
set_option linter.unusedSimpArgs false
set_option linter.unusedSectionVars false
set_option maxHeartbeats 2000000
namespace Go.Proofs.Ytbogcgkeabkliac.HL
open Go Go.Proofs.YtbogcgkeabkliacNum Go.Proofs.Ytbogcgkeabkliac.FEv
section
variable {p : Nat} [NeZero p] {base : Nat} {H : HH} {K : Value → HH → Prop} {A A' : Option Addr} {n n' c c' : Nat}
theorem mk_succ {α : Type} (f : Nat → α) (i : Nat) : (List.range (i + 1)).map f = (List.range i).map f ++ [f i] := by rw [List.range_succ, List.map_append]; rfl
theorem row_lit {x : Int} {C : Value → HH → Prop} (hk : ∀ A' H', Ext H H' → Rd H' A' [.int .u64 x] → C (.slice A' 1 1) H') : HRun Try.prog base (Instr.buildSlice 30 1 #[(0, .int .u64 x)]) H C := by
  have hfill : Instr.fill (fun i => some (i * 1, 1)) (madeCells (Value.int .u64 0).cells (1 * 1)) [(0, .int .u64 x)] = some #[.int .u64 x] := by
    simp [Instr.fill, madeCells, Value.cells, show Array.range 1 = #[0] from by decide]
  refine h_lit (sz := 1) (z := .int .u64 0) (cs := #[.int .u64 x]) un32 (by kernel_rfl) (by decide) hfill (by decide) (fun gb hgb hbase => hk _ _ (Ext.upd hgb _) (.inr ⟨_, rfl, fun i w hw => ?_⟩))
  match i, hw with
  | 0, hw =>
    cases hw
    show cellH _ ((⟨gb, 0, none⟩ : Addr).add 0) = _
    simp [Addr.add, cellH, upd_self]
theorem row_litB {x : Int} {C : Value → HH → Prop} (hk : ∀ gb, H gb = none → C (.slice (some ⟨gb, 0, none⟩) 1 1) (upd H gb (.cells #[.int .u64 x] 22))) : HRun Try.prog base (Instr.buildSlice 30 1 #[(0, .int .u64 x)]) H C := by
  have hfill : Instr.fill (fun i => some (i * 1, 1)) (madeCells (Value.int .u64 0).cells (1 * 1)) [(0, .int .u64 x)] = some #[.int .u64 x] := by
    simp [Instr.fill, madeCells, Value.cells, show Array.range 1 = #[0] from by decide]
  exact h_lit (sz := 1) (z := .int .u64 0) (cs := #[.int .u64 x]) un32 (by kernel_rfl) (by decide) hfill (by decide) (fun gb hgb hbase => hk gb hgb)
theorem row_lit0 {C : Value → HH → Prop} (hk : ∀ A' c' H', Ext H H' → Own base H' 22 1 (.slice A' 0 c') 0 [] → Fresh H (.slice A' 0 c') → C (.slice A' 0 c') H') : HRun Try.prog base (Instr.buildSlice 30 0 #[]) H C := by
  refine h_lit0 (sz := 1) un32 (by rw [info22]) (fun b hb hbase => ?_)
  refine hk _ _ _ (Ext.upd hb _) (by simpa using Own.lit (H := H) (T := 22) (sz := 1) hbase #[] 0 (by decide) (by simp)) (fun b' hb' => ?_)
  have e : b = b' := by simpa [Value.ownBlock] using hb'
  rw [← e]; exact hb
/-- Words that are read are appended to a row of the call's own. -/
theorem h_appR {ty : Nat} {v : Value} {F : HH} {k m : Nat} {l f : List (Fin p)} {B : Option Addr} {d : Nat} (ho : Own base H 22 1 v k (us (vs l))) (hf : Frz F H v) (hm : m = f.length) (hl : k + m ≤ 100000) (hr : Rd H B (us (vs f))) {C : Option Addr → Nat → Nat → HH → Prop} (hk : ∀ A' c' H', Own base H' 22 1 (.slice A' (k + m) c') (k + m) (us (vs (l ++ f))) → Frz F H' (.slice A' (k + m) c') → C A' (k + m) c' H') :
    HRun Try.prog base (Builtin.append_ #[30, 30] ty #[v, .slice B m d]) H fun v H1 => ∃ (A' : Option Addr) (l' c' : Nat), v = .slice A' l' c' ∧ C A' l' c' H1 := by
  refine h_app (m := m) (ys := us (vs f)) un32 inf22 rfl (by decide) ho hr (by simp [hm]) (fun u hu => by obtain ⟨x, _, rfl⟩ := List.mem_map.1 hu; rfl) (fun e => ?_) (by omega) (by decide) (fun A' c' H' ho g => ⟨_, _, _, rfl, hk A' c' H' ?_ (hf.grow g)⟩)
  · rcases hr with e2 | ⟨ad, e2, _⟩
    · rw [hm]; simpa [us, vs] using e2
    · rw [e] at e2; cases e2
  · have : us (vs l) ++ us (vs f) = us (vs (l ++ f)) := by simp [us, vs]
    rwa [this] at ho
theorem Row.le_take {H : HH} {A : Option Addr} {n k : Nat} {l : List (Fin p)} (h : Row H A n (vs l)) (hk : k ≤ l.length) : Row H A k (vs (l.take k)) := by
  refine ⟨by simp; omega, ?_⟩
  have := h.2.take k
  unfold us vs at this ⊢
  rwa [← List.map_take, ← List.map_take] at this
theorem h_try (hp : Sup p) {l : List (Pt p)} (h : Pts H A n (vp l)) (hz : l.length ≤ 100) (h0 : 0 < l.length) {deg wrong : Nat} (hb : deg + wrong + 1 + wrong ≤ 300)
    (hk1 : noSol (bwM deg wrong l) (bwR wrong l) → ∀ H', Ext H H' → K (.tuple #[.slice none 0 0, .slice none 0 0, .bool false]) H')
    (hk2 : ¬ noSol (bwM deg wrong l) (bwR wrong l) → ∀ Aq cq Ae ce H', Ext H H' → Row H' Aq (deg + wrong + 1) (vs (bwQ deg wrong l)) → deg + wrong + 1 ≤ cq → Row H' Ae (wrong + 1) (vs (bwE deg wrong l)) → wrong + 1 ≤ ce → K (.tuple #[.slice Aq (deg + wrong + 1) cq, .slice Ae (wrong + 1) ce, .bool true]) H') :
    HCall Try.prog base 25 #[.int .u64 p, .slice A n c, .int .i64 deg, .int .i64 wrong] H K := by
  refine reedsolomon_try.spec ?_
  unfold reedsolomon_try.sh
  have e1 := h.1
  rw [vp_length] at e1
  have ew : IntKind.i64.wrap (IntKind.i64.wrap ((deg : Int) + (wrong : Int)) + 1) = ((deg + wrong + 1 : Nat) : Int) := by
    rw [w64 (x := (deg : Int) + (wrong : Int)) (by omega) (by omega), w64 (by omega) (by omega)]; omega
  refine reedsolomon_try.loop0 (fun kk Am lm cm Ar lr cr y H' => ∃ j : Nat, y = j ∧ j ≤ n ∧ kk = n - j ∧ lm = j ∧ lr = j ∧ ∃ F, Ext H F ∧ OwnM base F H' (.slice Am j cm) j (ms ((bwM deg wrong l).take j)) ∧ Own base H' 22 1 (.slice Ar j cr) j (us (vs ((bwR wrong l).take j))) ∧ Frz F H' (.slice Ar j cr)) n
    ⟨0, rfl, Nat.zero_le _, by omega, rfl, rfl, H, .refl _, OwnM.nil _ _, Own.nil _ _ _ _, Frz.nil _⟩ ?_
  rintro kk Am lm cm Ar lr cr y g H1 ⟨j, rfl, hj, hkk, rfl, rfl, F, hF, oM, oR, fR⟩
  unfold reedsolomon_try.B0
  rw [ew]
  split
  · rename_i e
    have e := of_decide_eq_true e
    have hjl : lr < l.length := by omega
    obtain ⟨a, q1, q2⟩ := (h.ext (hF.trans fR.ext)).at c (i := lr) (by omega) e
    rw [Int.toNat_natCast, vp_get] at q2
    have hqe : l.getD lr (0, 0) = l[lr] := by simp [hjl]
    rw [hqe] at q2
    refine ⟨a, q1, _, _, q2.all, h_ptvar (fun a2 H2 X2 q3 => ?_)⟩
    have oM := oM.more X2
    have oR := oR.ext X2
    have fR := fR.more X2
    generalize hq : l[lr] = q at q3
    refine reedsolomon_try.loop1 (fun k1 A1 l1 c1 y z H' => ∃ i : Nat, z = i ∧ i ≤ deg + wrong + 1 ∧ k1 = deg + wrong + 1 - i ∧ l1 = i ∧ y = V (q.1 ^ i) ∧ Own base H' 22 1 (.slice A1 i c1) i (us (vs ((List.range i).map fun i => q.1 ^ i))) ∧ Frz H2 H' (.slice A1 i c1)) (deg + wrong + 1) ⟨0, rfl, Nat.zero_le _, by omega, rfl, by rw [pw_zero, V_one hp], Own.nil _ _ _ _, Frz.nil _⟩ ?_
    rintro k1 A1 l1 c1 y z g H3 ⟨i, rfl, hi, hk1', rfl, rfl, ho, hf⟩
    unfold reedsolomon_try.B1
    split
    · rename_i e2
      have e2 := of_decide_eq_true e2
      refine h_push un32 inf22 rfl (by decide) rfl ho (by omega) (fun A4 c4 H4 ho4 g4 => ?_)
      have hf4 := hf.grow g4
      refine ⟨_, fp0 a2, _, (q3.ext hf4.ext).x, h_mul hp _ _ ⟨_, rfl, ?_⟩⟩
      refine ⟨k1 - 1, by omega, _, _, _, _, _, rfl, rfl, rfl, l1 + 1, nxt (n := deg + wrong + 1) (by omega) (by unfold maxLen; omega), by omega, by omega, rfl, by rw [pw_succ], ?_, hf4⟩
      rw [mk_succ, vs_snoc, us_snoc]
      exact ho4
    rename_i e2
    have e2 : ¬ ((l1 : Int) < ((deg + wrong + 1 : Nat) : Int)) := fun h => e2 (decide_eq_true h)
    have : l1 = deg + wrong + 1 := by omega
    subst this
    refine ⟨_, fp1 a2, _, (q3.ext hf.ext).y, ?_⟩
    refine reedsolomon_try.loop2 (fun k2 A1 l1 c1 y z H' => ∃ i : Nat, z = i ∧ i ≤ wrong ∧ k2 = wrong - i ∧ l1 = deg + wrong + 1 + i ∧ y = V (q.2 * q.1 ^ i) ∧ Own base H' 22 1 (.slice A1 (deg + wrong + 1 + i) c1) (deg + wrong + 1 + i) (us (vs ((List.range (deg + wrong + 1)).map (fun i => q.1 ^ i) ++ (List.range i).map (fun i => -(q.2 * q.1 ^ i))))) ∧ Frz H2 H' (.slice A1 (deg + wrong + 1 + i) c1)) wrong ⟨0, rfl, Nat.zero_le _, by omega, rfl, by rw [pw_zero]; congr 1; grind, by simpa using ho, hf⟩ ?_
    rintro k2 A2 l2 c2 y z g H4 ⟨i, rfl, hi, hk2', rfl, rfl, ho2, hf2⟩
    unfold reedsolomon_try.B2
    split
    · rename_i e3
      have e3 := of_decide_eq_true e3
      refine h_neg hp _ ⟨_, rfl, h_push un32 inf22 rfl (by decide) rfl ho2 (by omega) (fun A4 c4 H5 ho4 g4 => ?_)⟩
      have hf4 := hf2.grow g4
      refine ⟨_, fp0 a2, _, (q3.ext hf4.ext).x, h_mul hp _ _ ⟨_, rfl, ?_⟩⟩
      refine ⟨k2 - 1, by omega, _, _, _, _, _, rfl, rfl, rfl, i + 1, nxt (n := wrong) (by omega) (by unfold maxLen; omega), by omega, by omega, rfl, by rw [pw_succ]; congr 1; grind, ?_, hf4⟩
      rw [mk_succ (fun i => -(q.2 * q.1 ^ i)) i, ← List.append_assoc, vs_snoc, us_snoc]
      exact ho4
    rename_i e3
    have e3 : ¬ ((i : Int) < (wrong : Int)) := fun h => e3 (decide_eq_true h)
    have : i = wrong := by omega
    subst this
    -- the row is frozen and pushed, the right side too
    have hrow : (List.range (deg + i + 1)).map (fun i => q.1 ^ i) ++ (List.range i).map (fun j => -(q.2 * q.1 ^ j)) = bwRow deg i q := rfl
    rw [hrow] at ho2
    obtain ⟨F', hFF, hfz, A5, c5, e5, hrd⟩ := freezeA (F := F) ⟨fR.ext.trans hf2.ext, fun b hb => fR.ext.none (hf2.off b hb)⟩ ho2
    cases e5
    have dM : ∀ b, (Value.slice Am lr cm).ownBlock = some b → (Value.slice A2 (deg + i + 1 + i) c2).ownBlock ≠ some b := fun b hb hb' => oM.known hb (hf2.off b hb')
    have dR : ∀ b, (Value.slice Ar lr cr).ownBlock = some b → (Value.slice A2 (deg + i + 1 + i) c2).ownBlock ≠ some b := fun b hb hb' => by
      obtain ⟨_, cur, hc⟩ := oR.known hb
      rw [hf2.off b hb'] at hc; cases hc
    have fM' := hfz _ (oM.frz.more hf2.ext) dM
    have fR' := hfz _ (fR.more hf2.ext) dR
    have oM' := (oM.more hf2.ext).froze hFF fM'
    have oR' := oR.ext hf2.ext
    refine h_pushM oM' (by omega) (l := vs (bwRow deg i q)) ⟨by simp, hrd⟩ (fun A6 c6 H5 oM6 g6 => ?_)
    have dMR : ∀ b, (Value.slice Ar lr cr).ownBlock = some b → (Value.slice Am lr cm).ownBlock ≠ some b := fun b hb hb' => by
      obtain ⟨_, cur, hc⟩ := oR'.known hb
      obtain ⟨rs, o1, _⟩ := oM'
      exact o1.tag hc (by decide) hb'
    have oR6 := oR'.grows g6 dMR
    have fR6 := g6.frz fM' fR'
    refine h_push un32 inf22 rfl (by decide) rfl oR6 (by omega) (fun A7 c7 H6 oR7 g7 => ?_)
    have fR7 := fR6.grow g7
    have oM7 : OwnM base F' H6 (.slice A6 (lr + 1) c6) (lr + 1) (ms ((bwM deg i l).take lr) ++ [vs (bwRow deg i q)]) := by
      obtain ⟨rs, o1, o2, o3, o4⟩ := oM6
      refine ⟨rs, o1.grows g7 (fun b hb hb' => ?_), g7.frz fR6 o2, o3, o4⟩
      obtain ⟨_, cur, hc⟩ := o1.known hb
      exact oR6.tag hc (by decide) hb'
    refine ⟨kk - 1, by omega, _, _, _, _, _, _, _, rfl, rfl, rfl, lr + 1, nxt (n := n) (by omega) (by unfold maxLen; omega), by omega, by omega, rfl, rfl, F', hF.trans hFF, ?_, ?_, fR7⟩
    · rw [ms_take_succ (by simpa using hjl), bw_row hjl, hq]
      exact oM7
    · have : (bwR i l).take (lr + 1) = (bwR i l).take lr ++ [q.2 * q.1 ^ i] := by
        rw [List.take_add_one, List.getElem?_eq_getElem (by simpa using hjl)]
        simp [bwR, hq]
      rw [this, vs_snoc, us_snoc]
      exact oR7
  rename_i e
  have e : ¬ ((lr : Int) < (n : Int)) := fun h => e (decide_eq_true h)
  have : lr = l.length := by omega
  subst this
  rw [List.take_of_length_le (by simp)] at oM oR
  have hE := hF.trans fR.ext
  have hcols := bw_cols (deg := deg) (wrong := wrong) h0
  have hsm : Sm (bwM deg wrong l) := ⟨by simp; omega, fun r hr => by rw [bw_rect deg wrong l r hr]; show colsM _ ≤ 1000; omega⟩
  have hsl : (solL (bwM deg wrong l) (bwR wrong l)).length = deg + wrong + 1 + wrong := by rw [sol_length, hcols]
  refine h_solveC hp oM.mat oR.row hsm (by omega) (fun g => absurd ⟨bw_rect deg wrong l, by simp⟩ g) (fun _ _ hn H2 X2 => ⟨_, _, _, _, rfl, ?_⟩) (fun _ _ hn A2 c2 H2 X2 R2 hc2 => ⟨_, _, _, _, rfl, ?_⟩)
  · rw [if_pos (by decide)]
    exact hk1 hn H2 (hE.trans X2)
  rw [if_neg (by decide)]
  have hE2 := hE.trans X2
  rw [hcols] at R2 hc2 ⊢
  generalize hv : solL (bwM deg wrong l) (bwR wrong l) = v at R2 hsl
  have one_rd : us (vs [(1 : Fin p)]) = [.int .u64 1] := by simp [us, vs, V_one hp]
  have RQ := R2.le_take (k := deg + wrong + 1) (by omega)
  have RD := R2.drop (k := deg + wrong + 1) hc2
  have hd : (vs v).drop (deg + wrong + 1) = vs (v.drop (deg + wrong + 1)) := by unfold vs; rw [List.map_drop]
  rw [hd] at RD
  have hdl : (v.drop (deg + wrong + 1)).length = wrong := by rw [List.length_drop]; omega
  refine ⟨_, _, _, aq_to un32 info22 (by omega) (by omega), _, _, _, aq_from un32 info22 (by omega), ?_⟩
  rw [Int.toNat_natCast, show deg + wrong + 1 + wrong - (deg + wrong + 1) = wrong by omega] at *
  generalize (if c2 = deg + wrong + 1 then A2 else A2.map (·.add ((deg + wrong + 1) * 1))) = AD at RD ⊢
  have fin : ∀ A3 c3 H3, Ext H2 H3 → Own base H3 22 1 (.slice A3 (wrong + 1) c3) (wrong + 1) (us (vs (v.drop (deg + wrong + 1) ++ [1]))) → K (.tuple #[.slice A2 (deg + wrong + 1) c2, .slice A3 (wrong + 1) c3, .bool true]) H3 := fun A3 c3 H3 X3 o3 => by
    refine hk2 hn A2 c2 A3 c3 H3 (hE2.trans X3) ?_ (by omega) ?_ o3.le
    · unfold bwQ; rw [hv]; exact RQ.ext X3
    · unfold bwE; rw [hv]; exact o3.row
  have add1 : ∀ {A3 : Option Addr} {c3 : Nat} {H3 : HH}, Own base H3 22 1 (.slice A3 (wrong + 1) c3) (wrong + 1) (us (vs (v.drop (deg + wrong + 1))) ++ [.int .u64 1]) → Own base H3 22 1 (.slice A3 (wrong + 1) c3) (wrong + 1) (us (vs (v.drop (deg + wrong + 1) ++ [1]))) := fun h => by
    have : us (vs (v.drop (deg + wrong + 1) ++ [(1 : Fin p)])) = us (vs (v.drop (deg + wrong + 1))) ++ [.int .u64 1] := by rw [← one_rd]; simp [us, vs]
    rw [this]; exact h
  refine ⟨?_, ?_⟩
  · refine row_lit0 (fun A3 c3 H3 X3 o3 f3 => ⟨_, _, _, rfl, ?_, ?_⟩)
    · refine h_appR (l := ([] : List (Fin p))) o3 ⟨X3, f3⟩ hdl.symm (by omega) (RD.2.ext X3) (fun A4 c4 H4 o4 f4 => ?_)
      rw [List.nil_append] at o4; rw [Nat.zero_add] at o4 f4 ⊢
      refine h_push un32 inf22 rfl (by decide) rfl o4 (by omega) (fun A5 c5 H5 o5 g5 => ?_)
      exact fin _ _ _ (f4.grow g5).ext (add1 o5)
    · refine row_litB (fun gb hgb => ⟨_, _, _, rfl, ?_⟩)
      have X4 : Ext H3 (upd H3 gb (.cells #[.int .u64 1] 22)) := Ext.upd hgb _
      have f4 : Frz (upd H2 gb (.cells #[.int .u64 1] 22)) (upd H3 gb (.cells #[.int .u64 1] 22)) (.slice A3 0 c3) := by
        refine ⟨fun b o hb => ?_, fun b hb => ?_⟩
        · by_cases e9 : b = gb
          · subst e9; rw [upd_self] at hb ⊢; exact hb
          · rw [upd_ne _ e9] at hb ⊢; exact X3 b o hb
        · have : b ≠ gb := fun e9 => by
            obtain ⟨_, cur, hc⟩ := o3.known hb
            rw [e9, hgb] at hc; cases hc
          rw [upd_ne _ this]; exact f3 b hb
      have hX2 : Ext H2 (upd H2 gb (.cells #[.int .u64 1] 22)) := Ext.upd (X3.none hgb) _
      have r4 : Rd (upd H2 gb (.cells #[.int .u64 1] 22)) (some ⟨gb, 0, none⟩) (us (vs [(1 : Fin p)])) := by
        rw [one_rd]
        refine .inr ⟨_, rfl, fun i w hw => ?_⟩
        match i, hw with
        | 0, hw => cases hw; show cellH _ ((⟨gb, 0, none⟩ : Addr).add 0) = _; simp [Addr.add, cellH, upd_self]
      refine h_appR (l := ([] : List (Fin p))) (o3.ext X4) f4 hdl.symm (by omega) (RD.2.ext (X3.trans X4)) (fun A5 c5 H5 o5 f5 => ?_)
      rw [List.nil_append] at o5; rw [Nat.zero_add] at o5 f5 ⊢
      refine h_appR (k := wrong) (m := 1) o5 f5 (f := [(1 : Fin p)]) rfl (by omega) (r4.ext f5.ext) (fun A6 c6 H6 o6 f6 => ?_)
      exact fin _ _ _ (hX2.trans f6.ext) o6
  · refine row_lit (fun A4 H4 X4 r4 => ⟨_, _, _, rfl, ?_⟩)
    refine row_lit0 (fun A3 c3 H3 X3 o3 f3 => ⟨_, _, _, rfl, ?_⟩)
    refine h_appR (l := ([] : List (Fin p))) (F := H4) o3 ⟨X3, f3⟩ hdl.symm (by omega) (RD.2.ext (X4.trans X3)) (fun A5 c5 H5 o5 f5 => ?_)
    rw [List.nil_append] at o5; rw [Nat.zero_add] at o5 f5 ⊢
    refine h_appR (k := wrong) (m := 1) (F := H4) o5 f5 (f := [(1 : Fin p)]) rfl (by omega) (by rw [one_rd]; exact r4.ext f5.ext) (fun A6 c6 H6 o6 f6 => ?_)
    exact fin _ _ _ (X4.trans f6.ext) o6
abbrev GoodP (f : List (Fin p)) (l : List (Pt p)) (deg wrong : Nat) : Prop := Go.Proofs.YtbogcgkeabkliacNum.Good f l deg wrong
/-- Whether a polynomial with few errors is there. -/
def okP (deg wrong : Nat) (l : List (Pt p)) : Prop := ∃ f, GoodP f l deg wrong
theorem bw_good (hp : IsPr p) {deg wrong : Nat} {l : List (Pt p)} (h0 : 0 < l.length) (hnd : (l.map Prod.fst).Nodup) (hn : deg + 1 + 2 * wrong ≤ l.length) {f : List (Fin p)} (hf : GoodP f l deg wrong) : ¬ noSol (bwM deg wrong l) (bwR wrong l) ∧ ∀ q r, IsDiv (ptrim (bwQ deg wrong l)) (ptrim (bwE deg wrong l)) q r → q = ptrim f ∧ r = [] := by
  obtain ⟨Q, E, hQE⟩ := Go.Proofs.YtbogcgkeabkliacNum.Good.solvable hp hf
  have hns := bw_some hp h0 hQE
  refine ⟨hns, fun q r hd => ?_⟩
  have hs := bw_solves hp h0 hns
  have hdv := Go.Proofs.YtbogcgkeabkliacNum.Good.divides hp hf hnd hn hs
  have hE := hs.mon.tr hp
  have hE0 : ptrim (bwE deg wrong l) = bwE deg wrong l := ptrim_of hE
  have h2 : IsDiv (ptrim (bwQ deg wrong l)) (ptrim (bwE deg wrong l)) (ptrim f) [] := by
    refine ⟨tr_ptrim f, .inl rfl, ?_, fun i => ?_⟩
    · rw [hE0, hs.mon.len]; simp
    · rw [cf_ptrim, hdv, cf_pmul, cf_nil, hE0]
      rw [conv_congr (fun j _ => (cf_ptrim f j).symm) (fun _ _ => rfl)]
      grind
  exact hd.unique hp (tr_ptrim _) h2
theorem fits_trim (f : List (Fin p)) (q : Pt p) : hits (ptrim f) q = hits f q := by
  unfold hits Go.Proofs.YtbogcgkeabkliacNum.fits
  rw [peval_ptrim]
theorem good_trim {f : List (Fin p)} {l : List (Pt p)} {deg wrong : Nat} (h : GoodP f l deg wrong) : GoodP (ptrim f) l deg wrong :=
  ⟨Nat.le_trans (ptrim_len f) h.len, by
    have e : errs (ptrim f) l = errs f l := by
      unfold errs
      congr 1
      funext q
      rw [show Go.Proofs.YtbogcgkeabkliacNum.fits (ptrim f) q = hits (ptrim f) q from rfl, fits_trim]
    rw [e]; exact h.few⟩
theorem mayP_vp {l : List (Pt p)} {deg wrong : Int} (h : mayP (vp l) deg wrong) : 0 < l.length ∧ (l.map Prod.fst).Nodup ∧ ∃ d w : Nat, deg = d ∧ wrong = w ∧ d + 1 + 2 * w ≤ l.length := by
  obtain ⟨⟨h1, h2, h3⟩, h4⟩ := h
  rw [vp_length] at h3
  refine ⟨by omega, ?_, deg.toNat, wrong.toNat, by omega, by omega, by omega⟩
  unfold vp at h4
  rw [List.map_map] at h4
  have e : l.map ((fun q : Int × Int => q.1) ∘ fun q : Pt p => (V q.1, V q.2)) = (l.map Prod.fst).map V := by rw [List.map_map]; rfl
  rw [e] at h4
  exact List.Pairwise.of_map V (fun a b hab e => hab (by rw [e])) h4
theorem h_decode (hp : Sup p) {l : List (Pt p)} (h : Pts H A n (vp l)) (hz : l.length ≤ 100) {deg wrong : Int}
    (hk1 : ¬ mayP (vp l) deg wrong → ∀ H', Ext H H' → K (.tuple #[.slice none 0 0, .slice none 0 0, .int .i64 1]) H')
    (hk2 : mayP (vp l) deg wrong → ¬ okP deg.toNat wrong.toNat l → ∀ H', Ext H H' → K (.tuple #[.slice none 0 0, .slice none 0 0, .int .i64 9]) H')
    (hk3 : mayP (vp l) deg wrong → ∀ f, Tr f → GoodP f l deg.toNat wrong.toNat → ∀ A1 c1 A2 c2 H', Ext H H' → Row H' A1 f.length (vs f) → RowI H' A2 (errIdx f l l.length).length (errIdx f l l.length) → f.length ≤ c1 → K (.tuple #[.slice A1 f.length c1, .slice A2 (errIdx f l l.length).length c2, .int .i64 0]) H') :
    HCall Try.prog base 8 #[.int .u64 p, .slice A n c, .int .i64 deg, .int .i64 wrong] H K := by
  refine reedsolomon_Decode.spec ?_
  unfold reedsolomon_Decode.sh
  refine h_may h (by rw [vp_length]; omega) (fun H2 X2 => ⟨_, rfl, ?_⟩)
  by_cases hm : mayP (vp l) deg wrong
  rotate_left
  · rw [if_pos (by simp [hm])]
    exact hk1 hm H2 X2
  rw [if_neg (by simp [hm])]
  have hk2 := hk2 hm
  have hk3 := hk3 hm
  obtain ⟨h0, hnd, d, w, rfl, rfl, hn⟩ := mayP_vp hm
  rw [Int.toNat_natCast, Int.toNat_natCast] at hk2 hk3
  refine h_try hp (h.ext X2) hz h0 (by omega) (fun hns H3 X3 => ⟨_, _, _, _, _, _, _, rfl, ?_⟩) (fun hns Aq cq Ae ce H3 X3 RQ hq RE he => ⟨_, _, _, _, _, _, _, rfl, ?_⟩)
  · rw [if_pos (by decide)]
    exact hk2 (fun ⟨f, hf⟩ => (bw_good hp.pr h0 hnd hn hf).1 hns) H3 (X2.trans X3)
  rw [if_neg (by decide)]
  have hs := bw_solves hp.pr h0 hns
  have hQl : (bwQ d w l).length = d + w + 1 := by have := RQ.1; rw [vs_length] at this; omega
  have hEl := hs.mon.len
  have X3 := X2.trans X3
  have hE0 : ptrim (bwE d w l) ≠ [] := fun e => by
    rw [ptrim_of (hs.mon.tr hp.pr)] at e
    rw [e] at hEl; simp at hEl
  refine h_divmod hp RQ RE (by omega) (by omega) hq he (fun e => absurd e hE0) (fun q r hd hql A1 c1 A2 c2 H4 X4 R1 R2 hc => ⟨_, _, _, _, _, _, _, rfl, ?_⟩)
  have X4 := X3.trans X4
  have hgood : ∀ f, GoodP f l d w → q = ptrim f ∧ r = [] := fun f hf => (bw_good hp.pr h0 hnd hn hf).2 q r hd
  have hqt : ptrim q = q := ptrim_of hd.tq
  by_cases hr0 : r.length = 0
  rotate_left
  · rw [if_neg (show ¬ (decide (((r.length : Nat) : Int) > 0)) = false from fun e => by have e := of_decide_eq_false e; omega)]
    exact hk2 (fun ⟨f, hf⟩ => hr0 (by rw [(hgood f hf).2]; rfl)) H4 X4
  rw [if_pos (show (decide (((r.length : Nat) : Int) > 0)) = false from decide_eq_false (by omega))]
  refine h_degree R1 (by omega) ⟨_, rfl, ?_⟩
  rw [hqt]
  split
  · rename_i e
    have e := of_decide_eq_true e
    refine hk2 (fun ⟨f, hf⟩ => ?_) H4 X4
    have := (good_trim hf).len
    rw [← (hgood f hf).1] at this
    omega
  rename_i e
  have e : ¬ ((q.length : Int) - 1 > (d : Int)) := fun h => e (decide_eq_true h)
  refine h_errpos hp R1 (h.ext X4) (by omega) (by omega) (fun A5 c5 H5 X5 R5 => ⟨_, _, _, rfl, ?_⟩)
  rw [errIdx_len] at R5 ⊢
  have X5 := X4.trans X5
  split
  · rename_i e2
    have e2 := of_decide_eq_true e2
    refine hk2 (fun ⟨f, hf⟩ => ?_) H5 X5
    have := (good_trim hf).few
    rw [← (hgood f hf).1] at this
    omega
  · rename_i e2
    have e2 : ¬ (((errs q l).length : Int) > (w : Int)) := fun h => e2 (decide_eq_true h)
    have := hk3 q hd.tq ⟨by omega, by omega⟩ A1 c1 A5 c5 H5 X5 (R1.ext (by assumption)) (by rw [errIdx_len]; exact R5) hc
    rwa [errIdx_len] at this
end
end Go.Proofs.Ytbogcgkeabkliac.HL
end
section
set_option linter.unusedVariables false
set_option linter.unusedSimpArgs false
set_option linter.unusedSectionVars false
set_option maxHeartbeats 2000000
namespace Go.Proofs.Ytbogcgkeabkliac.HL
open Go Go.Proofs.YtbogcgkeabkliacNum Go.Proofs.Ytbogcgkeabkliac.FEv
section
variable {p : Nat} [NeZero p] {base : Nat} {H : HH} {K : Value → HH → Prop} {A A' : Option Addr} {n n' c c' : Nat}
theorem h_rtrim {f : List (Fin p)} (h : Row H A n (vs f)) (hz : f.length ≤ 1000) (hc : n ≤ c) (hk : ∀ A' c' H', Ext H H' → Own base H' 22 1 (.slice A' (ptrim f).length c') (ptrim f).length (us (vs (ptrim f))) → Fresh H (.slice A' (ptrim f).length c') → K (.slice A' (ptrim f).length c') H') : HCall Try.prog base 29 #[.slice A n c] H K := by
  refine privityref04_Trim.spec ?_
  unfold privityref04_Trim.sh
  have e1 := h.1
  rw [vs_length] at e1
  have fin : ∀ j : Nat, j ≤ n → (∀ i, j ≤ i → cf f i = 0) → (j = 0 ∨ cf f (j - 1) ≠ 0) → privityref04_Trim.T0 base A n c j H K := fun j hj h1 h2 => by
    unfold privityref04_Trim.T0
    unfold privityref04_Trim.S0
    obtain ⟨t1, t2⟩ := trim_take (by omega) h1 h2
    rw [t2] at hk
    refine row_lit0 (fun A3 c3 H3 X3 o3 f3 => ⟨_, _, _, rfl, _, _, _, aq_to un32 info22 (by omega) (by omega), ?_⟩)
    rw [Int.toNat_natCast]
    have hr := (h.ext X3).le_take (k := j) (by omega)
    rw [← t1] at hr
    refine h_appR (l := ([] : List (Fin p))) o3 ⟨X3, f3⟩ t2.symm (by omega) hr.2 (fun A4 c4 H4 o4 f4 => ?_)
    rw [List.nil_append] at o4; rw [Nat.zero_add] at o4 f4 ⊢
    exact hk A4 c4 H4 f4.ext o4 f4.off
  refine privityref04_Trim.loop0 (fun k z H' => H' = H ∧ ∃ j : Nat, j ≤ n ∧ k = j ∧ z = j ∧ ∀ i, j ≤ i → cf f i = 0) n ⟨rfl, n, Nat.le_refl _, rfl, rfl, fun i hi => cf_ge (by omega)⟩ ?_
  rintro k z g H' ⟨rfl, j, hj, rfl, rfl, hzz⟩
  unfold privityref04_Trim.B0
  split
  · rename_i e
    have e := of_decide_eq_true e
    have hj0 : 0 < k := by omega
    have ed : IntKind.i64.wrap ((k : Int) - 1) = ((k - 1 : Nat) : Int) := by rw [dec1 (by omega)]; omega
    rw [ed]
    obtain ⟨a1, q1, q2⟩ := h.at c (i := (k - 1 : Nat)) (by omega) (by omega)
    rw [Int.toNat_natCast, vs_get] at q2
    refine ⟨a1, q1, _, q2, ?_⟩
    split
    · rename_i e2
      have heq : cf f (k - 1) = 0 := by
        have : V (cf f (k - 1)) = 0 := by simpa using e2
        exact V_eq_zero.1 this
      refine ⟨k - 1, by omega, _, rfl, rfl, k - 1, by omega, rfl, rfl, fun i hi => ?_⟩
      by_cases e3 : i = k - 1
      · rw [e3]; exact heq
      · exact hzz i (by omega)
    · rename_i e2
      have hne : cf f (k - 1) ≠ 0 := fun h => by rw [h, V_zero] at e2; simp at e2
      exact privityref04_Trim.cut0 (fin k hj hzz (.inr hne))
  · rename_i e
    have e : ¬ ((k : Int) > 0) := fun h => e (decide_eq_true h)
    exact privityref04_Trim.cut0 (fin k hj hzz (.inl (by omega)))
theorem h_same2 {f g : List (Fin p)} (h : Row H A n (vs f)) (h' : Row H A' n' (vs g)) (hz : f.length ≤ 1000) (hz' : g.length ≤ 1000) (hc : n ≤ c) (hc' : n' ≤ c') (hk : ∀ H', Ext H H' → K (.bool (decide (ptrim f = ptrim g))) H') : HCall Try.prog base 15 #[.slice A n c, .slice A' n' c'] H K := by
  refine privityref04_Same.spec ?_
  unfold privityref04_Same.sh
  have hl := ptrim_len f
  refine h_rtrim h hz hc (fun A1 c1 H1 X1 o1 _ => ⟨_, _, _, rfl, h_rtrim (h'.ext X1) hz' hc' (fun A2 c2 H2 X2 o2 _ => ⟨_, _, _, rfl, ?_⟩)⟩)
  refine h_equal (o1.ext X2).row o2.row (by rw [vs_length]; unfold maxLen; omega) ⟨_, rfl, ?_⟩
  have := hk H2 (X1.trans X2)
  have e : decide (vs (ptrim f) = vs (ptrim g)) = decide (ptrim f = ptrim g) := by
    by_cases h : ptrim f = ptrim g
    · rw [h]; simp
    · rw [decide_eq_false h, decide_eq_false (fun e => h (vs_inj e))]
  rwa [e]
theorem h_coeff {f : List (Fin p)} (h : Row H A n (vs f)) {i : Nat} (hk : K (.int .u64 (V (cf f i))) H) : HCall Try.prog base 31 #[.slice A n c, .int .i64 i] H K := by
  refine privityref04_Coefficient.spec ?_
  unfold privityref04_Coefficient.sh
  have e1 := h.1
  rw [vs_length] at e1
  rw [if_pos (decide_eq_false (by omega))]
  split
  · rename_i e
    have e := of_decide_eq_true e
    rw [cf_ge (by omega), V_zero] at hk
    exact hk
  · rename_i e
    have e : ¬ ((i : Int) ≥ (n : Int)) := fun h => e (decide_eq_true h)
    obtain ⟨a1, q1, q2⟩ := h.at c (i := i) (by omega) (by omega)
    rw [Int.toNat_natCast, vs_get] at q2
    exact ⟨a1, q1, _, q2, hk⟩
theorem h_padd (hp : Sup p) {f g : List (Fin p)} (h : Row H A n (vs f)) (h' : Row H A' n' (vs g)) (hz : f.length ≤ 900) (hz' : g.length ≤ 900) (hk : ∀ A1 c1 H', Ext H H' → Own base H' 22 1 (.slice A1 (padd f g).length c1) (padd f g).length (us (vs (padd f g))) → Fresh H (.slice A1 (padd f g).length c1) → K (.slice A1 (padd f g).length c1) H') : HCall Try.prog base 21 #[.int .u64 p, .slice A n c, .slice A' n' c'] H K := by
  refine privityref04_Add.spec ?_
  unfold privityref04_Add.sh
  have e1 := h.1
  have e2 := h'.1
  rw [vs_length] at e1 e2
  refine privityref04_Add.loop0 (fun k A1 l1 c1 y H' => ∃ j : Nat, y = j ∧ j ≤ max n n' ∧ k = max n n' - j ∧ l1 = j ∧ Own base H' 22 1 (.slice A1 j c1) j (us (vs ((List.range j).map fun i => cf f i + cf g i))) ∧ Frz H H' (.slice A1 j c1)) (max n n') ⟨0, rfl, Nat.zero_le _, by omega, rfl, Own.nil _ _ _ _, Frz.nil _⟩ ?_
  rintro k A1 l1 c1 y g1 H1 ⟨j, rfl, hj, hkk, rfl, ho, hf⟩
  unfold privityref04_Add.B0
  have step : ∀ {N0 : Value → Value → HH → Prop}, l1 < max n n' → (∀ A4 c4 H4, Own base H4 22 1 (.slice A4 (l1 + 1) c4) (l1 + 1) (us (vs ((List.range (l1 + 1)).map fun i => cf f i + cf g i))) → Frz H H4 (.slice A4 (l1 + 1) c4) → N0 (.slice A4 (l1 + 1) c4) (.int .i64 (IntKind.i64.wrap ((l1 : Int) + 1))) H4) → privityref04_Add.T0 base N0 p A n c A' n' c' A1 l1 c1 l1 H1 K := fun {N0} hlt hN => by
    unfold privityref04_Add.T0
    unfold privityref04_Add.S0
    refine h_coeff (h.ext hf.ext) ⟨_, rfl, h_coeff (h'.ext hf.ext) ⟨_, rfl, h_radd hp _ _ ⟨_, rfl, ?_⟩⟩⟩
    refine h_push un32 inf22 rfl (by decide) rfl ho (by omega) (fun A4 c4 H4 ho4 g4 => hN A4 c4 H4 ?_ (hf.grow g4))
    rw [mk_succ, vs_snoc, us_snoc]
    exact ho4
  have fin : l1 < max n n' → ∀ A4 c4 H4, Own base H4 22 1 (.slice A4 (l1 + 1) c4) (l1 + 1) (us (vs ((List.range (l1 + 1)).map fun i => cf f i + cf g i))) → Frz H H4 (.slice A4 (l1 + 1) c4) → ∃ k', k' < k ∧ ∃ (A7 : Option Addr) (l7 c7 : Nat) (y8 : Int), Value.slice A4 (l1 + 1) c4 = .slice A7 l7 c7 ∧ Value.int .i64 (IntKind.i64.wrap ((l1 : Int) + 1)) = .int .i64 y8 ∧ ∃ j : Nat, y8 = j ∧ j ≤ max n n' ∧ k' = max n n' - j ∧ l7 = j ∧ Own base H4 22 1 (.slice A7 j c7) j (us (vs ((List.range j).map fun i => cf f i + cf g i))) ∧ Frz H H4 (.slice A7 j c7) := fun hlt A4 c4 H4 o4 f4 =>
    ⟨k - 1, by omega, _, _, _, _, rfl, rfl, l1 + 1, nxt (n := max n n') (by omega) (by unfold maxLen; omega), by omega, by omega, rfl, o4, f4⟩
  split
  · rename_i e
    have e : ¬ ((l1 : Int) < (n : Int)) := by simpa using e
    split
    · rename_i e3
      have e3 := of_decide_eq_true e3
      exact privityref04_Add.cut0 (step (by omega) (fin (by omega)))
    · rename_i e3
      have e3 : ¬ ((l1 : Int) < (n' : Int)) := fun h => e3 (decide_eq_true h)
      have : l1 = max n n' := by omega
      subst this
      have hpe : ptrim ((List.range (max n n')).map fun i => cf f i + cf g i) = padd f g := by unfold padd mkp; rw [e1, e2]
      refine h_rtrim ho.row (by simp; omega) ho.le (fun A5 c5 H5 X5 o5 f5 => ⟨_, _, _, rfl, ?_⟩)
      rw [hpe] at o5 f5 ⊢
      exact hk A5 c5 H5 (hf.ext.trans X5) o5 (fun b hb => hf.ext.none (f5 b hb))
  · rename_i e
    have e : (l1 : Int) < (n : Int) := by simpa using e
    exact privityref04_Add.cut0 (step (by omega) (fin (by omega)))
end
end Go.Proofs.Ytbogcgkeabkliac.HL
end
section
set_option linter.unusedVariables false
set_option linter.unusedSimpArgs false
set_option linter.unusedSectionVars false
set_option maxHeartbeats 2000000
namespace Go.Proofs.Ytbogcgkeabkliac.HL
open Go Go.RowKit Go.Proofs.YtbogcgkeabkliacW.PrintWords Go.Proofs.YtbogcgkeabkliacW.PrintMore Go.Proofs.Ytbogcgkeabkliac.PF Go.Proofs.YtbogcgkeabkliacNum Go.Proofs.Ytbogcgkeabkliac.FEv
section
variable {p : Nat} [NeZero p] {base : Nat} {H : HH} {K : Value → HH → Prop} {A A' : Option Addr} {n n' c c' : Nat}
theorem infPt : (Try.prog.info? tPt).map (fun i => (i.zero, i.size, i.bytes)) = some (some (.agg #[.int .u64 0, .int .u64 0]), 2, 16) := by kernel_rfl
theorem one_pc (l : List (Int × Int)) : ∀ u ∈ pc l, u.oneCell' = true := fun u hu => by
  unfold pc at hu
  obtain ⟨q, _, hq⟩ := List.mem_flatMap.1 hu
  rcases List.mem_cons.1 hq with e | e
  · rw [e]; rfl
  · rw [List.mem_singleton.1 e]; rfl
theorem h_appP {ty : Nat} {v : Value} {F : HH} {k m d : Nat} {l f : List (Int × Int)} {B : Option Addr} (ho : Own base H tPt 2 v k (pc l)) (hf : Frz F H v) (hm : m = f.length) (hl : k + m ≤ 100000) (hr : Rd H B (pc f)) {C : Option Addr → Nat → Nat → HH → Prop} (hk : ∀ A' c' H', Own base H' tPt 2 (.slice A' (k + m) c') (k + m) (pc (l ++ f)) → Frz F H' (.slice A' (k + m) c') → C A' (k + m) c' H') :
    HRun Try.prog base (Builtin.append_ #[tPts, tPts] ty #[v, .slice B m d]) H fun v H1 => ∃ (A' : Option Addr) (l' c' : Nat), v = .slice A' l' c' ∧ C A' l' c' H1 := by
  refine h_app (m := m) (ys := pc f) unPts infPt rfl (by decide) ho hr (by rw [pc_length, hm]) (one_pc f) (fun e => ?_) (by omega) (by decide) (fun A' c' H' ho g => ⟨_, _, _, rfl, hk A' c' H' ?_ (hf.grow g)⟩)
  · rcases hr with e2 | ⟨ad, e2, _⟩
    · have := congrArg List.length e2
      rw [pc_length] at this
      simp at this
      omega
    · rw [e] at e2; cases e2
  · have : pc l ++ pc f = pc (l ++ f) := by simp [pc]
    rwa [this] at ho
theorem pt_litB {x y : Int} {C : Value → HH → Prop} (hk : ∀ gb, H gb = none → C (.slice (some ⟨gb, 0, none⟩) 1 1) (upd H gb (.cells #[.int .u64 x, .int .u64 y] tPt))) : HRun Try.prog base (Instr.buildSlice tPts 1 #[(0, .agg #[.int .u64 x, .int .u64 y])]) H C := by
  have hfill : Instr.fill (fun i => some (i * 2, 2)) (madeCells (Value.agg #[.int .u64 0, .int .u64 0]).cells (1 * 2)) [(0, .agg #[.int .u64 x, .int .u64 y])] = some #[.int .u64 x, .int .u64 y] := by kernel_rfl
  exact h_lit (sz := 2) (z := .agg #[.int .u64 0, .int .u64 0]) (cs := #[.int .u64 x, .int .u64 y]) unPts (by kernel_rfl) (by decide) hfill (by decide) (fun gb hgb hbase => hk gb hgb)
theorem rd_pt {gb : Nat} {x y : Int} : Rd (upd H gb (.cells #[.int .u64 x, .int .u64 y] tPt)) (some ⟨gb, 0, none⟩) (pc [(x, y)]) := by
  refine .inr ⟨_, rfl, fun i w hw => ?_⟩
  rw [add0, cellH_blk (upd_self _ _ _)]
  match i, hw with
  | 0, hw => cases hw; rfl
  | 1, hw => cases hw; rfl
theorem own_pts {l : List (Int × Int)} {k c : Nat} (h : Own base H tPt 2 (.slice A k c) k (pc l)) : Pts H A k l := by
  obtain ⟨A', c', e, _, h1⟩ := h.slice
  cases e
  exact ⟨by have := h.1; rw [pc_length] at this; omega, h1⟩
end
end Go.Proofs.Ytbogcgkeabkliac.HL
end
section
set_option linter.unusedVariables false
set_option linter.unusedSimpArgs false
set_option linter.unusedSectionVars false
set_option maxHeartbeats 2000000
namespace Go.Proofs.Ytbogcgkeabkliac.HL
open Go Go.Proofs.YtbogcgkeabkliacNum Go.Proofs.Ytbogcgkeabkliac.FEv
section
variable {p : Nat} [NeZero p]
theorem vp_snoc (l : List (Pt p)) (q : Pt p) : vp (l ++ [q]) = vp l ++ [(V q.1, V q.2)] := by simp [vp]
end
end Go.Proofs.Ytbogcgkeabkliac.HL
end
section
set_option linter.unusedVariables false
set_option linter.unusedSimpArgs false
set_option linter.unusedSectionVars false
set_option maxHeartbeats 2000000
namespace Go.Proofs.Ytbogcgkeabkliac.HL
open Go Go.RowKit Go.Proofs.YtbogcgkeabkliacW.PrintWords Go.Proofs.YtbogcgkeabkliacW.PrintMore Go.Proofs.Ytbogcgkeabkliac.PF Go.Proofs.YtbogcgkeabkliacNum Go.Proofs.Ytbogcgkeabkliac.FEv
theorem aq_rem {P : Program} {k : IntKind} {t : TypeId} {x y : Operand} {a b : Int} (hb : b ≠ 0) : AQ P (binSem .rem t x y (.int k a) (.int k b)) (.int k (Int.tmod a b)) := fun W => by
  simp [binSem, eqGuard, binOp, Op.intDiv, hb, bind, Sem.bind, pure, Sem.run]
theorem aq_pt (x y : Int) : AQ Try.prog (Instr.build tPt #[(0, (.int .u64 x)), (1, (.int .u64 y))]) (.agg #[(.int .u64 x), (.int .u64 y)]) := fun W => by
  kernel_rfl
section
variable {base : Nat} {H : HH} {K : Value → HH → Prop} {A A' : Option Addr} {n n' c c' : Nat}
theorem h_fitp {x : Int} (h0 : 0 ≤ x) (hk : ∀ p : Nat, Sup p → K (.int .u64 p) H) : HCall Try.prog base 22 #[.int .u64 x] H K := by
  obtain ⟨p, hp, e⟩ := Fit_ex x h0
  exact (HCall.of (enters Try.func22 (by kernel_rfl)) (fun W => privityref01_Fit.calls _ _ W e)).to (hk p hp)
section
variable {p : Nat} [NeZero p]
/-- The first k of the words, as elements. -/
def wordsP (p : Nat) [NeZero p] (l : List Int) (k : Nat) : List (Fin p) := (l.take k).map E
def pointsP (p : Nat) [NeZero p] (l : List (Int × Int)) (k : Nat) : List (Pt p) := (l.take k).map fun q => (E q.1, E q.2)
theorem wordsP_len (l : List Int) (k : Nat) : (wordsP p l k).length = min k l.length := by simp [wordsP]
theorem pointsP_len (l : List (Int × Int)) (k : Nat) : (pointsP p l k).length = min k l.length := by simp [pointsP]
theorem wordsP_succ {l : List Int} {k : Nat} (h : k < l.length) : wordsP p l (k + 1) = wordsP p l k ++ [E (l.getD k 0)] := take_succ_map _ h _
theorem pointsP_succ {l : List (Int × Int)} {k : Nat} (h : k < l.length) : pointsP p l (k + 1) = pointsP p l k ++ [(E (l.getD k (0, 0)).1, E (l.getD k (0, 0)).2)] := take_succ_map _ h _
theorem getD_nn {l : List Int} (h : ∀ x ∈ l, 0 ≤ x) (k : Nat) : 0 ≤ l.getD k 0 := by
  rw [List.getD_eq_getElem?_getD]
  cases e : l[k]? with
  | none => exact Int.le_refl _
  | some x => exact h x (List.mem_of_getElem? e)
theorem getD_nn2 {l : List (Int × Int)} (h : ∀ x ∈ l, 0 ≤ x.1 ∧ 0 ≤ x.2) (k : Nat) : 0 ≤ (l.getD k (0, 0)).1 ∧ 0 ≤ (l.getD k (0, 0)).2 := by
  rw [List.getD_eq_getElem?_getD]
  cases e : l[k]? with
  | none => exact ⟨Int.le_refl _, Int.le_refl _⟩
  | some x => exact h x (List.mem_of_getElem? e)
theorem p_ne : ((p : Nat) : Int) ≠ 0 := by have := NeZero.ne p; omega
theorem h_words {l : List Int} (h : Row H A n l) (hn : ∀ x ∈ l, 0 ≤ x) {k : Nat} (hkk : k ≤ 1000) (hk : ∀ A1 c1 H', Ext H H' → Own base H' 22 1 (.slice A1 (wordsP p l k).length c1) (wordsP p l k).length (us (vs (wordsP p l k))) → Fresh H (.slice A1 (wordsP p l k).length c1) → K (.slice A1 (wordsP p l k).length c1) H') : HCall Try.prog base 11 #[.int .u64 p, .slice A n c, .int .i64 k] H K := by
  refine privityref04_Words.spec ?_
  unfold privityref04_Words.sh
  have e1 := h.1
  refine privityref04_Words.loop0 (fun r A1 l1 c1 y H' => ∃ j : Nat, y = j ∧ j ≤ k ∧ j ≤ n ∧ r = k - j ∧ l1 = j ∧ Own base H' 22 1 (.slice A1 j c1) j (us (vs (wordsP p l j))) ∧ Frz H H' (.slice A1 j c1)) k ⟨0, rfl, Nat.zero_le _, Nat.zero_le _, by omega, rfl, Own.nil _ _ _ _, Frz.nil _⟩ ?_
  rintro r A1 l1 c1 y g1 H1 ⟨j, rfl, hj, hjn, hr, rfl, ho, hf⟩
  unfold privityref04_Words.B0
  have stop : (l1 = k ∨ l1 = n) → K (.slice A1 l1 c1) H1 := fun hs => by
    have e : wordsP p l k = wordsP p l l1 := by
      unfold wordsP
      rcases hs with h | h
      · rw [h]
      · rw [List.take_of_length_le (show l.length ≤ k by omega), List.take_of_length_le (show l.length ≤ l1 by omega)]
    have el : (wordsP p l k).length = l1 := by rw [wordsP_len]; omega
    have := hk A1 c1 H1 hf.ext (by rw [el, e]; exact ho) (by rw [el]; exact hf.2)
    rwa [el] at this
  split
  · rename_i e
    have e := of_decide_eq_true e
    split
    · rename_i e2
      have e2 := of_decide_eq_true e2
      obtain ⟨a, q1, q2⟩ := (h.ext hf.ext).at c (i := l1) (by omega) e
      rw [Int.toNat_natCast] at q2
      refine ⟨a, q1, _, q2, _, aq_rem p_ne, ?_⟩
      rw [tmod_V (p := p) (getD_nn hn l1)]
      refine h_push un32 inf22 rfl (by decide) rfl ho (by omega) (fun A4 c4 H4 ho4 g4 => ?_)
      refine ⟨r - 1, by omega, _, _, _, _, rfl, rfl, l1 + 1, nxt (n := 1000) (by omega) (by decide), by omega, by omega, by omega, rfl, ?_, hf.grow g4⟩
      rw [wordsP_succ (by omega), vs_snoc, us_snoc]
      exact ho4
    · rename_i e2
      have e2 : ¬ ((l1 : Int) < (k : Int)) := fun h => e2 (decide_eq_true h)
      exact stop (.inl (by omega))
  · rename_i e
    have e : ¬ ((l1 : Int) < (n : Int)) := fun h => e (decide_eq_true h)
    exact stop (.inr (by omega))
theorem h_points {l : List (Int × Int)} (h : Pts H A n l) (hn : ∀ x ∈ l, 0 ≤ x.1 ∧ 0 ≤ x.2) {k : Nat} (hkk : k ≤ 1000) (hk : ∀ A1 c1 H', Ext H H' → Pts H' A1 (pointsP p l k).length (vp (pointsP p l k)) → K (.slice A1 (pointsP p l k).length c1) H') : HCall Try.prog base 23 #[.int .u64 p, .slice A n c, .int .i64 k] H K := by
  refine privityref08_Points.spec ?_
  unfold privityref08_Points.sh
  have e1 := h.1
  refine privityref08_Points.loop0 (fun r A1 l1 c1 y H' => ∃ j : Nat, y = j ∧ j ≤ k ∧ j ≤ n ∧ r = k - j ∧ l1 = j ∧ Own base H' tPt 2 (.slice A1 j c1) j (pc (vp (pointsP p l j))) ∧ Frz H H' (.slice A1 j c1)) k ⟨0, rfl, Nat.zero_le _, Nat.zero_le _, by omega, rfl, Own.nil _ _ _ _, Frz.nil _⟩ ?_
  rintro r A1 l1 c1 y g1 H1 ⟨j, rfl, hj, hjn, hr, rfl, ho, hf⟩
  unfold privityref08_Points.B0
  have stop : (l1 = k ∨ l1 = n) → K (.slice A1 l1 c1) H1 := fun hs => by
    have e : pointsP p l k = pointsP p l l1 := by
      unfold pointsP
      rcases hs with h | h
      · rw [h]
      · rw [List.take_of_length_le (show l.length ≤ k by omega), List.take_of_length_le (show l.length ≤ l1 by omega)]
    have el : (pointsP p l k).length = l1 := by rw [pointsP_len]; omega
    have := hk A1 c1 H1 hf.ext (by rw [el, e]; exact own_pts ho)
    rwa [el] at this
  split
  · rename_i e
    have e := of_decide_eq_true e
    split
    · rename_i e2
      have e2 := of_decide_eq_true e2
      obtain ⟨a, q1, q2⟩ := (h.ext hf.ext).at c (i := l1) (by omega) e
      rw [Int.toNat_natCast] at q2
      obtain ⟨n1, n2⟩ := getD_nn2 hn l1
      refine ⟨a, q1, _, fp0 a, _, q2.x, _, aq_rem p_ne, a, q1, _, fp1 a, _, q2.y, _, aq_rem p_ne, _, _, aq_pt _ _, ?_⟩
      rw [tmod_V (p := p) n1, tmod_V (p := p) n2]
      refine pt_litB (fun gb hgb => ⟨_, _, _, rfl, ?_⟩)
      have X4 : Ext H1 (upd H1 gb (.cells #[.int .u64 (V (E (l.getD l1 (0, 0)).1 : Fin p)), .int .u64 (V (E (l.getD l1 (0, 0)).2 : Fin p))] tPt)) := Ext.upd hgb _
      refine h_appP (F := H) (f := [(V (E (l.getD l1 (0, 0)).1 : Fin p), V (E (l.getD l1 (0, 0)).2 : Fin p))]) (ho.ext X4) (hf.more X4) rfl (by simp; omega) rd_pt (fun A6 c6 H6 o6 f6 => ?_)
      refine ⟨r - 1, by omega, _, _, _, _, rfl, rfl, l1 + 1, nxt (n := 1000) (by omega) (by decide), by omega, by omega, by omega, by simp, ?_, f6⟩
      rw [pointsP_succ (by omega), vp_snoc]
      exact o6
    · rename_i e2
      have e2 : ¬ ((l1 : Int) < (k : Int)) := fun h => e2 (decide_eq_true h)
      exact stop (.inl (by omega))
  · rename_i e
    have e : ¬ ((l1 : Int) < (n : Int)) := fun h => e (decide_eq_true h)
    exact stop (.inr (by omega))
end
abbrev tAsk : Nat := 25
theorem fa0 (b : Nat) : AQ Try.prog (Instr.fieldAt tAsk (.pointer (some ⟨b, 0, none⟩)) 0) (.pointer (some ⟨b, 0, none⟩)) := by
  have := aq_fld (P := Try.prog) (s := tAsk) (f := 0) (off := 0) (sz := 1) (by kernel_rfl) (by decide) ⟨b, 0, none⟩
  rwa [add0] at this
theorem fa1 (b : Nat) : AQ Try.prog (Instr.fieldAt tAsk (.pointer (some ⟨b, 0, none⟩)) 1) (.pointer (some ⟨b, 1, none⟩)) := by
  have := aq_fld (P := Try.prog) (s := tAsk) (f := 1) (off := 1) (sz := 1) (by kernel_rfl) (by decide) ⟨b, 0, none⟩
  rwa [add0] at this
theorem fa2 (b : Nat) : AQ Try.prog (Instr.fieldAt tAsk (.pointer (some ⟨b, 0, none⟩)) 2) (.pointer (some ⟨b, 2, none⟩)) := by
  have := aq_fld (P := Try.prog) (s := tAsk) (f := 2) (off := 2) (sz := 1) (by kernel_rfl) (by decide) ⟨b, 0, none⟩
  rwa [add0] at this
theorem fa3 (b : Nat) : AQ Try.prog (Instr.fieldAt tAsk (.pointer (some ⟨b, 0, none⟩)) 3) (.pointer (some ⟨b, 3, none⟩)) := by
  have := aq_fld (P := Try.prog) (s := tAsk) (f := 3) (off := 3) (sz := 1) (by kernel_rfl) (by decide) ⟨b, 0, none⟩
  rwa [add0] at this
theorem scPts : scalarB Try.prog tPts = true := by kernel_rfl
/-- What lies in the box b. -/
def AB (H : HH) (b : Nat) (P : Int) (A : Option Addr) (n c : Nat) (d w : Int) : Prop := H b = some (.cells #[.int .u64 P, .slice A n c, .int .i64 d, .int .i64 w] tAsk (0, 0))
section
variable {P d w : Int} {b : Nat}
theorem AB.ext {H' : HH} (h : AB H b P A n c d w) (he : Ext H H') : AB H' b P A n c d w := he _ _ h
theorem AB.p (h : AB H b P A n c d w) : QRun Try.prog (Instr.loadAt 22 (.pointer (some ⟨b, 0, none⟩))) H (.int .u64 P) := q_ld sc22 (by rw [cellH_blk h]; rfl)
theorem AB.pts (h : AB H b P A n c d w) : QRun Try.prog (Instr.loadAt tPts (.pointer (some ⟨b, 1, none⟩))) H (.slice A n c) := q_ld scPts (by rw [cellH_blk h]; rfl)
theorem AB.deg (h : AB H b P A n c d w) : QRun Try.prog (Instr.loadAt 3 (.pointer (some ⟨b, 2, none⟩))) H (.int .i64 d) := q_ld sc3 (by rw [cellH_blk h]; rfl)
theorem AB.wrong (h : AB H b P A n c d w) : QRun Try.prog (Instr.loadAt 3 (.pointer (some ⟨b, 3, none⟩))) H (.int .i64 w) := q_ld sc3 (by rw [cellH_blk h]; rfl)
theorem AB.all (h : AB H b P A n c d w) : QRun Try.prog (Instr.loadAt tAsk (.pointer (some ⟨b, 0, none⟩))) H (.agg #[.int .u64 P, .slice A n c, .int .i64 d, .int .i64 w]) :=
  q_lda (cs := [.int .u64 P, .slice A n c, .int .i64 d, .int .i64 w]) (by kernel_rfl) (by kernel_rfl) (fun j u hu => by
    rw [add0, cellH_blk h, ← Array.getElem?_toList]
    exact hu)
theorem h_abox (hk : ∀ b H', Ext H H' → AB H' b P A n c d w → K (.pointer (some ⟨b, 0, none⟩)) H') : HRun Try.prog base (Instr.box tAsk (.agg #[.int .u64 P, .slice A n c, .int .i64 d, .int .i64 w])) H K :=
  h_box (fun b hb hbase => hk b _ (Ext.upd hb _) (upd_self _ _ _))
theorem h_fitA {l : List (Int × Int)} (h : Pts H A n l) (hn : ∀ x ∈ l, 0 ≤ x.1 ∧ 0 ≤ x.2) (h0 : 0 ≤ P) (hk : ∀ (p : Nat) (_ : NeZero p), Sup p → ∀ A1 c1 H', Ext H H' → Pts H' A1 (pointsP p l 9).length (vp (pointsP p l 9)) → K (.tuple #[.int .u64 p, .slice A1 (pointsP p l 9).length c1]) H') : HCall Try.prog base 7 #[.agg #[.int .u64 P, .slice A n c, .int .i64 d, .int .i64 w]] H K := by
  refine privitylaw08_fit.spec ?_
  unfold privitylaw08_fit.sh
  refine h_abox (fun b H1 X1 ob => ⟨_, rfl, _, fa0 b, _, ob.p, h_fitp h0 (fun p hp => ⟨_, rfl, _, fa1 b, _, _, _, ob.pts, ?_⟩)⟩)
  have hz := hp.ne
  exact h_points (p := p) (k := 9) (h.ext X1) hn (by decide) (fun A1 c1 H2 X2 P2 => ⟨_, _, _, rfl, hk p hz hp A1 c1 H2 (X1.trans X2) P2⟩)
end
abbrev pts31 : List (Pt 31) := [(1, 2), (2, 3), (3, 9), (4, 5)]
theorem sup31 : Sup 31 := .inl rfl
theorem f31 : GoodP ([1, 1] : List (Fin 31)) pts31 1 1 := ⟨by decide, by decide +kernel⟩
theorem nd31 : (pts31.map Prod.fst).Nodup := by decide
theorem is31 {f : List (Fin 31)} {w : Nat} (ht : Tr f) (hf : GoodP f pts31 1 w) (hw : w ≤ 1) : f = [1, 1] := by
  have h1 : GoodP f pts31 1 1 := ⟨hf.len, by have := hf.few; omega⟩
  exact ht.eq (.inr (by decide)) (Go.Proofs.YtbogcgkeabkliacNum.Good.unique sup31.pr h1 f31 nd31 (by decide))
theorem h_awake (hk : ∀ H', Ext H H' → K (.bool true) H') : HCall Try.prog base 10 #[] H K := by
  refine privitylaw08_awake.spec ?_
  unfold privitylaw08_awake.sh
  have hfill : Instr.fill (fun i => some (i * 2, 2)) (madeCells (Value.agg #[.int .u64 0, .int .u64 0]).cells (4 * 2)) [(0, .agg #[.int .u64 1, .int .u64 2]), (1, .agg #[.int .u64 2, .int .u64 3]), (2, .agg #[.int .u64 3, .int .u64 9]), (3, .agg #[.int .u64 4, .int .u64 5])] = some #[.int .u64 1, .int .u64 2, .int .u64 2, .int .u64 3, .int .u64 3, .int .u64 9, .int .u64 4, .int .u64 5] := by kernel_rfl
  refine ⟨_, _, aq_pt _ _, _, _, aq_pt _ _, _, _, aq_pt _ _, _, _, aq_pt _ _, ?_⟩
  refine h_lit (sz := 2) (z := .agg #[.int .u64 0, .int .u64 0]) (cs := #[.int .u64 1, .int .u64 2, .int .u64 2, .int .u64 3, .int .u64 3, .int .u64 9, .int .u64 4, .int .u64 5]) unPts (by kernel_rfl) (by decide) hfill (by decide) (fun gb hgb hbase => ⟨_, _, _, rfl, ?_⟩)
  have hP : Pts (upd H gb (.cells #[.int .u64 1, .int .u64 2, .int .u64 2, .int .u64 3, .int .u64 3, .int .u64 9, .int .u64 4, .int .u64 5] tPt)) (some ⟨gb, 0, none⟩) 4 (vp pts31) := by
    have e : pc (vp pts31) = [.int .u64 1, .int .u64 2, .int .u64 2, .int .u64 3, .int .u64 3, .int .u64 9, .int .u64 4, .int .u64 5] := by rfl
    refine ⟨rfl, .inr ⟨_, rfl, fun i w hw => ?_⟩⟩
    rw [add0, cellH_blk (upd_self _ _ _)]
    rw [e] at hw
    rw [← Array.getElem?_toList]
    simpa using hw
  have X1 : Ext H (upd H gb (.cells #[.int .u64 1, .int .u64 2, .int .u64 2, .int .u64 3, .int .u64 3, .int .u64 9, .int .u64 4, .int .u64 5] tPt)) := Ext.upd hgb _
  generalize upd H gb (.cells #[.int .u64 1, .int .u64 2, .int .u64 2, .int .u64 3, .int .u64 3, .int .u64 9, .int .u64 4, .int .u64 5] tPt) = H1 at hP X1 ⊢
  have m1 : mayP (vp pts31) 1 1 := by decide +kernel
  have m2 : ¬ mayP (vp pts31) 1 2 := by decide +kernel
  have m0 : mayP (vp pts31) 1 0 := by decide +kernel
  have pe : (31 : Int) = ((31 : Nat) : Int) := rfl
  refine h_decode (p := 31) (deg := 1) (wrong := 1) sup31 hP (by decide) (fun h => absurd m1 h) (fun _ h => absurd ⟨_, f31⟩ h) (fun _ f ht hf A1 c1 A2 c2 H2 X2 R1 R2 _ => ⟨_, _, _, _, _, _, _, rfl, ?_⟩)
  obtain rfl := is31 ht hf (Nat.le_refl 1)
  have ei : errIdx ([1, 1] : List (Fin 31)) pts31 pts31.length = [2] := by decide +kernel
  rw [ei] at R2 ⊢
  refine h_decode (p := 31) (deg := 1) (wrong := 2) sup31 (hP.ext X2) (by decide) (fun _ H3 X3 => ⟨_, _, _, _, _, _, _, rfl, ?_⟩) (fun h => absurd h m2) (fun h => absurd h m2)
  refine h_decode (p := 31) (deg := 1) (wrong := 0) sup31 ((hP.ext X2).ext X3) (by decide) (fun h => absurd m0 h) (fun _ _ H4 X4 => ⟨_, _, _, _, _, _, _, rfl, ?_⟩) (fun _ g ht hg => ?_)
  rotate_left
  · obtain rfl := is31 ht hg (by decide)
    exact absurd hg.few (by decide +kernel)
  rw [if_pos (by decide)]
  have X14 := X3.trans X4
  have hfill2 : Instr.fill (fun i => some (i * 1, 1)) (madeCells (Value.int .u64 0).cells (2 * 1)) [(0, .int .u64 1), (1, .int .u64 1)] = some #[.int .u64 1, .int .u64 1] := by kernel_rfl
  refine h_lit (sz := 1) (z := .int .u64 0) (cs := #[.int .u64 1, .int .u64 1]) un32 (by kernel_rfl) (by decide) hfill2 (by decide) (fun gb2 hgb2 hbase2 => ⟨_, _, _, rfl, ?_⟩)
  have ho := Own.lit (H := H4) (T := 22) (sz := 1) hbase2 #[.int .u64 1, .int .u64 1] 2 (by decide) (by simp)
  have X5 : Ext H4 (upd H4 gb2 (.cells #[.int .u64 1, .int .u64 1] 22)) := Ext.upd hgb2 _
  have hr : Row (upd H4 gb2 (.cells #[.int .u64 1, .int .u64 1] 22)) (some ⟨gb2, 0, none⟩) 2 (vs ([1, 1] : List (Fin 31))) := ho.row
  refine h_equal (R1.ext (X14.trans X5)) hr (by decide) ⟨_, rfl, ?_⟩
  rw [if_pos (by decide), if_pos (by decide)]
  obtain ⟨a, q1, q2⟩ := (R2.ext (X14.trans X5)).at c2 (j := 0) (by decide)
  refine ⟨a, q1, _, q2, ?_⟩
  rw [if_pos (by decide), if_pos (by decide), if_pos (by decide)]
  have X25 := X2.trans (X14.trans X5)
  refine h_errpos (p := 31) sup31 (R1.ext (X14.trans X5)) (hP.ext X25) (by decide) (by decide) (fun A6 c6 H6 X6 R6 => ⟨_, _, _, rfl, ?_⟩)
  rw [ei]
  exact hk H6 (X1.trans (X25.trans X6))
end
end Go.Proofs.Ytbogcgkeabkliac.HL
end
section
set_option linter.unusedVariables false
set_option linter.unusedSimpArgs false
set_option linter.unusedSectionVars false
set_option maxHeartbeats 2000000
namespace Go.Proofs.Ytbogcgkeabkliac.HL
open Go Go.Proofs.YtbogcgkeabkliacNum Go.Proofs.Ytbogcgkeabkliac.FEv
theorem good_one {p : Nat} [NeZero p] (hp : Sup p) {l : List (Pt p)} {deg wrong : Int} (hm : mayP (vp l) deg wrong) {f g : List (Fin p)} (hf : Tr f) (hg : Tr g) (h1 : GoodP f l deg.toNat wrong.toNat) (h2 : GoodP g l deg.toNat wrong.toNat) : f = g := by
  obtain ⟨h0, hnd, d', w', e1, e2, hn⟩ := mayP_vp hm
  exact hf.eq hg (Go.Proofs.YtbogcgkeabkliacNum.Good.unique hp.pr h1 h2 hnd (by omega))
theorem errIdx_le {p : Nat} [NeZero p] (f : List (Fin p)) (l : List (Pt p)) : (errIdx f l l.length).length ≤ l.length := by
  unfold errIdx
  have := List.length_filter_le (fun i => !hits f (l.getD i (0, 0))) (List.range l.length)
  rwa [List.length_range] at this
section
end
end Go.Proofs.Ytbogcgkeabkliac.HL
end
section
set_option linter.unusedVariables false
namespace Go.Proofs.Ytbogcgkeabkliac.HL
open Go
abbrev VI (k : IntKind) : Int → Prop := fun n => (Lit.int k n).wf = true
abbrev WR : List Int → Prop := fun l => l.length ≤ maxLen ∧ ∀ a ∈ l, VI .u64 a
abbrev WP : Int × Int → Prop := fun q => VI .u64 q.1 ∧ VI .u64 q.2
abbrev WPs : List (Int × Int) → Prop := fun l => l.length ≤ maxLen ∧ ∀ a ∈ l, WP a
theorem VI.nn {n : Int} (h : VI .u64 n) : 0 ≤ n := by
  simp [VI, Lit.wf] at h
  have e : IntKind.u64.min = 0 := by decide
  omega
theorem WR.nn {l : List Int} (h : WR l) : ∀ x ∈ l, 0 ≤ x := fun x hx => (h.2 x hx).nn
theorem WPs.nn {l : List (Int × Int)} (h : WPs l) : ∀ x ∈ l, 0 ≤ x.1 ∧ 0 ≤ x.2 := fun x hx => ⟨(h.2 x hx).1.nn, (h.2 x hx).2.nn⟩
abbrev rRow : Rel (List Int) := rSlice 1 (rInt .u64)
abbrev rPt : Rel (Int × Int) := rPair (rInt .u64) (rInt .u64)
abbrev rPts : Rel (List (Int × Int)) := rSlice 2 rPt
theorem un22 : Try.prog.underlying 22 = some (.int .u64) := by kernel_rfl
theorem un3 : Try.prog.underlying 3 = some (.int .i64) := by kernel_rfl
theorem opn22 : Opn Try.prog (rInt .u64) 22 (VI .u64) := Opn.int un22
theorem opn3 : Opn Try.prog (rInt .i64) 3 (VI .i64) := Opn.int un3
theorem opn32 : Opn Try.prog rRow 30 WR := Opn.slice un32 (by kernel_rfl) opn22
theorem opnPt : Opn Try.prog rPt tPt WP := by
  intro D enc W fuel cs x h
  obtain ⟨xs, n, _, _, hl, hx, hf⟩ := DataW.trod_struct Try.underlying29 h
  obtain ⟨a0, k0, w0⟩ := fieldAt hx hf 0 _ rfl rfl opn22 0 1 rfl (by kernel_rfl)
  obtain ⟨a1, k1, w1⟩ := fieldAt hx hf 1 _ rfl rfl opn22 1 1 rfl (by kernel_rfl)
  exact ⟨(a0, a1), pairR (off := 0) (s := 1) k0 (lastR (off := 1) (s := 1) (hl.trans (by kernel_rfl)) k1), w0, w1⟩
theorem opnPts : Opn Try.prog rPts tPts WPs := Opn.slice unPts (by kernel_rfl) opnPt
theorem row_of {H : HH} {l : List Int} {cs : List Value} (h : rRow H l cs) : ∃ A c, cs = [.slice A l.length c] ∧ Row H A l.length l := by
  obtain ⟨A, c, rfl, _, h⟩ := h
  refine ⟨A, c, rfl, rfl, ?_⟩
  rcases h with rfl | ⟨ad, rfl, h⟩
  · exact .inl rfl
  · refine .inr ⟨ad, rfl, fun i u hu => ?_⟩
    unfold us at hu
    rw [List.getElem?_map] at hu
    obtain ⟨x, hx, rfl⟩ := Option.map_eq_some_iff.1 hu
    obtain ⟨cs', _, h2, h3⟩ := h i x hx
    have := h3 0 (.int .u64 x) (by rw [show cs' = _ from h2]; rfl)
    rwa [Nat.mul_one, Nat.add_zero] at this
theorem pc_back : ∀ (l : List (Int × Int)) (i : Nat) (u : Value), (pc l)[i]? = some u → ∃ (j k : Nat) (q : Int × Int), i = j * 2 + k ∧ l[j]? = some q ∧ [Value.int .u64 q.1, .int .u64 q.2][k]? = some u
  | [], i, u, h => by simp [pc] at h
  | q :: l, 0, u, h => ⟨0, 0, q, rfl, rfl, h⟩
  | q :: l, 1, u, h => ⟨0, 1, q, rfl, rfl, h⟩
  | q :: l, i + 2, u, h => by
    obtain ⟨j, k, r, e, h1, h2⟩ := pc_back l i u h
    exact ⟨j + 1, k, r, by omega, h1, h2⟩
theorem pts_of {H : HH} {l : List (Int × Int)} {cs : List Value} (h : rPts H l cs) : ∃ A c, cs = [.slice A l.length c] ∧ Pts H A l.length l := by
  obtain ⟨A, c, rfl, _, h⟩ := h
  refine ⟨A, c, rfl, rfl, ?_⟩
  rcases h with rfl | ⟨ad, rfl, h⟩
  · exact .inl rfl
  · refine .inr ⟨ad, rfl, fun i u hu => ?_⟩
    obtain ⟨j, k, q, rfl, h1, h2⟩ := pc_back l i u hu
    obtain ⟨cs', _, ⟨a, b, e, e1, e2⟩, h3⟩ := h j q h1
    refine h3 k u ?_
    rw [e, show a = _ from e1, show b = _ from e2]
    exact h2
abbrev rAsk : Rel (Int × List (Int × Int) × Int × Int) := rPair (rInt .u64) (rPair rPts (rPair (rInt .i64) (rInt .i64)))
abbrev WA : Int × List (Int × Int) × Int × Int → Prop := fun x => VI .u64 x.1 ∧ WPs x.2.1
theorem opnAsk : Opn Try.prog rAsk tAsk WA := by
  intro D enc W fuel cs x h
  obtain ⟨xs, n, _, _, hl, hx, hf⟩ := DataW.trod_struct Try.underlying25 h
  obtain ⟨a0, k0, w0⟩ := fieldAt hx hf 0 _ rfl rfl opn22 0 1 rfl (by kernel_rfl)
  obtain ⟨a1, k1, w1⟩ := fieldAt hx hf 1 _ rfl rfl opnPts 1 1 rfl (by kernel_rfl)
  obtain ⟨a2, k2, w2⟩ := fieldAt hx hf 2 _ rfl rfl opn3 2 1 rfl (by kernel_rfl)
  obtain ⟨a3, k3, w3⟩ := fieldAt hx hf 3 _ rfl rfl opn3 3 1 rfl (by kernel_rfl)
  exact ⟨(a0, a1, a2, a3), pairR (off := 0) (s := 1) k0 (pairR (off := 1) (s := 1) k1 (pairR (off := 2) (s := 1) k2 (lastR (off := 3) (s := 1) (hl.trans (by kernel_rfl)) k3))), w0, w1⟩
theorem ask_of {H : HH} {x : Int × List (Int × Int) × Int × Int} {cs : List Value} (h : rAsk H x cs) : ∃ A1 c1, cs = [.int .u64 x.1, .slice A1 x.2.1.length c1, .int .i64 x.2.2.1, .int .i64 x.2.2.2] ∧ Pts H A1 x.2.1.length x.2.1 := by
  obtain ⟨a, b, rfl, e0, b1, b2, rfl, h1, b3, b4, rfl, e2, e3⟩ := h
  have e0 : a = _ := e0
  have e2 : b3 = _ := e2
  have e3 : b4 = _ := e3
  obtain ⟨A1, c1, rfl, m1⟩ := pts_of h1
  subst e0 e2 e3
  exact ⟨A1, c1, rfl, m1⟩
end Go.Proofs.Ytbogcgkeabkliac.HL
end
section
set_option linter.unusedVariables false
set_option linter.unusedSimpArgs false
set_option linter.unusedSectionVars false
set_option maxHeartbeats 2000000
namespace Go.Proofs.Ytbogcgkeabkliac.HL
open Go Go.Proofs.YtbogcgkeabkliacNum Go.Proofs.Ytbogcgkeabkliac.FEv
section
end
section
variable {p : Nat} [NeZero p]
structure Mk (f : List (Fin p)) (k : Nat) (l : List (Pt p)) (bs : List Bool) : Prop where
  ll : l.length = k
  lb : bs.length = k
  x : l.map Prod.fst = (List.range k).map fun i : Nat => E ((i : Int) + 1)
  y : ∀ i, i < k → hits f (l.getD i (0, 0)) = !bs.getD i false
theorem Mk.step {f : List (Fin p)} {k : Nat} {l : List (Pt p)} {bs : List Bool} (h : Mk f k l bs) {i : Nat} (hi : i < k) (hb : bs.getD i false = false) {d : Fin p} (hd : d ≠ 0) : Mk f k (l.set i ((l.getD i (0, 0)).1, (l.getD i (0, 0)).2 + d)) (bs.set i true) := by
  obtain ⟨h1, h2, h3, h4⟩ := h
  refine ⟨by simp [h1], by simp [h2], ?_, fun j hj => ?_⟩
  · rw [List.map_set, ← h3]
    apply List.ext_getElem?
    intro j
    rw [List.getElem?_set]
    split
    · rename_i e
      subst e
      have : i < l.length := by omega
      simp [this]
    · rfl
  · by_cases e : j = i
    · subst e
      have h5 := h4 j hj
      rw [hb] at h5
      have e1 : (l.set j ((l.getD j (0, 0)).1, (l.getD j (0, 0)).2 + d)).getD j (0, 0) = ((l.getD j (0, 0)).1, (l.getD j (0, 0)).2 + d) := by simp [List.getD_eq_getElem?_getD, List.getElem?_set, h1, hj]
      have e2 : (bs.set j true).getD j false = true := by simp [List.getD_eq_getElem?_getD, List.getElem?_set, h2, hj]
      rw [e1, e2]
      have h6 : peval f (l.getD j (0, 0)).1 = (l.getD j (0, 0)).2 := by
        have := h5
        unfold hits Go.Proofs.YtbogcgkeabkliacNum.fits at this
        simpa using this
      unfold hits Go.Proofs.YtbogcgkeabkliacNum.fits
      show decide (peval f (l.getD j (0, 0)).1 = (l.getD j (0, 0)).2 + d) = false
      rw [h6]
      exact decide_eq_false (fun e => hd (by grind))
    · have e1 : (l.set i ((l.getD i (0, 0)).1, (l.getD i (0, 0)).2 + d)).getD j (0, 0) = l.getD j (0, 0) := by rw [List.getD_eq_getElem?_getD, List.getD_eq_getElem?_getD (l := l) (i := j), List.getElem?_set, if_neg (fun h => e h.symm)]
      have e2 : (bs.set i true).getD j false = bs.getD j false := by rw [List.getD_eq_getElem?_getD, List.getD_eq_getElem?_getD (l := bs) (i := j), List.getElem?_set, if_neg (fun h => e h.symm)]
      rw [e1, e2]
      exact h4 j hj
theorem E_small (hp : Sup p) {i : Nat} (hi : i < 30) : V (E ((i : Int) + 1) : Fin p) = (i : Int) + 1 := by
  have := hp.le
  exact V_E_lt (by omega) (by omega)
theorem Mk.fst (hp : Sup p) {f : List (Fin p)} {k : Nat} {l : List (Pt p)} {bs : List Bool} (h : Mk f k l bs) (hk : k ≤ 13) : ((vp l).map (·.1)).Nodup := by
  have e : (vp l).map (·.1) = (List.range k).map fun i : Nat => (i : Int) + 1 := by
    have : (vp l).map (·.1) = (l.map Prod.fst).map V := by simp [vp]
    rw [this, h.x, List.map_map]
    apply List.map_congr_left
    intro i hi
    exact E_small hp (by have := List.mem_range.1 hi; omega)
  rw [e]
  exact List.pairwise_map.2 (List.nodup_range.imp (fun h => by omega))
theorem Mk.may (hp : Sup p) {f : List (Fin p)} {k : Nat} {l : List (Pt p)} {bs : List Bool} (h : Mk f k l bs) (hk : k ≤ 13) {w : Nat} (hw : 3 + 1 + 2 * w ≤ k) : mayP (vp l) 3 w := by
  refine ⟨⟨by omega, by omega, ?_⟩, h.fst hp hk⟩
  rw [vp_length, h.ll]
  omega
end
end Go.Proofs.Ytbogcgkeabkliac.HL
end
section
set_option linter.unusedVariables false
set_option linter.unusedSimpArgs false
set_option linter.unusedSectionVars false
set_option maxHeartbeats 4000000
namespace Go.Proofs.Ytbogcgkeabkliac.HL
open Go Go.Proofs.YtbogcgkeabkliacNum Go.Proofs.Ytbogcgkeabkliac.FEv
abbrev tMade : Nat := 46
theorem scU8 : scalarB Try.prog 5 = true := by kernel_rfl
section
variable {base : Nat} {H : HH} {K : Value → HH → Prop} {P N : Int} {A A' : Option Addr} {n n' c c' b : Nat}
/-- What lies in the box b. -/
def MB (H : HH) (b : Nat) (P : Int) (A : Option Addr) (n c : Nat) (N : Int) (A' : Option Addr) (n' c' : Nat) : Prop := H b = some (.cells #[.int .u64 P, .slice A n c, .int .u8 N, .slice A' n' c'] tMade (0, 0))
theorem MB.ext {H' : HH} (h : MB H b P A n c N A' n' c') (he : Ext H H') : MB H' b P A n c N A' n' c' := he _ _ h
theorem MB.p (h : MB H b P A n c N A' n' c') : QRun Try.prog (Instr.loadAt 22 (.pointer (some ⟨b, 0, none⟩))) H (.int .u64 P) := q_ld sc22 (by rw [cellH_blk h]; rfl)
theorem MB.f (h : MB H b P A n c N A' n' c') : QRun Try.prog (Instr.loadAt 30 (.pointer (some ⟨b, 1, none⟩))) H (.slice A n c) := q_ld sc32 (by rw [cellH_blk h]; rfl)
theorem MB.many (h : MB H b P A n c N A' n' c') : QRun Try.prog (Instr.loadAt 5 (.pointer (some ⟨b, 2, none⟩))) H (.int .u8 N) := q_ld scU8 (by rw [cellH_blk h]; rfl)
theorem MB.all (h : MB H b P A n c N A' n' c') : QRun Try.prog (Instr.loadAt tMade (.pointer (some ⟨b, 0, none⟩))) H (.agg #[.int .u64 P, .slice A n c, .int .u8 N, .slice A' n' c']) :=
  q_lda (cs := [.int .u64 P, .slice A n c, .int .u8 N, .slice A' n' c']) (by kernel_rfl) (by kernel_rfl) (fun j u hu => by
    rw [add0, cellH_blk h, ← Array.getElem?_toList]
    exact hu)
end
end Go.Proofs.Ytbogcgkeabkliac.HL
end
namespace Go.Proofs.Ytbogcgkeabkliac.HL
end Go.Proofs.Ytbogcgkeabkliac.HL
namespace Go.Proofs.Ytbogcgkeabkliac.HL
end Go.Proofs.Ytbogcgkeabkliac.HL
section
set_option linter.unusedVariables false
set_option linter.unusedSimpArgs false
set_option linter.unusedSectionVars false
namespace Go.Proofs.Ytbogcgkeabkliac.HL
open Go Go.Proofs.YtbogcgkeabkliacNum Go.Proofs.Ytbogcgkeabkliac.FEv
section
variable {p : Nat} [NeZero p]
/-- The points, moved by a polynomial. -/
def movedP (g : List (Fin p)) (l : List (Pt p)) : List (Pt p) := l.map fun q => (q.1, q.2 + peval g q.1)
@[simp] theorem movedP_len (g : List (Fin p)) (l : List (Pt p)) : (movedP g l).length = l.length := by simp [movedP]
theorem fits_moved {f f' g : List (Fin p)} (h : ∀ x, peval f' x = peval f x + peval g x) (q : Pt p) : Go.Proofs.YtbogcgkeabkliacNum.fits f' (q.1, q.2 + peval g q.1) = Go.Proofs.YtbogcgkeabkliacNum.fits f q := by
  unfold Go.Proofs.YtbogcgkeabkliacNum.fits
  show decide (peval f' q.1 = q.2 + peval g q.1) = decide (peval f q.1 = q.2)
  rw [h]
  have : (peval f q.1 + peval g q.1 = q.2 + peval g q.1) ↔ peval f q.1 = q.2 := ⟨fun e => by grind, fun e => by rw [e]⟩
  simp only [this]
theorem errs_moved {f f' g : List (Fin p)} (h : ∀ x, peval f' x = peval f x + peval g x) (l : List (Pt p)) : (errs f' (movedP g l)).length = (errs f l).length := by
  unfold errs movedP
  rw [List.filter_map, List.length_map]
  congr 2
  funext q
  simp only [Function.comp_apply]
  rw [fits_moved h]
theorem errIdx_moved {f f' g : List (Fin p)} (h : ∀ x, peval f' x = peval f x + peval g x) (l : List (Pt p)) : errIdx f' (movedP g l) (movedP g l).length = errIdx f l l.length := by
  unfold errIdx
  rw [movedP_len]
  apply List.filter_congr
  intro i hi
  have hi := List.mem_range.1 hi
  have e1 : (movedP g l).getD i (0, 0) = ((l.getD i (0, 0)).1, (l.getD i (0, 0)).2 + peval g (l.getD i (0, 0)).1) := by simp [movedP, hi]
  rw [e1]
  unfold hits
  rw [fits_moved h]
theorem may_moved {g : List (Fin p)} {l : List (Pt p)} {d w : Int} : mayP (vp (movedP g l)) d w ↔ mayP (vp l) d w := by
  unfold mayP
  have e : (vp (movedP g l)).map (·.1) = (vp l).map (·.1) := by simp [vp, movedP, Function.comp_def]
  rw [e, vp_length, vp_length, movedP_len]
theorem good_moved {f g : List (Fin p)} {l : List (Pt p)} {d w : Nat} (h : GoodP f l d w) (hg : (ptrim g).length ≤ d + 1) : GoodP (padd f (ptrim g)) (movedP g l) d w := by
  have h1 := h.len
  have h2 := h.few
  refine ⟨by have := padd_len f (ptrim g); omega, ?_⟩
  rw [errs_moved (f := f) (fun x => by rw [peval_padd, peval_ptrim])]
  exact h2
theorem good_unmoved {f g : List (Fin p)} {l : List (Pt p)} {d w : Nat} (h : GoodP f (movedP g l) d w) (hg : (ptrim g).length ≤ d + 1) : ∃ f', GoodP f' l d w := by
  have h1 := h.len
  have h2 := h.few
  refine ⟨padd f (pscale (-1) (ptrim g)), by have := padd_len f (pscale (-1) (ptrim g)); have := pscale_len (-1 : Fin p) (ptrim g); omega, ?_⟩
  rw [← errs_moved (f' := f) (g := g) (fun x => by rw [peval_padd, peval_pscale, peval_ptrim]; grind)]
  exact h2
theorem movedP_succ (g : List (Fin p)) {l : List (Pt p)} {j : Nat} (h : j < l.length) : movedP g (l.take (j + 1)) = movedP g (l.take j) ++ [((l.getD j (0, 0)).1, (l.getD j (0, 0)).2 + peval g (l.getD j (0, 0)).1)] := take_succ_map _ h _
end
end Go.Proofs.Ytbogcgkeabkliac.HL
end
section
set_option linter.unusedVariables false
set_option linter.unusedSimpArgs false
set_option linter.unusedSectionVars false
set_option maxHeartbeats 4000000
namespace Go.Proofs.Ytbogcgkeabkliac.HL
open Go Go.Proofs.YtbogcgkeabkliacNum Go.Proofs.Ytbogcgkeabkliac.FEv
section
variable {p : Nat} [NeZero p] {base : Nat} {H : HH} {K : Value → HH → Prop} {A A' : Option Addr} {n n' c c' : Nat}
theorem h_rdegree {f : List (Fin p)} (h : Row H A n (vs f)) (hz : f.length ≤ 1000) (hc : n ≤ c) (hk : K (.int .i64 (((ptrim f).length : Int) - 1)) H) : HCall Try.prog base 13 #[.slice A n c] H K := by
  have hl := ptrim_len f
  have : HCall Try.prog base 13 #[.slice A n c] H (fun v H' => Ext H H' ∧ (fun v (_ : HH) => v = .int .i64 (((ptrim f).length : Int) - 1)) v H) := by
    refine privityref04_Degree.spec ?_
    unfold privityref04_Degree.sh
    exact h_rtrim h hz hc (fun A' c' H' X _ _ => ⟨_, _, _, rfl, X, by rw [dec1 (by omega)]⟩)
  exact (HCall.less (Q := fun v (_ : HH) => v = .int .i64 (((ptrim f).length : Int) - 1)) this).use (fun v H' ⟨e1, e2⟩ => by
    have e2 : v = _ := e2
    rw [e1, e2]; exact hk)
end
section
variable {base : Nat} {H : HH} {P d w N : Int} {A A' : Option Addr} {n n' c c' : Nat}
theorem law_ReedsolomonLinear {l : List (Int × Int)} (h : Pts H A n l) (hn : ∀ x ∈ l, 0 ≤ x.1 ∧ 0 ≤ x.2) (h0 : 0 ≤ P) {l' : List Int} (h' : Row H A' n' l') (hn' : ∀ x ∈ l', 0 ≤ x) : HCall Try.prog base 6 #[.agg #[.int .u64 P, .slice A n c, .int .i64 d, .int .i64 w], .slice A' n' c'] H fun v _ => v = .bool true := by
  refine privitylaw08_ReedsolomonLinear.spec ?_
  unfold privitylaw08_ReedsolomonLinear.sh
  refine h_abox (fun b H1 X1 ob => ⟨_, rfl, _, _, _, _, _, _, ob.all, h_fitA (h.ext X1) hn h0 (fun p hz hp A1 c1 H2 X2 P2 => ⟨_, _, _, _, rfl, ?_⟩)⟩)
  have hl : (pointsP p l 9).length ≤ 9 := by rw [pointsP_len]; omega
  generalize pointsP p l 9 = q at P2 hl
  refine h_words (p := p) (k := 5) ((h'.ext X1).ext X2) hn' (by decide) (fun A3 c3 H3 X3 o3 _ => ⟨_, _, _, rfl, ?_⟩)
  have hw : (wordsP p l' 5).length ≤ 5 := by rw [wordsP_len]; omega
  generalize wordsP p l' 5 = f at o3 hw
  have ob3 := (ob.ext X2).ext X3
  have P3 := P2.ext X3
  refine ⟨_, h_rdegree o3.row (by omega) o3.le ⟨rfl, rfl⟩, _, fa2 b, _, ob3.deg, ?_⟩
  split
  · exact h_awake (fun H4 X4 => ⟨_, rfl, rfl⟩)
  rename_i e
  have hdg : ¬ (((ptrim f).length : Int) - 1 > d) := fun h => e (decide_eq_true h)
  refine privitylaw08_ReedsolomonLinear.loop0 (fun r A4 l4 c4 y H' => ∃ j : Nat, y = j ∧ j ≤ q.length ∧ r = q.length - j ∧ l4 = j ∧ Own base H' tPt 2 (.slice A4 j c4) j (pc (vp (movedP f (q.take j)))) ∧ Frz H3 H' (.slice A4 j c4)) q.length ⟨0, rfl, Nat.zero_le _, by omega, rfl, Own.nil _ _ _ _, Frz.nil _⟩ ?_
  rintro r A4 l4 c4 y g H4 ⟨j, rfl, hj, hr, rfl, oP, fP⟩
  unfold privitylaw08_ReedsolomonLinear.B0
  split
  · rename_i e
    have e := of_decide_eq_true e
    obtain ⟨a, q1, q2⟩ := (P3.ext fP.ext).at c1 (i := l4) (by omega) e
    rw [Int.toNat_natCast, vp_get] at q2
    refine ⟨a, q1, _, fp0 a, _, q2.x, a, q1, _, fp1 a, _, q2.y, a, q1, _, fp0 a, _, q2.x, _, h_reval hp (o3.row.ext fP.ext) (by omega) _ ⟨rfl, rfl⟩, _, h_radd hp _ _ ⟨rfl, rfl⟩, _, _, aq_pt _ _, pt_litB (fun gb hgb => ⟨_, _, _, rfl, ?_⟩)⟩
    generalize hv : ((q.getD l4 (0, 0)).1, (q.getD l4 (0, 0)).2 + peval f (q.getD l4 (0, 0)).1) = v
    have ev1 : (q.getD l4 (0, 0)).1 = v.1 := by rw [← hv]
    have ev2 : (q.getD l4 (0, 0)).2 + peval f (q.getD l4 (0, 0)).1 = v.2 := by rw [← hv]
    rw [ev2, ev1]
    have X4 : Ext H4 (upd H4 gb (.cells #[.int .u64 (V v.1), .int .u64 (V v.2)] tPt)) := Ext.upd hgb _
    refine h_appP (F := H3) (f := [(V v.1, V v.2)]) (oP.ext X4) (fP.more X4) rfl (by simp; omega) rd_pt (fun A6 c6 H6 o6 f6 => ?_)
    refine ⟨r - 1, by omega, _, _, _, _, rfl, rfl, l4 + 1, nxt (n := 1000) (by omega) (by decide), by omega, by omega, by simp, ?_, f6⟩
    rw [movedP_succ f (by omega), hv, vp_snoc]
    exact o6
  rename_i e
  have e : ¬ ((l4 : Int) < (q.length : Int)) := fun h => e (decide_eq_true h)
  obtain rfl : l4 = q.length := by omega
  rw [List.take_length] at oP
  have PM := own_pts oP
  have hml := movedP_len f q
  have ob4 := ob3.ext fP.ext
  have P4 := P3.ext fP.ext
  have rF := o3.row.ext fP.ext
  refine ⟨_, fa2 b, _, ob4.deg, _, fa3 b, _, ob4.wrong, ?_⟩
  refine h_decode hp P4 (by omega) (fun hm H5 X5 => ?_) (fun hm hno H5 X5 => ?_) (fun hm g ht hg A5 c5 A6 c6 H5 X5 R5 R6 hc5 => ?_)
  all_goals
    have ob5 := ob4.ext X5
    refine ⟨_, _, _, _, _, _, _, rfl, _, fa2 b, _, ob5.deg, _, fa3 b, _, ob5.wrong, ?_⟩
  · refine h_decode hp (PM.ext X5) (by omega) (fun _ H6 X6 => ⟨_, _, _, _, _, _, _, rfl, ?_⟩) (fun h => absurd (may_moved.1 h) hm) (fun h => absurd (may_moved.1 h) hm)
    rw [if_pos (by decide)]
    refine h_places RowI.nil RowI.nil (by decide) ⟨_, rfl, ?_⟩
    rw [if_neg (by decide)]
    refine h_awake (fun H7 X7 => ⟨_, rfl, ?_⟩)
    rw [if_pos rfl, if_neg (by decide)]
  · obtain ⟨_, _, d', w', e1, e2, hn'⟩ := mayP_vp hm
    refine h_decode hp (PM.ext X5) (by omega) (fun h => absurd (may_moved.2 hm) h) (fun _ _ H6 X6 => ⟨_, _, _, _, _, _, _, rfl, ?_⟩) (fun _ g _ hg => absurd (good_unmoved hg (by omega)) hno)
    rw [if_pos (by decide)]
    refine h_places RowI.nil RowI.nil (by decide) ⟨_, rfl, ?_⟩
    rw [if_neg (by decide)]
    refine h_awake (fun H7 X7 => ⟨_, rfl, ?_⟩)
    rw [if_pos rfl, if_neg (by decide)]
  · obtain ⟨_, _, d', w', e1, e2, hn'⟩ := mayP_vp hm
    have hdl : (ptrim f).length ≤ d.toNat + 1 := by omega
    have hgm := good_moved (g := f) hg hdl
    refine h_decode hp (PM.ext X5) (by omega) (fun h => absurd (may_moved.2 hm) h) (fun _ h => absurd ⟨_, hgm⟩ h) (fun _ g2 ht2 hg2 A7 c7 A8 c8 H6 X6 R7 R8 hc7 => ⟨_, _, _, _, _, _, _, rfl, ?_⟩)
    obtain rfl := good_one hp (may_moved.2 hm) ht2 (tr_padd _ _) hg2 hgm
    have hgl := hg.len
    have hpl := padd_len g (ptrim f)
    rw [if_pos (by decide)]
    have hle := errIdx_le g q
    have heq : errIdx (padd g (ptrim f)) (movedP f q) (movedP f q).length = errIdx g q q.length := errIdx_moved (fun x => by rw [peval_padd, peval_ptrim]) q
    rw [heq] at R8 ⊢
    refine h_places (R6.ext X6) R8 (by unfold maxLen; omega) ⟨_, rfl, ?_⟩
    rw [if_neg (by simp)]
    refine h_awake (fun H7 X7 => ⟨_, rfl, ?_⟩)
    rw [if_pos rfl, if_pos (by decide)]
    have X57 := X6.trans X7
    have hpl2 := padd_len g f
    refine h_padd hp (R5.ext X57) (rF.ext (X5.trans X57)) (by omega) (by omega) (fun A9 c9 H9 X9 o9 _ => ⟨_, _, _, rfl, ?_⟩)
    refine h_same2 o9.row ((R7.ext X7).ext X9) (by omega) (by omega) o9.le hc7 (fun H10 X10 => ⟨_, rfl, ?_⟩)
    have : padd g f = padd g (ptrim f) := (tr_padd _ _).eq (tr_padd _ _) (fun i => by rw [cf_padd, cf_padd, cf_ptrim])
    rw [this]
    simp
end
end Go.Proofs.Ytbogcgkeabkliac.HL
end

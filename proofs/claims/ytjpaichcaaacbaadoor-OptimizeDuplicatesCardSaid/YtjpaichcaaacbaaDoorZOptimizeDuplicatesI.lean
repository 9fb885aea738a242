/- Part I of: The statement OptimizeDuplicates: the law answers true whatever its arguments; no condition. -/
import Derived.Test.YtjpaichcaaacbaaDoorZOptimizeDuplicatesH
import Derived.Laws.StructEq
import Derived.Laws.Tables
section
set_option linter.unusedVariables false
set_option linter.unusedSimpArgs false
set_option linter.unusedSectionVars false
namespace Go.Proofs.YtjpaichcaaacbaaDoor.HL
open Go Go.Proofs.YtjpaichcaaacbaaDoorNum Go.Proofs.YtjpaichcaaacbaaDoor.FEv
section
variable {P : Program} {base : Nat} {H : HH}
theorem h_sta {t b T : Nat} {old : Array Value} {vs : List Value} {K : Unit → HH → Prop} (hz : (P.info? t).map (·.size) = some vs.length) (h1 : vs.all (·.oneCell') = true) (hb : H b = some (.cells old T (0, 0))) (hbase : base ≤ b) (ho : old.size = vs.length) (h : K () (upd H b (.cells vs.toArray T (0, 0)))) : HRun P base (Instr.storeAt t (.pointer (some ⟨b, 0, none⟩)) (.agg vs.toArray)) H K := by
  refine h_do (cs' := vs.toArray) hb hbase (by simp [ho]) (fun W hs => ⟨W.setRow b vs.toArray, ?_, rfl, rfl, rfl, ?_, ?_, ?_⟩) h
  · have := run_storeVar_row (P := P) W b T t old vs.toArray (hs b _ hb) (by simpa using hz) (by simpa using ho) (by simpa using h1)
    simp [Instr.storeAt, Instr.sureAddr, this]
  · simp [World.setRow]
  · intro k hk
    simp only [World.setRow, Array.getElem?_modify]
    rw [if_neg (fun e => hk e.symm)]
  · exact setRow_heap W b old vs.toArray T (0, 0) (hs b _ hb)
theorem h_var {t : Nat} {old z : Value} {vs : List Value} (hz0 : (P.info? t).bind (·.zero) = some z) (hzc : z.cells.size = vs.length) (hz : (P.info? t).map (·.size) = some vs.length) (h1 : vs.all (·.oneCell') = true) {C : Addr → HH → Prop}
    (hk : ∀ b H', Ext H H' → base ≤ b → H b = none → H' b = some (.cells vs.toArray t (0, 0)) → C ⟨b, 0, none⟩ H') :
    HRun P base (Instr.alloc t true old) H fun v H1 => ∃ a : Addr, v = .pointer (some a) ∧ HRun P base (Instr.storeAt t (.pointer (some a)) (.agg vs.toArray)) H1 fun _ H2 => C a H2 :=
  h_alloc hz0 (fun b hb hbase => ⟨_, rfl, h_sta hz h1 (upd_self _ _ _) hbase hzc (hk b _ (fun k o hk => by
    have : k ≠ b := fun e => by rw [e, hb] at hk; cases hk
    rw [upd_ne _ this, upd_ne _ this]; exact hk) hbase hb (upd_self _ _ _))⟩)
end
def PtAt (H : HH) (a : Addr) (q : Int × Int) : Prop := cellH H (a.add 0) = some (.int .u64 q.1) ∧ cellH H (a.add 1) = some (.int .u64 q.2)
section
variable {base : Nat} {H : HH} {a : Addr} {q : Int × Int}
theorem PtAt.ext {H' : HH} (h : PtAt H a q) (he : Ext H H') : PtAt H' a q := ⟨cellH_ext he h.1, cellH_ext he h.2⟩
theorem PtAt.x (h : PtAt H a q) : QRun Tryd.prog (Instr.loadAt 22 (.pointer (some (a.add 0)))) H (.int .u64 q.1) := q_ld sc22 h.1
theorem PtAt.y (h : PtAt H a q) : QRun Tryd.prog (Instr.loadAt 22 (.pointer (some (a.add 1)))) H (.int .u64 q.2) := q_ld sc22 h.2
end
def pc (l : List (Int × Int)) : List Value := l.flatMap fun q => [.int .u64 q.1, .int .u64 q.2]
def Pts (H : HH) (A : Option Addr) (n : Nat) (l : List (Int × Int)) : Prop := n = l.length ∧ Rd H A (pc l)
section
variable {base : Nat} {H : HH} {A : Option Addr} {n : Nat} {l : List (Int × Int)} {i : Int}
theorem Pts.ext {H' : HH} (h : Pts H A n l) (he : Ext H H') : Pts H' A n l := ⟨h.1, h.2.ext he⟩
theorem Pts.nil : Pts H none 0 [] := ⟨rfl, .inl rfl⟩
theorem addr_add' (a : Addr) (m n : Nat) : (a.add m).add n = a.add (m + n) := by
  unfold Addr.add
  by_cases hm : m = 0 <;> by_cases hn : n = 0 <;> simp_all [Nat.add_assoc]
end
section
end
def RowI (H : HH) (A : Option Addr) (n : Nat) (l : List Nat) : Prop := n = l.length ∧ Rd H A (ns l)
theorem RowI.ext {H H' : HH} {A : Option Addr} {n : Nat} {l : List Nat} (h : RowI H A n l) (he : Ext H H') : RowI H' A n l := ⟨h.1, h.2.ext he⟩
theorem RowI.nil {H : HH} : RowI H none 0 [] := ⟨rfl, .inl rfl⟩
theorem RowI.at {H : HH} {A : Option Addr} {n : Nat} {l : List Nat} (h : RowI H A n l) (c : Nat) {j : Nat} (hj : j < n) : ∃ a, AQ Tryd.prog (Instr.indexAt 24 (.slice A n c) (.int .i64 j)) (.pointer (some a)) ∧ QRun Tryd.prog (Instr.loadAt 3 (.pointer (some a))) H (.int .i64 ((l.getD j 0 : Nat) : Int)) := by
  obtain ⟨e, h⟩ := h
  subst e
  exact Piv.at h c hj
end Go.Proofs.YtjpaichcaaacbaaDoor.HL
end
section
set_option linter.unusedVariables false
set_option linter.unusedSimpArgs false
set_option linter.unusedSectionVars false
set_option maxHeartbeats 1000000
namespace Go.Proofs.YtjpaichcaaacbaaDoor.HL
open Go Go.Proofs.YtjpaichcaaacbaaDoorNum Go.Proofs.YtjpaichcaaacbaaDoor.FEv
theorem Rd.take {H : HH} {A : Option Addr} {xs : List Value} (h : Rd H A xs) (k : Nat) : Rd H A (xs.take k) := by
  rcases h with e | ⟨ad, e, hc⟩
  · exact .inl (by rw [e]; simp)
  · exact .inr ⟨ad, e, fun i u hu => hc i u (by
      rw [List.getElem?_take] at hu
      split at hu
      · exact hu
      · cases hu)⟩
theorem w64 {x : Int} (h0 : -9223372036854775808 ≤ x) (h1 : x < 9223372036854775808) : IntKind.i64.wrap x = x := by
  unfold IntKind.wrap
  simp [IntKind.bits, IntKind.signed]
  omega
section
end
end Go.Proofs.YtjpaichcaaacbaaDoor.HL
end
section
set_option linter.unusedVariables false
set_option linter.unusedSimpArgs false
set_option linter.unusedSectionVars false
set_option maxHeartbeats 2000000
namespace Go.Proofs.YtjpaichcaaacbaaDoor.HL
open Go Go.Proofs.YtjpaichcaaacbaaDoorNum Go.Proofs.YtjpaichcaaacbaaDoor.FEv
structure Form where
  w : ByteArray
  kind : Int
  fr : Bool
  k : Bool
  a : Bool
  b : Bool
  bit : Bool
def fv (f : Form) : List Value := [.string f.w, .int .i64 f.kind, .bool f.fr, .bool f.k, .bool f.a, .bool f.b, .bool f.bit]
abbrev formL : List Form := [⟨⟨#[105, 110]⟩, 1, true, false, false, false, false⟩, ⟨⟨#[98, 105, 116]⟩, 1, true, false, false, false, true⟩, ⟨⟨#[99, 111, 110, 115, 116]⟩, 2, false, true, false, false, false⟩, ⟨⟨#[97, 100, 100]⟩, 3, false, false, true, true, false⟩, ⟨⟨#[115, 117, 98]⟩, 4, false, false, true, true, false⟩, ⟨⟨#[115, 99, 97, 108, 101]⟩, 5, false, true, true, false, false⟩, ⟨⟨#[109, 117, 108]⟩, 6, false, false, true, true, false⟩]
abbrev expL : List Int := [5, 7, 13, 17, 19, 31, 61]
abbrev tForms : Nat := 92
abbrev tExps : Nat := 91
abbrev tForm : Nat := 85
theorem fl_back : ∀ (l : List Form) (j : Nat) (u : Value), (l.flatMap fv)[j]? = some u → ∃ (i : Nat) (f : Form) (k : Nat), j = i * 7 + k ∧ l[i]? = some f ∧ (fv f)[k]? = some u
  | [], j, u, h => by simp at h
  | f :: l, j, u, h => by
    have e : (f :: l).flatMap fv = fv f ++ l.flatMap fv := rfl
    rw [e] at h
    have hl : (fv f).length = 7 := rfl
    rcases Nat.lt_or_ge j 7 with h1 | h1
    · rw [List.getElem?_append_left (by omega)] at h
      exact ⟨0, f, j, by omega, rfl, h⟩
    · rw [List.getElem?_append_right (by omega), hl] at h
      obtain ⟨i, f', k, h2, h3, h4⟩ := fl_back l (j - 7) u h
      exact ⟨i + 1, f', k, by omega, h3, h4⟩
/-- The laid variables, as they are known. -/
structure Gl (H : HH) : Prop where
  exps : ∀ (j : Nat) (u : Value), (expL.map (Value.int .i64))[j]? = some u → cellH H ⟨1, j, none⟩ = some u
  forms : ∀ (i : Nat) (f : Form), formL[i]? = some f → ∀ (j : Nat) (u : Value), (fv f)[j]? = some u → cellH H ⟨2, i * 7 + j, none⟩ = some u
theorem Gl.ext {H H' : HH} (h : Gl H) (he : Ext H H') : Gl H' := ⟨fun j u hu => cellH_ext he (h.exps j u hu), fun i f hf j u hu => cellH_ext he (h.forms i f hf j u hu)⟩
theorem Gl.exp_all {H : HH} (h : Gl H) : QRun Tryd.prog (Instr.loadAt tExps (.pointer (some ⟨1, 0, none⟩))) H (.agg #[.int .i64 5, .int .i64 7, .int .i64 13, .int .i64 17, .int .i64 19, .int .i64 31, .int .i64 61]) :=
  q_lda (cs := expL.map (Value.int .i64)) (by kernel_rfl) (by kernel_rfl) (fun j u hu => by
    rw [add0]
    exact h.exps j u hu)
theorem Gl.form_all {H : HH} (h : Gl H) : QRun Tryd.prog (Instr.loadAt tForms (.pointer (some ⟨2, 0, none⟩))) H (.agg (formL.flatMap fv).toArray) :=
  q_lda (cs := formL.flatMap fv) (by kernel_rfl) (by kernel_rfl) (fun j u hu => by
    rw [add0]
    obtain ⟨i, f, k, rfl, h2, h3⟩ := fl_back _ j u hu
    exact h.forms i f h2 k u h3)
abbrev pwL : List Int := [31, 127, 8191, 131071, 524287, 2147483647, 2305843009213693951]
theorem exp_at (i : Nat) (h : i < 7) : AQ Tryd.prog (Instr.index tExps (.agg #[.int .i64 5, .int .i64 7, .int .i64 13, .int .i64 17, .int .i64 19, .int .i64 31, .int .i64 61]) (.int .i64 i)) (.int .i64 (expL.getD i 0)) := by
  match i, h with
  | 0, _ => exact fun W => by kernel_rfl
  | 1, _ => exact fun W => by kernel_rfl
  | 2, _ => exact fun W => by kernel_rfl
  | 3, _ => exact fun W => by kernel_rfl
  | 4, _ => exact fun W => by kernel_rfl
  | 5, _ => exact fun W => by kernel_rfl
  | 6, _ => exact fun W => by kernel_rfl
theorem shl_at (i : Nat) (h : i < 7) (x y : Operand) : ∃ n : Int, AQ Tryd.prog (binSem .shl 22 x y (.int .u64 1) (.int .i64 (expL.getD i 0))) (.int .u64 n) ∧ IntKind.u64.wrap (n - 1) = pwL.getD i 0 ∧ expL.getD i 0 ≠ 0 := by
  match i, h with
  | 0, _ => exact ⟨32, fun W => by kernel_rfl, by decide, by decide⟩
  | 1, _ => exact ⟨128, fun W => by kernel_rfl, by decide, by decide⟩
  | 2, _ => exact ⟨8192, fun W => by kernel_rfl, by decide, by decide⟩
  | 3, _ => exact ⟨131072, fun W => by kernel_rfl, by decide, by decide⟩
  | 4, _ => exact ⟨524288, fun W => by kernel_rfl, by decide, by decide⟩
  | 5, _ => exact ⟨2147483648, fun W => by kernel_rfl, by decide, by decide⟩
  | 6, _ => exact ⟨2305843009213693952, fun W => by kernel_rfl, by decide, by decide⟩
section
variable {base : Nat} {H : HH} {K : Value → HH → Prop}
theorem h_fexp (hG : Gl H) (x : Int) (hk : ∀ e : Int, (e != 0) = supB x → K (.int .i64 e) H) : HCall Tryd.prog base 68 #[.int .u64 x] H K := by
  refine field_Exponent.spec ?_
  unfold field_Exponent.sh
  refine ⟨_, _, _, _, _, _, _, hG.exp_all, ?_⟩
  refine field_Exponent.loop0 (fun n y H' => H' = H ∧ ∃ i : Nat, y = i ∧ i ≤ 7 ∧ n = 7 - i ∧ ∀ j, j < i → x ≠ pwL.getD j 0) 7 ⟨rfl, 0, rfl, by decide, rfl, fun j hj => by omega⟩ ?_
  rintro n y g H1 ⟨rfl, i, rfl, hi, rfl, hno⟩
  unfold field_Exponent.B0
  split
  · rename_i e
    have e : i < 7 := by have := of_decide_eq_true e; omega
    obtain ⟨m, h1, h2, h3⟩ := shl_at i e (.const (.int .u64 1)) (.tmp 10)
    refine ⟨_, exp_at i e, m, h1, ?_⟩
    rw [h2]
    split
    · rename_i e2
      have e2 : x = pwL.getD i 0 := by simpa using e2
      refine hk _ ?_
      have : supB x = true := by
        unfold supB
        rw [e2, List.contains_eq_mem]
        refine decide_eq_true ?_
        have : pwL.getD i 0 = pwL[i]'e := by rw [List.getD_eq_getElem?_getD, List.getElem?_eq_getElem (show i < pwL.length from e)]; rfl
        rw [this]
        exact List.getElem_mem _
      rw [this]
      simpa using h3
    · rename_i e2
      have e2 : x ≠ pwL.getD i 0 := by simpa using e2
      exact ⟨7 - i - 1, by omega, _, rfl, rfl, i + 1, nxt (n := 1000) (by omega) (by decide), by omega, by omega, fun j hj => by
        by_cases h : j = i
        · rw [h]; exact e2
        · exact hno j (by omega)⟩
  · rename_i e
    have e : i = 7 := by
      have : ¬ ((i : Int) < 7) := fun h => e (decide_eq_true h)
      omega
    refine hk 0 ?_
    have : supB x = false := by
      cases hs : supB x with
      | false => rfl
      | true =>
        unfold supB at hs
        rw [List.contains_eq_mem] at hs
        obtain ⟨j, hj, ej⟩ := List.getElem_of_mem (of_decide_eq_true hs)
        refine absurd ej.symm ?_
        have := hno j (by rw [e]; exact hj)
        have h2 : pwL.getD j 0 = pwL[j]'hj := by rw [List.getD_eq_getElem?_getD, List.getElem?_eq_getElem hj]; rfl
        rwa [h2] at this
    rw [this]; rfl
theorem h_fsup (hG : Gl H) (x : Int) (hk : K (.bool (supB x)) H) : HCall Tryd.prog base 57 #[.int .u64 x] H K := by
  refine field_Supported.spec ?_
  unfold field_Supported.sh
  refine h_fexp hG x (fun e he => ⟨_, rfl, ?_⟩)
  rw [he]
  exact hk
end
end Go.Proofs.YtjpaichcaaacbaaDoor.HL
end
section
set_option linter.unusedVariables false
set_option linter.unusedSimpArgs false
set_option linter.unusedSectionVars false
set_option maxHeartbeats 4000000
namespace Go.Proofs.YtjpaichcaaacbaaDoor.HL
open Go Go.Proofs.YtjpaichcaaacbaaDoorNum Go.Proofs.YtjpaichcaaacbaaDoor.FEv
abbrev tGate : Nat := 37
structure Gate where
  kind : Int
  frm : Int
  a : Int
  b : Int
  k : Int
deriving DecidableEq
def gv (g : Gate) : List Value := [.int .i64 g.kind, .int .i64 g.frm, .int .i64 g.a, .int .i64 g.b, .int .u64 g.k]
def GAt (H : HH) (a : Addr) (g : Gate) : Prop := ∀ (j : Nat) (u : Value), (gv g)[j]? = some u → cellH H (a.add j) = some u
theorem infoG : (Tryd.prog.info? tGate).map (·.size) = some 5 := by kernel_rfl
theorem fg0 (a : Addr) : AQ Tryd.prog (Instr.fieldAt tGate (.pointer (some a)) 0) (.pointer (some (a.add 0))) := aq_fld (off := 0) (sz := 1) (by kernel_rfl) (by decide) a
theorem fg1 (a : Addr) : AQ Tryd.prog (Instr.fieldAt tGate (.pointer (some a)) 1) (.pointer (some (a.add 1))) := aq_fld (off := 1) (sz := 1) (by kernel_rfl) (by decide) a
theorem fg2 (a : Addr) : AQ Tryd.prog (Instr.fieldAt tGate (.pointer (some a)) 2) (.pointer (some (a.add 2))) := aq_fld (off := 2) (sz := 1) (by kernel_rfl) (by decide) a
theorem fg3 (a : Addr) : AQ Tryd.prog (Instr.fieldAt tGate (.pointer (some a)) 3) (.pointer (some (a.add 3))) := aq_fld (off := 3) (sz := 1) (by kernel_rfl) (by decide) a
theorem fg4 (a : Addr) : AQ Tryd.prog (Instr.fieldAt tGate (.pointer (some a)) 4) (.pointer (some (a.add 4))) := aq_fld (off := 4) (sz := 1) (by kernel_rfl) (by decide) a
section
variable {base : Nat} {H : HH} {K : Value → HH → Prop} {a : Addr} {g : Gate}
theorem GAt.ext {H' : HH} (h : GAt H a g) (he : Ext H H') : GAt H' a g := fun j u hu => cellH_ext he (h j u hu)
theorem GAt.kind (h : GAt H a g) : QRun Tryd.prog (Instr.loadAt 3 (.pointer (some (a.add 0)))) H (.int .i64 g.kind) := q_ld sc3 (h 0 _ rfl)
theorem GAt.frm (h : GAt H a g) : QRun Tryd.prog (Instr.loadAt 3 (.pointer (some (a.add 1)))) H (.int .i64 g.frm) := q_ld sc3 (h 1 _ rfl)
theorem GAt.sa (h : GAt H a g) : QRun Tryd.prog (Instr.loadAt 3 (.pointer (some (a.add 2)))) H (.int .i64 g.a) := q_ld sc3 (h 2 _ rfl)
theorem GAt.sb (h : GAt H a g) : QRun Tryd.prog (Instr.loadAt 3 (.pointer (some (a.add 3)))) H (.int .i64 g.b) := q_ld sc3 (h 3 _ rfl)
theorem GAt.k (h : GAt H a g) : QRun Tryd.prog (Instr.loadAt 22 (.pointer (some (a.add 4)))) H (.int .u64 g.k) := q_ld sc22 (h 4 _ rfl)
theorem GAt.all (h : GAt H a g) : QRun Tryd.prog (Instr.loadAt tGate (.pointer (some a))) H (.agg (gv g).toArray) := q_lda (cs := gv g) (by kernel_rfl) infoG h
theorem gat_blk {b : Nat} (h : H b = some (.cells (gv g).toArray tGate (0, 0))) : GAt H ⟨b, 0, none⟩ g := fun j u hu => by
  rw [add0, cellH_blk h, ← Array.getElem?_toList]
  exact hu
theorem h_gbox (hk : ∀ a H', Ext H H' → GAt H' a g → K (.pointer (some a)) H') : HRun Tryd.prog base (Instr.box tGate (.agg (gv g).toArray)) H K :=
  h_box (fun b hb hbase => hk _ _ (Ext.upd hb _) (gat_blk (upd_self _ _ _)))
theorem h_gvar {old : Value} {C : Addr → HH → Prop} (hk : ∀ a H', Ext H H' → GAt H' a g → C a H') :
    HRun Tryd.prog base (Instr.alloc tGate true old) H fun v H1 => ∃ a : Addr, v = .pointer (some a) ∧ HRun Tryd.prog base (Instr.storeAt tGate (.pointer (some a)) (.agg (gv g).toArray)) H1 fun _ H2 => C a H2 :=
  h_var (vs := gv g) (z := .agg #[.int .i64 0, .int .i64 0, .int .i64 0, .int .i64 0, .int .u64 0]) (by kernel_rfl) rfl infoG rfl (fun b H' he hbase hn hb => hk _ H' he (gat_blk hb))
end
def FAt (H : HH) (b : Nat) (f : Form) : Prop := H b = some (.cells (fv f).toArray tForm (0, 0))
theorem infoF : (Tryd.prog.info? tForm).map (·.size) = some 7 := by kernel_rfl
theorem ff (b n : Nat) (h : n < 7) : AQ Tryd.prog (Instr.fieldAt tForm (.pointer (some ⟨b, 0, none⟩)) n) (.pointer (some ⟨b, n, none⟩)) := by
  match n, h with
  | 0, _ => have := aq_fld (P := Tryd.prog) (s := tForm) (f := 0) (off := 0) (sz := 1) (by kernel_rfl) (by decide) ⟨b, 0, none⟩; rwa [add0] at this
  | 1, _ => have := aq_fld (P := Tryd.prog) (s := tForm) (f := 1) (off := 1) (sz := 1) (by kernel_rfl) (by decide) ⟨b, 0, none⟩; rwa [add0] at this
  | 2, _ => have := aq_fld (P := Tryd.prog) (s := tForm) (f := 2) (off := 2) (sz := 1) (by kernel_rfl) (by decide) ⟨b, 0, none⟩; rwa [add0] at this
  | 3, _ => have := aq_fld (P := Tryd.prog) (s := tForm) (f := 3) (off := 3) (sz := 1) (by kernel_rfl) (by decide) ⟨b, 0, none⟩; rwa [add0] at this
  | 4, _ => have := aq_fld (P := Tryd.prog) (s := tForm) (f := 4) (off := 4) (sz := 1) (by kernel_rfl) (by decide) ⟨b, 0, none⟩; rwa [add0] at this
  | 5, _ => have := aq_fld (P := Tryd.prog) (s := tForm) (f := 5) (off := 5) (sz := 1) (by kernel_rfl) (by decide) ⟨b, 0, none⟩; rwa [add0] at this
  | 6, _ => have := aq_fld (P := Tryd.prog) (s := tForm) (f := 6) (off := 6) (sz := 1) (by kernel_rfl) (by decide) ⟨b, 0, none⟩; rwa [add0] at this
theorem scBo : scalarB Tryd.prog 4 = true := by kernel_rfl
section
variable {base : Nat} {H : HH} {K : Value → HH → Prop} {b : Nat} {f : Form}
theorem FAt.ext {H' : HH} (h : FAt H b f) (he : Ext H H') : FAt H' b f := he _ _ h
theorem FAt.kind (h : FAt H b f) : QRun Tryd.prog (Instr.loadAt 3 (.pointer (some ⟨b, 1, none⟩))) H (.int .i64 f.kind) := q_ld sc3 (by rw [cellH_blk h]; rfl)
theorem FAt.fr (h : FAt H b f) : QRun Tryd.prog (Instr.loadAt 4 (.pointer (some ⟨b, 2, none⟩))) H (.bool f.fr) := q_ld scBo (by rw [cellH_blk h]; rfl)
theorem FAt.k (h : FAt H b f) : QRun Tryd.prog (Instr.loadAt 4 (.pointer (some ⟨b, 3, none⟩))) H (.bool f.k) := q_ld scBo (by rw [cellH_blk h]; rfl)
theorem FAt.sa (h : FAt H b f) : QRun Tryd.prog (Instr.loadAt 4 (.pointer (some ⟨b, 4, none⟩))) H (.bool f.a) := q_ld scBo (by rw [cellH_blk h]; rfl)
theorem FAt.sb (h : FAt H b f) : QRun Tryd.prog (Instr.loadAt 4 (.pointer (some ⟨b, 5, none⟩))) H (.bool f.b) := q_ld scBo (by rw [cellH_blk h]; rfl)
theorem FAt.bit (h : FAt H b f) : QRun Tryd.prog (Instr.loadAt 4 (.pointer (some ⟨b, 6, none⟩))) H (.bool f.bit) := q_ld scBo (by rw [cellH_blk h]; rfl)
theorem FAt.all (h : FAt H b f) : QRun Tryd.prog (Instr.loadAt tForm (.pointer (some ⟨b, 0, none⟩))) H (.agg (fv f).toArray) :=
  q_lda (cs := fv f) (by kernel_rfl) infoF (fun j u hu => by
    rw [add0, cellH_blk h, ← Array.getElem?_toList]
    exact hu)
def form0 : Form := ⟨⟨#[]⟩, 0, false, false, false, false, false⟩
theorem h_fvar {old : Value} {C : Addr → HH → Prop} (hk : ∀ b H', Ext H H' → FAt H' b f → C ⟨b, 0, none⟩ H') :
    HRun Tryd.prog base (Instr.alloc tForm true old) H fun v H1 => ∃ a : Addr, v = .pointer (some a) ∧ HRun Tryd.prog base (Instr.storeAt tForm (.pointer (some a)) (.agg (fv f).toArray)) H1 fun _ H2 => C a H2 :=
  h_var (vs := fv f) (z := .agg (fv form0).toArray) (by kernel_rfl) rfl infoF rfl (fun b H' he hbase hn hb => hk _ H' he hb)
theorem aq_eqb {P : Program} {t : TypeId} (ht : P.underlying t = some .bool) {x y : Operand} (u v : Bool) : AQ P (binSem .eql t x y (.bool u) (.bool v)) (.bool (u == v)) := fun W => by
  have e : (Op.equal t (.bool u) (.bool v)).run P W = .ok (u == v) W := by
    show (Op.equalIn (_ + 1) t (.bool u) (.bool v)).run P W = _
    unfold Op.equalIn
    simp [run_under ht]
  have e2 : (eqGuard .eql t x y (.bool u) (.bool v)).run P W = .ok () W := by
    unfold eqGuard
    cases u <;> cases v <;> simp [bind, Sem.bind, pure, Sem.run]
  unfold binSem
  simp [binOp, e, e2]
theorem unBo : Tryd.prog.underlying 4 = some .bool := by kernel_rfl
theorem form_at (i : Nat) (h : i < 7) : ∃ f, formL[i]? = some f ∧ AQ Tryd.prog (Instr.index tForms (.agg (formL.flatMap fv).toArray) (.int .i64 i)) (.agg (fv f).toArray) := by
  match i, h with
  | 0, _ => exact ⟨_, rfl, fun W => by kernel_rfl⟩
  | 1, _ => exact ⟨_, rfl, fun W => by kernel_rfl⟩
  | 2, _ => exact ⟨_, rfl, fun W => by kernel_rfl⟩
  | 3, _ => exact ⟨_, rfl, fun W => by kernel_rfl⟩
  | 4, _ => exact ⟨_, rfl, fun W => by kernel_rfl⟩
  | 5, _ => exact ⟨_, rfl, fun W => by kernel_rfl⟩
  | 6, _ => exact ⟨_, rfl, fun W => by kernel_rfl⟩
end
end Go.Proofs.YtjpaichcaaacbaaDoor.HL
end
section
set_option linter.unusedVariables false
set_option linter.unusedSimpArgs false
set_option linter.unusedSectionVars false
set_option maxHeartbeats 4000000
namespace Go.Proofs.YtjpaichcaaacbaaDoor.HL
open Go Go.Proofs.YtjpaichcaaacbaaDoorNum Go.Proofs.YtjpaichcaaacbaaDoor.FEv
def matchB (g : Gate) (f : Form) : Bool := f.kind == g.kind && f.bit == (g.kind == 1 && g.k == 1)
def ofS (g : Gate) : Option Form := formL.find? (matchB g)
theorem ofS_at {g : Gate} {i : Nat} {f : Form} (hi : formL[i]? = some f) (hm : matchB g f = true) (hno : ∀ j f, j < i → formL[j]? = some f → matchB g f = false) : ofS g = some f := by
  unfold ofS
  obtain ⟨h, e⟩ := List.getElem?_eq_some_iff.1 hi
  refine List.find?_eq_some_iff_getElem.2 ⟨hm, i, h, e, fun j hj => ?_⟩
  have := hno j _ hj (List.getElem?_eq_getElem (Nat.lt_trans hj h))
  simp [this]
theorem ofS_none {g : Gate} (hno : ∀ j f, j < 7 → formL[j]? = some f → matchB g f = false) : ofS g = none := by
  unfold ofS
  refine List.find?_eq_none.2 (fun f hf => ?_)
  obtain ⟨j, hj, rfl⟩ := List.getElem_of_mem hf
  have := hno j _ hj (List.getElem?_eq_getElem hj)
  simp [this]
section
variable {base : Nat} {H : HH} {K : Value → HH → Prop}
theorem HRun.use' {α : Type} {P : Program} {base : Nat} {H : HH} {s : Sem α} {Q K : α → HH → Prop} (h : HRun P base s H Q) (hk : ∀ v H', Q v H' → K v H') : HRun P base s H K := fun W hs hb => by
  obtain ⟨v, W', H', h1, h2, h3⟩ := h W hs hb
  exact ⟨v, W', H', h1, hk _ _ h2, h3⟩
theorem ext_new {H H' : HH} {x : Nat} {o : Obj} (he : Ext H H') (hn : H x = none) : Ext H (upd H' x o) := fun k o' hk => by
  have : k ≠ x := fun e => by rw [e, hn] at hk; cases hk
  rw [upd_ne _ this]
  exact he k o' hk
theorem q_res {l : List Value} {x : Nat} {f : Form} {ok : Bool} (h2 : l[2]? = some (.pointer (some ⟨x, 0, none⟩))) (h3 : l[3]? = some (.bool ok)) (h : FAt H x f) : QRun Tryd.prog (results Tryd.f69 l.toArray) H (.tuple #[.agg (fv f).toArray, .bool ok]) := fun W hs => by
  have er : Tryd.f69.results = #[.cell 2 tForm, .tmp 3] := by kernel_rfl
  have hl := h.all W hs
  simp only [Instr.loadAt, Instr.sureAddr] at hl
  have e2 : l.toArray.getD 2 undef = .pointer (some ⟨x, 0, none⟩) := by simp [Array.getD_eq_getD_getElem?, h2]
  have e3 : l.toArray.getD 3 undef = .bool ok := by simp [Array.getD_eq_getD_getElem?, h3]
  unfold results
  rw [er]
  simp [e2, e3, asAddr, hl]
  simp_all
theorem h_of (hG : Gl H) (g : Gate) (hk1 : ∀ f, ofS g = some f → ∀ H', Ext H H' → K (.tuple #[.agg (fv f).toArray, .bool true]) H') (hk2 : ofS g = none → ∀ H', Ext H H' → K (.tuple #[.agg (fv form0).toArray, .bool false]) H') : HCall Tryd.prog base 69 #[.agg (gv g).toArray] H K := by
  refine circuit_of.spec ?_
  unfold circuit_of.sh
  refine h_gbox (g := g) (fun a H1 X1 ga => ⟨_, rfl, ?_⟩)
  refine h_alloc (z := .agg (fv form0).toArray) (by kernel_rfl) (fun x hx hxb => ⟨_, rfl, ?_⟩)
  have X2 : Ext H1 (upd H1 x (.cells (Value.agg (fv form0).toArray).cells tForm)) := Ext.upd hx _
  have hx2 : (upd H1 x (.cells (Value.agg (fv form0).toArray).cells tForm)) x = some (.cells (Value.agg (fv form0).toArray).cells tForm (0, 0)) := upd_self _ _ _
  generalize upd H1 x (.cells (Value.agg (fv form0).toArray).cells tForm) = H2 at X2 hx2 ⊢
  refine ⟨_, _, _, _, _, _, _, _, _, _, _, _, _, _, _, _, _, _, _, _, _, _, _, _, _, _, _, _, _, _, _, _, _, _, _, _, _, _, _, _, _, _, _, _, _, _, _, _, _, ((hG.ext X1).ext X2).form_all, ?_⟩
  refine circuit_of.loop0 (fun n y H' => ∃ i : Nat, y = i ∧ i ≤ 7 ∧ n = 7 - i ∧ Ext H2 H' ∧ ∀ j f, j < i → formL[j]? = some f → matchB g f = false) 7 ⟨0, rfl, by decide, rfl, .refl _, fun j f hj => by omega⟩ ?_
  rintro n y fr H3 ⟨i, rfl, hi, rfl, X3, hno⟩
  have hHx : H x = none := X1.none hx
  unfold circuit_of.B0
  split
  · rename_i e
    have e : i < 7 := by have := of_decide_eq_true e; omega
    obtain ⟨f, hf, hix⟩ := form_at i e
    refine ⟨_, _, _, _, _, _, _, hix, h_fvar (f := f) (fun b H4 X4 fa => ?_)⟩
    have g4 := ((ga.ext X2).ext X3).ext X4
    have X24 := X3.trans X4
    have XH := X1.trans (X2.trans X24)
    refine ⟨_, ff b 1 (by decide), _, fa.kind, _, fg0 a, _, g4.kind, ?_⟩
    have next : matchB g f = false → ∃ n', n' < 7 - i ∧ ∃ y' : Int, Value.int .i64 (IntKind.i64.wrap ((i : Int) + 1)) = .int .i64 y' ∧ ∃ i : Nat, y' = i ∧ i ≤ 7 ∧ n' = 7 - i ∧ Ext H2 H4 ∧ ∀ j f, j < i → formL[j]? = some f → matchB g f = false := fun hm =>
      ⟨7 - i - 1, by omega, _, rfl, i + 1, nxt (n := 1000) (by omega) (by decide), by omega, by omega, X24, fun j f' hj hf' => by
        by_cases h : j = i
        · subst h; rw [hf] at hf'; cases hf'; exact hm
        · exact hno j f' (by omega) hf'⟩
    have found : matchB g f = true → HRun Tryd.prog base (Instr.storeAt tForm (.pointer (some ⟨x, 0, none⟩)) (.agg (fv f).toArray)) H4 fun _ H85 => FAt H85 x f ∧ K (.tuple #[.agg (fv f).toArray, .bool true]) H85 := fun hm =>
      h_sta (vs := fv f) infoF rfl (X24 _ _ hx2) hxb rfl ⟨upd_self _ _ _, hk1 f (ofS_at hf hm hno) _ (ext_new XH hHx)⟩
    by_cases hk : f.kind = g.kind
    · rw [if_pos (by simpa using hk)]
      refine ⟨_, ff b 6 (by decide), _, fa.bit, _, fg0 a, _, g4.kind, ?_⟩
      by_cases h1 : g.kind = 1
      · rw [if_pos (by simpa using h1)]
        refine ⟨_, fg4 a, _, g4.k, _, aq_eqb unBo _ _, ?_⟩
        split
        · rename_i em
          have hm : matchB g f = true := by simp only [matchB, hk, h1]; simpa using em
          exact ⟨_, _, _, _, _, _, _, fa.all, (found hm).use' (fun _ H5 ⟨q1, q2⟩ => ⟨_, q_res rfl rfl q1, q2⟩)⟩
        · rename_i em
          exact next (by simp only [matchB, hk, h1]; simpa using em)
      · rw [if_neg (by simpa using h1)]
        refine ⟨_, aq_eqb unBo _ _, ?_⟩
        have hg1 : (g.kind == 1) = false := by simpa using h1
        split
        · rename_i em
          have hm : matchB g f = true := by simp only [matchB, hk, hg1]; simpa using em
          exact ⟨_, _, _, _, _, _, _, fa.all, (found hm).use' (fun _ H5 ⟨q1, q2⟩ => ⟨_, q_res rfl rfl q1, q2⟩)⟩
        · rename_i em
          exact next (by simp only [matchB, hk, hg1]; simpa using em)
    · rw [if_neg (by simpa using hk)]
      exact next (by simp [matchB, hk])
  · rename_i e
    have e : i = 7 := by
      have : ¬ ((i : Int) < 7) := fun h => e (decide_eq_true h)
      omega
    subst e
    refine ⟨_, _, _, _, _, _, _, (show AQ Tryd.prog (Instr.build tForm #[]) (.agg (fv form0).toArray) from fun W => by kernel_rfl), ?_⟩
    refine h_sta (vs := fv form0) infoF rfl (X3 _ _ hx2) hxb rfl ⟨_, q_res (f := form0) rfl rfl (upd_self _ _ _), hk2 (ofS_none hno) _ (ext_new (X1.trans (X2.trans X3)) hHx)⟩
end
end Go.Proofs.YtjpaichcaaacbaaDoor.HL
end
section
set_option linter.unusedVariables false
set_option linter.unusedSimpArgs false
set_option linter.unusedSectionVars false
set_option maxHeartbeats 4000000
namespace Go.Proofs.YtjpaichcaaacbaaDoor.HL
open Go Go.Proofs.YtjpaichcaaacbaaDoorNum Go.Proofs.YtjpaichcaaacbaaDoor.FEv
def sideB (has : Bool) (x at_ : Int) : Bool := if has = true then decide (x ≥ 0) && decide (x < at_) else x == 0
def fromB (f : Form) (g : Gate) : Bool := if f.fr = true then decide (g.frm ≥ 1) && decide (g.frm ≤ 13) else g.frm == 0
def kB (p : Int) (f : Form) (g : Gate) : Bool := if f.k = true then decide (g.k < p) else (g.k == 0 || f.bit)
def rightB (p : Int) (g : Gate) (at_ : Int) : Bool := match ofS g with
  | none => false
  | some f => fromB f g && kB p f g && (sideB f.a g.a at_ && sideB f.b g.b at_)
section
variable {base : Nat} {H : HH} {K : Value → HH → Prop} {ad : Addr}
theorem h_side {has : Bool} {x at_ : Int} (hq : QRun Tryd.prog (Instr.loadAt 3 (.pointer (some ad))) H (.int .i64 at_)) (hk : K (.bool (sideB has x at_)) H) : HCall Tryd.prog base 70 #[.bool has, .int .i64 x, .pointer (some ad)] H K := by
  refine circuit_right_1.spec ?_
  unfold circuit_right_1.sh
  unfold sideB at hk
  cases has with
  | false =>
    rw [if_pos (by decide)]
    rw [if_neg (by decide)] at hk
    split
    · rename_i e
      rw [if_neg (by decide)]
      rwa [e] at hk
    · rename_i e
      have e : (x == 0) = true := by simpa using e
      rwa [e] at hk
  | true =>
    rw [if_neg (by decide), if_pos rfl]
    rw [if_pos rfl] at hk
    split
    · rename_i e
      refine ⟨_, hq, ?_⟩
      rwa [e, Bool.true_and] at hk
    · rename_i e
      have e : decide (x ≥ 0) = false := by simpa using e
      rwa [e, Bool.false_and] at hk
variable {a : Addr} {b : Nat} {g : Gate} {f : Form} {p at_ : Int}
theorem r1 {x9 x10 : Bool} (ga : GAt H a g) (fa : FAt H b f) (hq : QRun Tryd.prog (Instr.loadAt 3 (.pointer (some ad))) H (.int .i64 at_)) (hk : K (.bool (x9 && x10 && (sideB f.a g.a at_ && sideB f.b g.b at_))) H) :
    circuit_right.R1 base [.pointer (some a), .pointer (some ad), .pointer (some ⟨b, 0, none⟩), .bool x9, .bool x10] H K := by
  refine circuit_right.cut1 ?_
  unfold circuit_right.T1 circuit_right.S1
  cases x9 with
  | false => rw [if_neg (by decide)]; exact hk
  | true =>
    rw [if_pos rfl]
    cases x10 with
    | false => rw [if_neg (by decide)]; exact hk
    | true =>
      rw [if_pos rfl]
      refine ⟨_, ff b 4 (by decide), _, fa.sa, _, fg2 a, _, ga.sa, h_side hq ⟨_, rfl, ?_⟩⟩
      split
      · rename_i e
        refine ⟨_, ff b 5 (by decide), _, fa.sb, _, fg3 a, _, ga.sb, h_side hq ⟨_, rfl, ?_⟩⟩
        rw [e] at hk
        simpa using hk
      · rename_i e
        have e : sideB f.a g.a at_ = false := by simpa using e
        rw [e] at hk
        simpa using hk
theorem r0 {x9 : Bool} (ga : GAt H a g) (fa : FAt H b f) (hq : QRun Tryd.prog (Instr.loadAt 3 (.pointer (some ad))) H (.int .i64 at_)) (hk : K (.bool (x9 && kB p f g && (sideB f.a g.a at_ && sideB f.b g.b at_))) H) :
    circuit_right.R0 base [.int .u64 p, .pointer (some a), .pointer (some ad), .pointer (some ⟨b, 0, none⟩), .bool x9] H K := by
  refine circuit_right.cut0 ?_
  unfold circuit_right.T0 circuit_right.S0
  have qk := fa.k
  unfold kB at hk
  cases hfk : f.k with
  | false =>
    rw [hfk] at qk hk
    rw [if_neg (by decide)] at hk
    refine ⟨_, ff b 3 (by decide), _, qk, ?_⟩
    rw [if_pos (by decide)]
    refine ⟨_, fg4 a, _, ga.k, ?_⟩
    split
    · rename_i e
      rw [e, Bool.false_or] at hk
      refine ⟨_, ff b 6 (by decide), _, fa.bit, ?_⟩
      split
      · rename_i e2
        rw [e2] at hk
        refine ⟨_, ff b 3 (by decide), _, qk, ?_⟩
        rw [if_neg (by decide)]
        exact r1 ga fa hq hk
      · rename_i e2
        rw [show f.bit = true by simpa using e2] at hk
        exact r1 ga fa hq hk
    · rename_i e
      rw [show (g.k == 0) = true by simpa using e, Bool.true_or] at hk
      exact r1 ga fa hq hk
  | true =>
    rw [hfk] at qk hk
    rw [if_pos rfl] at hk
    refine ⟨_, ff b 3 (by decide), _, qk, ?_⟩
    rw [if_neg (by decide)]
    refine ⟨_, ff b 3 (by decide), _, qk, ?_⟩
    rw [if_pos rfl]
    exact ⟨_, fg4 a, _, ga.k, r1 ga fa hq hk⟩
theorem h_right (hG : Gl H) (g : Gate) (p at_ : Int) (hk : ∀ H', Ext H H' → K (.bool (rightB p g at_)) H') : HCall Tryd.prog base 58 #[.int .u64 p, .agg (gv g).toArray, .int .i64 at_] H K := by
  refine circuit_right.spec ?_
  unfold circuit_right.sh
  refine h_gbox (g := g) (fun a H1 X1 ga => ⟨_, rfl, h_box (fun c hc hcb => ⟨_, rfl, ?_⟩)⟩)
  have X2 : Ext H1 (upd H1 c (.cells (Value.int .i64 at_).cells 3)) := Ext.upd hc _
  have hq : QRun Tryd.prog (Instr.loadAt 3 (.pointer (some ⟨c, 0, none⟩))) (upd H1 c (.cells (Value.int .i64 at_).cells 3)) (.int .i64 at_) := q_ld sc3 (by rw [cellH_blk (upd_self _ _ _)]; rfl)
  generalize upd H1 c (.cells (Value.int .i64 at_).cells 3) = H2 at X2 hq ⊢
  have ga2 := ga.ext X2
  have X12 := X1.trans X2
  refine ⟨_, _, _, _, _, ga2.all, ?_⟩
  refine h_of (hG.ext X12) g (fun f hf H3 X3 => ⟨_, _, _, _, _, _, _, _, rfl, h_fvar (f := f) (fun b H4 X4 fa => ?_)⟩) (fun hf H3 X3 => ⟨_, _, _, _, _, _, _, _, rfl, h_fvar (f := form0) (fun b H4 X4 fa => ?_)⟩)
  rotate_left
  · rw [if_pos (by decide)]
    have := hk H4 (X12.trans (X3.trans X4))
    unfold rightB at this
    rwa [hf] at this
  rw [if_neg (by decide)]
  have X34 := X3.trans X4
  have ga4 := ga2.ext X34
  have hq4 : QRun Tryd.prog (Instr.loadAt 3 (.pointer (some ⟨c, 0, none⟩))) H4 (.int .i64 at_) := fun W hs => hq W (fun k o hk => hs k o (X34 k o hk))
  have hk := hk H4 (X12.trans X34)
  unfold rightB at hk
  rw [hf] at hk
  simp only at hk
  unfold fromB at hk
  have qf := fa.fr
  cases hff : f.fr with
  | false =>
    rw [hff] at qf hk
    rw [if_neg (by decide)] at hk
    refine ⟨_, ff b 2 (by decide), _, qf, ?_⟩
    rw [if_pos (by decide)]
    refine ⟨_, fg1 a, _, ga4.frm, ?_⟩
    split
    · rename_i e
      rw [e] at hk
      refine ⟨_, ff b 2 (by decide), _, qf, ?_⟩
      rw [if_neg (by decide)]
      exact r0 ga4 fa hq4 hk
    · rename_i e
      rw [show (g.frm == 0) = true by simpa using e] at hk
      exact r0 ga4 fa hq4 hk
  | true =>
    rw [hff] at qf hk
    rw [if_pos rfl] at hk
    refine ⟨_, ff b 2 (by decide), _, qf, ?_⟩
    rw [if_neg (by decide)]
    refine ⟨_, ff b 2 (by decide), _, qf, ?_⟩
    rw [if_pos rfl]
    refine ⟨_, fg1 a, _, ga4.frm, ?_⟩
    split
    · rename_i e
      rw [e, Bool.true_and] at hk
      exact ⟨_, fg1 a, _, ga4.frm, r0 ga4 fa hq4 hk⟩
    · rename_i e
      rw [show decide (g.frm ≥ 1) = false by simpa using e, Bool.false_and] at hk
      exact r0 ga4 fa hq4 hk
end
end Go.Proofs.YtjpaichcaaacbaaDoor.HL
end
section
set_option linter.unusedVariables false
set_option linter.unusedSimpArgs false
set_option linter.unusedSectionVars false
set_option maxHeartbeats 4000000
namespace Go.Proofs.YtjpaichcaaacbaaDoor.HL
open Go Go.Proofs.YtjpaichcaaacbaaDoorNum Go.Proofs.YtjpaichcaaacbaaDoor.FEv
abbrev tC : Nat := 26
abbrev tGates : Nat := 23
abbrev tInts : Nat := 24
theorem unGates : Tryd.prog.underlying tGates = some (.slice tGate) := by kernel_rfl
theorem unInts : Tryd.prog.underlying tInts = some (.slice 3) := by kernel_rfl
theorem scGates : scalarB Tryd.prog tGates = true := by kernel_rfl
theorem scInts : scalarB Tryd.prog tInts = true := by kernel_rfl
def gate0 : Gate := ⟨0, 0, 0, 0, 0⟩
def gc (gs : List Gate) : List Value := gs.flatMap gv
theorem gc_get : ∀ (gs : List Gate) (i : Nat) (g : Gate), gs[i]? = some g → ∀ (j : Nat) (u : Value), (gv g)[j]? = some u → (gc gs)[i * 5 + j]? = some u
  | [], i, g, h, j, u, hu => by simp at h
  | r :: gs, 0, g, h, j, u, hu => by
    cases h
    show (gv r ++ gc gs)[0 * 5 + j]? = some u
    rw [Nat.zero_mul, Nat.zero_add, List.getElem?_append_left (List.getElem?_eq_some_iff.1 hu).1]
    exact hu
  | r :: gs, i + 1, g, h, j, u, hu => by
    have := gc_get gs i g (by simpa using h) j u hu
    show (gv r ++ gc gs)[(i + 1) * 5 + j]? = some u
    have hl : (gv r).length = 5 := rfl
    rw [List.getElem?_append_right (by rw [hl]; omega), hl, show (i + 1) * 5 + j - 5 = i * 5 + j by omega]
    exact this
def Gs (H : HH) (A : Option Addr) (n : Nat) (gs : List Gate) : Prop := n = gs.length ∧ Rd H A (gc gs)
def Outs (H : HH) (A : Option Addr) (n : Nat) (l : List Int) : Prop := n = l.length ∧ Rd H A (is l)
section
variable {base : Nat} {H : HH} {K : Value → HH → Prop} {A A' : Option Addr} {n n' c c' b : Nat} {p : Int} {gs : List Gate} {outs : List Int}
theorem Gs.ext {H' : HH} (h : Gs H A n gs) (he : Ext H H') : Gs H' A n gs := ⟨h.1, h.2.ext he⟩
theorem Outs.ext {H' : HH} (h : Outs H A n outs) (he : Ext H H') : Outs H' A n outs := ⟨h.1, h.2.ext he⟩
theorem Gs.at (h : Gs H A n gs) (c : Nat) {i : Nat} (hi : i < n) : ∃ a, AQ Tryd.prog (Instr.indexAt tGates (.slice A n c) (.int .i64 i)) (.pointer (some a)) ∧ GAt H a (gs.getD i gate0) := by
  obtain ⟨e, h⟩ := h
  have hg : gs[i]? = some (gs.getD i gate0) := by simp [show i < gs.length by omega]
  obtain ⟨ad, rfl, hc⟩ := Rd.at h (gc_get gs i _ hg 0 _ rfl)
  refine ⟨_, aq_ix unGates infoG (by omega) (by omega), fun j u hu => ?_⟩
  obtain ⟨ad', e', hc'⟩ := Rd.at h (gc_get gs i _ hg j u hu)
  cases e'
  rw [Int.toNat_natCast, addr_add']
  exact hc'
theorem Outs.at (h : Outs H A n outs) (c : Nat) {i : Nat} (hi : i < n) : ∃ a, AQ Tryd.prog (Instr.indexAt tInts (.slice A n c) (.int .i64 i)) (.pointer (some a)) ∧ QRun Tryd.prog (Instr.loadAt 3 (.pointer (some a))) H (.int .i64 (outs.getD i 0)) := by
  obtain ⟨e, h⟩ := h
  obtain ⟨ad, rfl, hc⟩ := Rd.at h (i := i) (u := .int .i64 (outs.getD i 0)) (by simp [is, show i < outs.length by omega])
  refine ⟨_, aq_ix unInts info3 (by omega) (by omega), q_ld sc3 ?_⟩
  rw [Int.toNat_natCast, Nat.mul_one]; exact hc
/-- What lies in a circuit's variable. -/
def CB (H : HH) (b : Nat) (p : Int) (A : Option Addr) (n c : Nat) (A' : Option Addr) (n' c' : Nat) : Prop := H b = some (.cells #[.int .u64 p, .slice A n c, .slice A' n' c'] tC (0, 0))
theorem fc0 (b : Nat) : AQ Tryd.prog (Instr.fieldAt tC (.pointer (some ⟨b, 0, none⟩)) 0) (.pointer (some ⟨b, 0, none⟩)) := by
  have := aq_fld (P := Tryd.prog) (s := tC) (f := 0) (off := 0) (sz := 1) (by kernel_rfl) (by decide) ⟨b, 0, none⟩
  rwa [add0] at this
theorem fc1 (b : Nat) : AQ Tryd.prog (Instr.fieldAt tC (.pointer (some ⟨b, 0, none⟩)) 1) (.pointer (some ⟨b, 1, none⟩)) := by
  have := aq_fld (P := Tryd.prog) (s := tC) (f := 1) (off := 1) (sz := 1) (by kernel_rfl) (by decide) ⟨b, 0, none⟩
  rwa [add0] at this
theorem fc2 (b : Nat) : AQ Tryd.prog (Instr.fieldAt tC (.pointer (some ⟨b, 0, none⟩)) 2) (.pointer (some ⟨b, 2, none⟩)) := by
  have := aq_fld (P := Tryd.prog) (s := tC) (f := 2) (off := 2) (sz := 1) (by kernel_rfl) (by decide) ⟨b, 0, none⟩
  rwa [add0] at this
theorem CB.ext {H' : HH} (h : CB H b p A n c A' n' c') (he : Ext H H') : CB H' b p A n c A' n' c' := he _ _ h
theorem CB.qp (h : CB H b p A n c A' n' c') : QRun Tryd.prog (Instr.loadAt 22 (.pointer (some ⟨b, 0, none⟩))) H (.int .u64 p) := q_ld sc22 (by rw [cellH_blk h]; rfl)
theorem CB.qgs (h : CB H b p A n c A' n' c') : QRun Tryd.prog (Instr.loadAt tGates (.pointer (some ⟨b, 1, none⟩))) H (.slice A n c) := q_ld scGates (by rw [cellH_blk h]; rfl)
theorem CB.qouts (h : CB H b p A n c A' n' c') : QRun Tryd.prog (Instr.loadAt tInts (.pointer (some ⟨b, 2, none⟩))) H (.slice A' n' c') := q_ld scInts (by rw [cellH_blk h]; rfl)
theorem CB.all (h : CB H b p A n c A' n' c') : QRun Tryd.prog (Instr.loadAt tC (.pointer (some ⟨b, 0, none⟩))) H (.agg #[.int .u64 p, .slice A n c, .slice A' n' c']) :=
  q_lda (cs := [.int .u64 p, .slice A n c, .slice A' n' c']) (by kernel_rfl) (by kernel_rfl) (fun j u hu => by
    rw [add0, cellH_blk h, ← Array.getElem?_toList]
    exact hu)
theorem h_cbox (hk : ∀ b H', Ext H H' → CB H' b p A n c A' n' c' → K (.pointer (some ⟨b, 0, none⟩)) H') : HRun Tryd.prog base (Instr.box tC (.agg #[.int .u64 p, .slice A n c, .slice A' n' c'])) H K :=
  h_box (fun b hb hbase => hk b _ (Ext.upd hb _) (upd_self _ _ _))
/-- An output that is none. -/
def badO (gs : List Gate) (x : Int) : Bool := decide (x < 0) || decide (x ≥ gs.length)
def validB (p : Int) (gs : List Gate) (outs : List Int) : Bool := supB p && (decide (gs.length ≤ 20000) && (decide (outs.length ≤ 1000) && ((List.range gs.length).all (fun i => rightB p (gs.getD i gate0) i) && !outs.any (badO gs))))
theorem h_bad (hc : CB H b p A gs.length c A' n' c') (x : Int) (hk : K (.bool (badO gs x)) H) : HCall Tryd.prog base 60 #[.int .i64 x, .pointer (some ⟨b, 0, none⟩)] H K := by
  refine circuit_Valid_1.spec ?_
  unfold circuit_Valid_1.sh
  unfold badO at hk
  split
  · rename_i e
    rw [e, Bool.false_or] at hk
    exact ⟨_, fc1 b, _, _, _, hc.qgs, hk⟩
  · rename_i e
    rw [show decide (x < 0) = true by simpa using e, Bool.true_or] at hk
    exact hk
theorem h_index (hc : CB H b p A gs.length c A' n' c') (ho : Outs H A' n' outs) (hz : outs.length ≤ 100000) (hk : ∀ z : Int, decide (z ≥ 0) = outs.any (badO gs) → K (.int .i64 z) H) : HCall Tryd.prog base 71 #[.slice A' n' c', .func (.func 60) #[] #[.pointer (some ⟨b, 0, none⟩)]] H K := by
  refine slices_IndexFunc_Lint_int.spec ?_
  unfold slices_IndexFunc_Lint_int.sh
  have e1 := ho.1
  refine slices_IndexFunc_Lint_int.loop0 (fun r y H' => H' = H ∧ ∃ i : Nat, y = i ∧ i ≤ n' ∧ r = n' - i ∧ ∀ j, j < i → badO gs (outs.getD j 0) = false) n' ⟨rfl, 0, rfl, Nat.zero_le _, rfl, fun j hj => by omega⟩ ?_
  rintro r y fr H1 ⟨rfl, i, rfl, hi, rfl, hno⟩
  unfold slices_IndexFunc_Lint_int.B0
  split
  · rename_i e
    have e := of_decide_eq_true e
    obtain ⟨a, q1, q2⟩ := ho.at c' (i := i) (by omega)
    refine ⟨a, q1, _, q2, h_bad hc _ ⟨_, rfl, ?_⟩⟩
    split
    · rename_i eb
      refine hk _ ?_
      have : outs.any (badO gs) = true := List.any_eq_true.2 ⟨outs.getD i 0, by
        have : outs.getD i 0 = outs[i]'(by omega) := by simp [show i < outs.length by omega]
        rw [this]; exact List.getElem_mem _, eb⟩
      rw [this]
      exact decide_eq_true (by omega)
    · rename_i eb
      have eb : badO gs (outs.getD i 0) = false := by simpa using eb
      exact ⟨n' - i - 1, by omega, _, rfl, rfl, i + 1, nxt (n := 1000000) (by omega) (by decide), by omega, by omega, fun j hj => by
        by_cases h : j = i
        · rw [h]; exact eb
        · exact hno j (by omega)⟩
  · rename_i e
    have e : ¬ ((i : Int) < (n' : Int)) := fun h => e (decide_eq_true h)
    refine hk _ ?_
    have : outs.any (badO gs) = false := by
      refine List.any_eq_false.2 (fun x hx => ?_)
      obtain ⟨j, hj, rfl⟩ := List.getElem_of_mem hx
      have h1 := hno j (by omega)
      have : outs.getD j 0 = outs[j] := by simp [hj]
      rw [this] at h1
      simp [h1]
    rw [this]
    rfl
theorem h_contains (hc : CB H b p A gs.length c A' n' c') (ho : Outs H A' n' outs) (hz : outs.length ≤ 100000) (hk : K (.bool (outs.any (badO gs))) H) : HCall Tryd.prog base 59 #[.slice A' n' c', .func (.func 60) #[] #[.pointer (some ⟨b, 0, none⟩)]] H K := by
  refine slices_ContainsFunc_Lint_int.spec ?_
  unfold slices_ContainsFunc_Lint_int.sh
  refine h_index hc ho hz (fun z hz => ⟨_, rfl, ?_⟩)
  rw [hz]
  exact hk
theorem h_valid (hG : Gl H) (hg : Gs H A n gs) (ho : Outs H A' n' outs) (hk : ∀ H', Ext H H' → K (.bool (validB p gs outs)) H') : HCall Tryd.prog base 36 #[.agg #[.int .u64 p, .slice A n c, .slice A' n' c']] H K := by
  refine circuit_Valid.spec ?_
  unfold circuit_Valid.sh
  obtain rfl := hg.1
  obtain rfl := ho.1
  refine h_cbox (fun b H1 X1 cb => ⟨_, rfl, _, fc0 b, _, cb.qp, h_fsup (hG.ext X1) p ⟨_, rfl, ?_⟩⟩)
  unfold validB at hk
  split
  rotate_left
  · rename_i e
    have e : supB p = false := by simpa using e
    have := hk H1 X1
    rwa [e, Bool.false_and] at this
  rename_i e
  rw [show supB p = true by simpa using e] at hk
  simp only [Bool.true_and] at hk
  refine ⟨_, fc1 b, _, _, _, cb.qgs, ?_⟩
  split
  rotate_left
  · rename_i e
    have e : ¬ gs.length ≤ 20000 := by
      intro h
      exact e (decide_eq_false (by omega))
    have := hk H1 X1
    rwa [decide_eq_false e, Bool.false_and] at this
  rename_i e
  have e := of_decide_eq_false e
  rw [decide_eq_true (show gs.length ≤ 20000 by omega)] at hk
  simp only [Bool.true_and] at hk
  refine ⟨_, fc2 b, _, _, _, cb.qouts, ?_⟩
  split
  · rename_i e
    have e := of_decide_eq_true e
    have := hk H1 X1
    rwa [decide_eq_false (show ¬ outs.length ≤ 1000 by omega), Bool.false_and] at this
  rename_i e1
  have e1 : ¬ ((outs.length : Int) > 1000) := fun h => e1 (decide_eq_true h)
  rw [decide_eq_true (show outs.length ≤ 1000 by omega)] at hk
  simp only [Bool.true_and] at hk
  refine ⟨_, fc1 b, _, _, _, cb.qgs, ?_⟩
  refine circuit_Valid.loop0 (fun r y H' => ∃ i : Nat, y = i ∧ i ≤ gs.length ∧ r = gs.length - i ∧ Ext H1 H' ∧ ∀ j, j < i → rightB p (gs.getD j gate0) j = true) gs.length ⟨0, rfl, Nat.zero_le _, rfl, .refl _, fun j hj => by omega⟩ ?_
  rintro r y fr H2 ⟨i, rfl, hi, rfl, X2, hyes⟩
  unfold circuit_Valid.B0
  split
  · rename_i e2
    have e2 := of_decide_eq_true e2
    obtain ⟨a, q1, q2⟩ := ((hg.ext X1).ext X2).at c (i := i) (by omega)
    refine ⟨a, q1, _, _, _, _, _, q2.all, h_gvar (fun a' H3 X3 ga => ?_)⟩
    have X23 := X2.trans X3
    refine ⟨_, fc0 b, _, (cb.ext X23).qp, _, _, _, _, _, ga.all, h_right (hG.ext (X1.trans X23)) _ p i (fun H4 X4 => ⟨_, rfl, ?_⟩)⟩
    split
    · rename_i er
      have er : rightB p (gs.getD i gate0) i = false := by simpa using er
      have := hk H4 (X1.trans (X23.trans X4))
      have ha : (List.range gs.length).all (fun i => rightB p (gs.getD i gate0) i) = false := List.all_eq_false.2 ⟨i, List.mem_range.2 (by omega), by simp only [er]; decide⟩
      rwa [ha, Bool.false_and] at this
    · rename_i er
      have er : rightB p (gs.getD i gate0) i = true := by simpa using er
      exact ⟨gs.length - i - 1, by omega, _, rfl, i + 1, nxt (n := 1000000) (by omega) (by decide), by omega, by omega, X23.trans X4, fun j hj => by
        by_cases h : j = i
        · rw [h]; exact er
        · exact hyes j (by omega)⟩
  · rename_i e2
    have e2 : ¬ ((i : Int) < (gs.length : Int)) := fun h => e2 (decide_eq_true h)
    have ha : (List.range gs.length).all (fun i => rightB p (gs.getD i gate0) i) = true := List.all_eq_true.2 (fun j hj => hyes j (by have := List.mem_range.1 hj; omega))
    rw [ha] at hk
    simp only [Bool.true_and] at hk
    refine ⟨_, fc2 b, _, _, _, (cb.ext X2).qouts, h_contains (cb.ext X2) ((ho.ext X1).ext X2) (by omega) ⟨_, rfl, hk H2 (X1.trans X2)⟩⟩
end
end Go.Proofs.YtjpaichcaaacbaaDoor.HL
end
section
set_option linter.unusedVariables false
set_option linter.unusedSimpArgs false
set_option linter.unusedSectionVars false
set_option maxHeartbeats 4000000
namespace Go.Proofs.YtjpaichcaaacbaaDoor.HL
open Go Go.Proofs.YtjpaichcaaacbaaDoorNum Go.Proofs.YtjpaichcaaacbaaDoor.FEv Go.Proofs.YtjpaichcaaacbaaDoorW.PrintWords
theorem eq_gate (g g' : Gate) (W : World) : (Op.equalIn (9999 + 1) tGate (.agg (gv g).toArray) (.agg (gv g').toArray)).run Tryd.prog W = .ok (g.kind == g'.kind && (g.frm == g'.frm && (g.a == g'.a && (g.b == g'.b && g.k == g'.k)))) W := by
  refine eqA_of Tryd.underlying37 (by kernel_rfl) ?_
  refine eqf_cons rfl (a := .int .i64 g.kind) (b := .int .i64 g'.kind) (by kernel_rfl) (by kernel_rfl) (run_equalIn_int _ _ _ _ .i64 _ _ (by kernel_rfl)) ?_
  refine eqf_cons rfl (a := .int .i64 g.frm) (b := .int .i64 g'.frm) (by kernel_rfl) (by kernel_rfl) (run_equalIn_int _ _ _ _ .i64 _ _ (by kernel_rfl)) ?_
  refine eqf_cons rfl (a := .int .i64 g.a) (b := .int .i64 g'.a) (by kernel_rfl) (by kernel_rfl) (run_equalIn_int _ _ _ _ .i64 _ _ (by kernel_rfl)) ?_
  refine eqf_cons rfl (a := .int .i64 g.b) (b := .int .i64 g'.b) (by kernel_rfl) (by kernel_rfl) (run_equalIn_int _ _ _ _ .i64 _ _ (by kernel_rfl)) ?_
  exact eqf_last rfl (a := .int .u64 g.k) (b := .int .u64 g'.k) (by kernel_rfl) (by kernel_rfl) (run_equalIn_int _ _ _ _ .u64 _ _ (by kernel_rfl))
theorem gate_eq (g g' : Gate) : (g.kind == g'.kind && (g.frm == g'.frm && (g.a == g'.a && (g.b == g'.b && g.k == g'.k)))) = decide (g = g') := by
  obtain ⟨a, b, c, d, e⟩ := g
  obtain ⟨a', b', c', d', e'⟩ := g'
  simp only [Gate.mk.injEq, Bool.decide_and]
  rfl
theorem aq_eqg (g g' : Gate) {x y : Operand} : AQ Tryd.prog (binSem .eql tGate x y (.agg (gv g).toArray) (.agg (gv g').toArray)) (.bool (decide (g = g'))) := fun W => by
  have h1 := run_eqGuard_agg (P := Tryd.prog) (w := W) .eql tGate x y (gv g).toArray (gv g').toArray (by kernel_rfl)
  have h2 := run_eql_struct (P := Tryd.prog) (w := W) tGate (gv g).toArray (gv g').toArray
  rw [eq_gate g g' W, gate_eq] at h2
  unfold binSem
  simp [h1, h2]
end Go.Proofs.YtjpaichcaaacbaaDoor.HL
end
section
set_option linter.unusedVariables false
set_option linter.unusedSimpArgs false
set_option linter.unusedSectionVars false
set_option maxHeartbeats 4000000
namespace Go.Proofs.YtjpaichcaaacbaaDoor.HL
open Go Go.Proofs.YtjpaichcaaacbaaDoorNum Go.Proofs.YtjpaichcaaacbaaDoor.FEv
def refB (p i : Int) (g : Gate) : Bool :=
  if g.kind = 1 then decide (g = ⟨g.kind, g.frm, 0, 0, g.k⟩) && (decide (g.frm ≥ 1) && (decide (g.frm ≤ 13) && decide (g.k ≤ 1)))
  else if g.kind = 2 then decide (g = ⟨g.kind, 0, 0, 0, g.k⟩) && decide (g.k < p)
  else if g.kind = 5 then decide (g = ⟨g.kind, 0, g.a, 0, g.k⟩) && (decide (g.k < p) && (decide (g.a ≥ 0) && decide (g.a < i)))
  else if g.kind = 3 ∨ g.kind = 4 ∨ g.kind = 6 then decide (g = ⟨g.kind, 0, g.a, g.b, 0⟩) && (decide (g.a ≥ 0) && (decide (g.a < i) && (decide (g.b ≥ 0) && decide (g.b < i))))
  else false
section
variable {base : Nat} {H F : HH} {K : Value → HH → Prop} {a : Addr} {b : Nat} {g g' g'' : Gate} {p i : Int}
/-- A gate's variable of the call's own, over what stays known. -/
structure Bare (base : Nat) (F H : HH) (b : Nat) (g : Gate) : Prop where
  ext : Ext F H
  new : F b = none
  own : base ≤ b
  at_ : H b = some (.cells (gv g).toArray tGate (0, 0))
theorem Bare.gat (h : Bare base F H b g) : GAt H ⟨b, 0, none⟩ g := gat_blk h.at_
theorem h_stg (h : Bare base F H b g) {t j : Nat} {v : Value} (hz : (Tryd.prog.info? t).map (·.size) = some 1) (h1 : v.oneCell' = true) (hj : j < 5) (he : (gv g).toArray.setIfInBounds j v = (gv g').toArray) {K : Unit → HH → Prop} (hk : ∀ H', Bare base F H' b g' → K () H') : HRun Tryd.prog base (Instr.storeAt t (.pointer (some ⟨b, j, none⟩)) v) H K :=
  h_st hz h1 h.at_ h.own (by show j < (gv g).toArray.size; exact hj) (by
    rw [he]
    exact hk _ ⟨ext_new h.ext h.new, h.new, h.own, upd_self _ _ _⟩)
theorem h_bare {old : Value} {C : Addr → HH → Prop} (hk : ∀ b H', Bare base H H' b g → C ⟨b, 0, none⟩ H') :
    HRun Tryd.prog base (Instr.alloc tGate true old) H fun v H1 => ∃ a : Addr, v = .pointer (some a) ∧ HRun Tryd.prog base (Instr.storeAt tGate (.pointer (some a)) (.agg (gv g).toArray)) H1 fun _ H2 => C a H2 :=
  h_var (vs := gv g) (z := .agg (gv gate0).toArray) (by kernel_rfl) rfl infoG rfl (fun b H' he hbase hn hb => hk _ H' ⟨he, hn, hbase, hb⟩)
theorem fb (b j : Nat) (hj : j < 5) : AQ Tryd.prog (Instr.fieldAt tGate (.pointer (some ⟨b, 0, none⟩)) j) (.pointer (some ⟨b, j, none⟩)) := by
  match j, hj with
  | 0, _ => have := fg0 ⟨b, 0, none⟩; rwa [add0] at this
  | 1, _ => have := fg1 ⟨b, 0, none⟩; rwa [add0] at this
  | 2, _ => have := fg2 ⟨b, 0, none⟩; rwa [add0] at this
  | 3, _ => have := fg3 ⟨b, 0, none⟩; rwa [add0] at this
  | 4, _ => have := fg4 ⟨b, 0, none⟩; rwa [add0] at this
theorem gate_r0 (ga : GAt F a g) (hb : Bare base F H b g') (hk : K (.bool (decide (g = g') && (decide (g.a ≥ 0) && (decide (g.a < i) && (decide (g.b ≥ 0) && decide (g.b < i)))))) H) : privityref32_gate.R0 base [.int .i64 i, .pointer (some a), .pointer (some ⟨b, 0, none⟩)] H K := by
  refine privityref32_gate.cut0 ?_
  unfold privityref32_gate.T0 privityref32_gate.S0
  have g2 := ga.ext hb.ext
  refine ⟨_, _, _, _, _, g2.all, _, _, _, _, _, hb.gat.all, _, aq_eqg g g', ?_⟩
  split
  · rename_i e
    rw [e, Bool.true_and] at hk
    refine ⟨_, fg2 a, _, g2.sa, ?_⟩
    split
    · rename_i e
      rw [e, Bool.true_and] at hk
      refine ⟨_, fg2 a, _, g2.sa, ?_⟩
      split
      · rename_i e
        rw [e, Bool.true_and] at hk
        refine ⟨_, fg3 a, _, g2.sb, ?_⟩
        split
        · rename_i e
          rw [e, Bool.true_and] at hk
          exact ⟨_, fg3 a, _, g2.sb, hk⟩
        · rename_i e
          rw [Bool.not_eq_true] at e
          rwa [e] at hk
      · rename_i e
        rw [Bool.not_eq_true] at e
        rwa [e] at hk
    · rename_i e
      rw [Bool.not_eq_true] at e
      rwa [e] at hk
  · rename_i e
    rw [Bool.not_eq_true] at e
    rwa [e] at hk
theorem h_rgate (g : Gate) (p i : Int) (hk : ∀ H', Ext H H' → K (.bool (refB p i g)) H') : HCall Tryd.prog base 45 #[.int .u64 p, .int .i64 i, .agg (gv g).toArray] H K := by
  refine privityref32_gate.spec ?_
  unfold privityref32_gate.sh
  refine h_gbox (g := g) (fun a H1 X1 ga => ⟨_, rfl, _, fg0 a, _, ga.kind, _, _, _, _, _, (show AQ Tryd.prog (Instr.build tGate #[(0, .int .i64 g.kind)]) (.agg (gv ⟨g.kind, 0, 0, 0, 0⟩).toArray) from fun W => by kernel_rfl), ?_⟩)
  refine h_bare (g := ⟨g.kind, 0, 0, 0, 0⟩) (fun b H2 hb => ⟨_, fg0 a, _, (ga.ext hb.ext).kind, ?_⟩)
  have g2 := ga.ext hb.ext
  have info22' := info22
  have hfin : ∀ {H' : HH} {g' : Gate}, Bare base H1 H' b g' → K (.bool (refB p i g)) H' := fun h => hk _ (X1.trans h.ext)
  unfold refB at hfin
  by_cases k1 : g.kind = 1
  · rw [if_pos (by simpa using k1)]
    simp only [if_pos k1] at hfin
    refine ⟨_, fg1 a, _, g2.frm, _, fg4 a, _, g2.k, _, fb b 1 (by decide), ?_⟩
    refine h_stg (g' := ⟨g.kind, g.frm, 0, 0, 0⟩) hb info3 rfl (by decide) rfl (fun H3 hb => ⟨(ga.ext hb.ext).k, _, fb b 4 (by decide), ?_⟩)
    refine h_stg (g' := ⟨g.kind, g.frm, 0, 0, g.k⟩) hb info22 rfl (by decide) rfl (fun H4 hb => ?_)
    have g4 := ga.ext hb.ext
    have hf := hfin hb
    refine ⟨_, _, _, _, _, g4.all, _, _, _, _, _, hb.gat.all, _, aq_eqg _ _, ?_⟩
    split
    · rename_i e
      rw [e, Bool.true_and] at hf
      refine ⟨_, fg1 a, _, g4.frm, ?_⟩
      split
      · rename_i e
        rw [e, Bool.true_and] at hf
        refine ⟨_, fg1 a, _, g4.frm, ?_⟩
        split
        · rename_i e
          rw [e, Bool.true_and] at hf
          exact ⟨_, fg4 a, _, g4.k, hf⟩
        · rename_i e
          rw [Bool.not_eq_true] at e
          rwa [e] at hf
      · rename_i e
        rw [Bool.not_eq_true] at e
        rwa [e] at hf
    · rename_i e
      rw [Bool.not_eq_true] at e
      rwa [e] at hf
  rw [if_neg (by simpa using k1)]
  simp only [if_neg k1] at hfin
  by_cases k2 : g.kind = 2
  · rw [if_pos (by simpa using k2)]
    simp only [if_pos k2] at hfin
    refine ⟨_, fg4 a, _, g2.k, _, fb b 4 (by decide), ?_⟩
    refine h_stg (g' := ⟨g.kind, 0, 0, 0, g.k⟩) hb info22 rfl (by decide) rfl (fun H3 hb => ?_)
    have g4 := ga.ext hb.ext
    have hf := hfin hb
    refine ⟨_, _, _, _, _, g4.all, _, _, _, _, _, hb.gat.all, _, aq_eqg _ _, ?_⟩
    split
    · rename_i e
      rw [e, Bool.true_and] at hf
      exact ⟨_, fg4 a, _, g4.k, hf⟩
    · rename_i e
      rw [Bool.not_eq_true] at e
      rwa [e] at hf
  rw [if_neg (by simpa using k2)]
  simp only [if_neg k2] at hfin
  by_cases k5 : g.kind = 5
  · rw [if_pos (by simpa using k5)]
    simp only [if_pos k5] at hfin
    refine ⟨_, fg4 a, _, g2.k, _, fg2 a, _, g2.sa, _, fb b 4 (by decide), ?_⟩
    refine h_stg (g' := ⟨g.kind, 0, 0, 0, g.k⟩) hb info22 rfl (by decide) rfl (fun H3 hb => ⟨(ga.ext hb.ext).sa, _, fb b 2 (by decide), ?_⟩)
    refine h_stg (g' := ⟨g.kind, 0, g.a, 0, g.k⟩) hb info3 rfl (by decide) rfl (fun H4 hb => ?_)
    have g4 := ga.ext hb.ext
    have hf := hfin hb
    refine ⟨_, _, _, _, _, g4.all, _, _, _, _, _, hb.gat.all, _, aq_eqg _ _, ?_⟩
    split
    · rename_i e
      rw [e, Bool.true_and] at hf
      refine ⟨_, fg4 a, _, g4.k, ?_⟩
      split
      · rename_i e
        rw [e, Bool.true_and] at hf
        refine ⟨_, fg2 a, _, g4.sa, ?_⟩
        split
        · rename_i e
          rw [e, Bool.true_and] at hf
          exact ⟨_, fg2 a, _, g4.sa, hf⟩
        · rename_i e
          rw [Bool.not_eq_true] at e
          rwa [e] at hf
      · rename_i e
        rw [Bool.not_eq_true] at e
        rwa [e] at hf
    · rename_i e
      rw [Bool.not_eq_true] at e
      rwa [e] at hf
  rw [if_neg (by simpa using k5)]
  simp only [if_neg k5] at hfin
  have two : (g.kind = 3 ∨ g.kind = 4 ∨ g.kind = 6) → ∃ a88 : Addr, AQ Tryd.prog (Instr.fieldAt tGate (.pointer (some a)) 2) (.pointer (some a88)) ∧ ∃ n85 : Int, QRun Tryd.prog (Instr.loadAt 3 (.pointer (some a88))) H2 (.int .i64 n85) ∧ ∃ a86 : Addr, AQ Tryd.prog (Instr.fieldAt tGate (.pointer (some a)) 3) (.pointer (some a86)) ∧ ∃ n87 : Int, QRun Tryd.prog (Instr.loadAt 3 (.pointer (some a86))) H2 (.int .i64 n87) ∧
      ∃ a90 : Addr, AQ Tryd.prog (Instr.fieldAt tGate (.pointer (some ⟨b, 0, none⟩)) 2) (.pointer (some a90)) ∧ HRun Tryd.prog base (Instr.storeAt 3 (.pointer (some a90)) (.int .i64 n85)) H2 fun _ H89 => QRun Tryd.prog (Instr.loadAt 3 (.pointer (some a86))) H89 (.int .i64 n87) ∧ ∃ a91 : Addr, AQ Tryd.prog (Instr.fieldAt tGate (.pointer (some ⟨b, 0, none⟩)) 3) (.pointer (some a91)) ∧ HRun Tryd.prog base (Instr.storeAt 3 (.pointer (some a91)) (.int .i64 n87)) H89 fun _ H91 => privityref32_gate.R0 base [.int .i64 i, .pointer (some a), .pointer (some ⟨b, 0, none⟩)] H91 K := fun k3 => by
    refine ⟨_, fg2 a, _, g2.sa, _, fg3 a, _, g2.sb, _, fb b 2 (by decide), ?_⟩
    refine h_stg (g' := ⟨g.kind, 0, g.a, 0, 0⟩) hb info3 rfl (by decide) rfl (fun H3 hb => ⟨(ga.ext hb.ext).sb, _, fb b 3 (by decide), ?_⟩)
    refine h_stg (g' := ⟨g.kind, 0, g.a, g.b, 0⟩) hb info3 rfl (by decide) rfl (fun H4 hb => ?_)
    have hf := hfin hb
    rw [if_pos k3] at hf
    exact gate_r0 ga hb hf
  by_cases k3 : g.kind = 3
  · rw [if_pos (by simpa using k3), if_pos (by simpa using k3)]
    exact two (.inl k3)
  rw [if_neg (by simpa using k3)]
  by_cases k4 : g.kind = 4
  · rw [if_pos (by simpa using k4), if_pos (by simpa using k4)]
    exact two (.inr (.inl k4))
  rw [if_neg (by simpa using k4)]
  by_cases k6 : g.kind = 6
  · rw [if_pos (by simpa using k6)]
    exact two (.inr (.inr k6))
  rw [if_neg (by simpa using k6)]
  have hf := hfin hb
  rwa [if_neg (by omega)] at hf
end
end Go.Proofs.YtjpaichcaaacbaaDoor.HL
end
section
set_option linter.unusedVariables false
set_option linter.unusedSimpArgs false
set_option linter.unusedSectionVars false
set_option maxHeartbeats 4000000
namespace Go.Proofs.YtjpaichcaaacbaaDoor.HL
open Go Go.Proofs.YtjpaichcaaacbaaDoorNum Go.Proofs.YtjpaichcaaacbaaDoor.FEv
theorem right_ref {p i : Int} {g : Gate} (h0 : 0 ≤ g.k) : rightB p g i = refB p i g := by
  obtain ⟨kind, frm, a, b, k⟩ := g
  simp only at h0
  unfold rightB refB
  by_cases k1 : kind = 1
  · subst k1
    by_cases hk : k = 1
    · subst hk
      have e : ofS ⟨1, frm, a, b, 1⟩ = some ⟨⟨#[98, 105, 116]⟩, 1, true, false, false, false, true⟩ := rfl
      rw [e, Bool.eq_iff_iff]
      simp [fromB, kB, sideB]
      omega
    · have e : ofS ⟨1, frm, a, b, k⟩ = some ⟨⟨#[105, 110]⟩, 1, true, false, false, false, false⟩ := by
        have hkf : (k == 1) = false := by simpa using hk
        simp [ofS, formL, matchB, List.find?, hkf]
      rw [e, Bool.eq_iff_iff]
      simp [fromB, kB, sideB]
      omega
  by_cases k2 : kind = 2
  · subst k2
    have e : ofS ⟨2, frm, a, b, k⟩ = some ⟨⟨#[99, 111, 110, 115, 116]⟩, 2, false, true, false, false, false⟩ := rfl
    rw [e, Bool.eq_iff_iff]
    simp [fromB, kB, sideB]
    omega
  by_cases k5 : kind = 5
  · subst k5
    have e : ofS ⟨5, frm, a, b, k⟩ = some ⟨⟨#[115, 99, 97, 108, 101]⟩, 5, false, true, true, false, false⟩ := rfl
    rw [e, Bool.eq_iff_iff]
    simp [fromB, kB, sideB]
    omega
  by_cases k3 : kind = 3
  · subst k3
    have e : ofS ⟨3, frm, a, b, k⟩ = some ⟨⟨#[97, 100, 100]⟩, 3, false, false, true, true, false⟩ := rfl
    rw [e, Bool.eq_iff_iff]
    simp [fromB, kB, sideB]
    omega
  by_cases k4 : kind = 4
  · subst k4
    have e : ofS ⟨4, frm, a, b, k⟩ = some ⟨⟨#[115, 117, 98]⟩, 4, false, false, true, true, false⟩ := rfl
    rw [e, Bool.eq_iff_iff]
    simp [fromB, kB, sideB]
    omega
  by_cases k6 : kind = 6
  · subst k6
    have e : ofS ⟨6, frm, a, b, k⟩ = some ⟨⟨#[109, 117, 108]⟩, 6, false, false, true, true, false⟩ := rfl
    rw [e, Bool.eq_iff_iff]
    simp [fromB, kB, sideB]
    omega
  have e : ofS ⟨kind, frm, a, b, k⟩ = none := by
    unfold ofS
    refine List.find?_eq_none.2 (fun f hf => ?_)
    simp only [formL, List.mem_cons, List.not_mem_nil, or_false] at hf
    rcases hf with rfl | rfl | rfl | rfl | rfl | rfl | rfl <;> simp [matchB] <;> omega
  rw [e]
  simp [k1, k2, k3, k4, k5, k6]
section
variable {base : Nat} {H : HH} {K : Value → HH → Prop} {A A' : Option Addr} {n n' c c' b : Nat} {p : Int} {gs : List Gate} {outs : List Int}
theorem h_rvalid (hg : Gs H A n gs) (ho : Outs H A' n' outs) (hnn : ∀ g ∈ gs, 0 ≤ g.k) (hk : ∀ H', Ext H H' → K (.bool (validB p gs outs)) H') : HCall Tryd.prog base 25 #[.agg #[.int .u64 p, .slice A n c, .slice A' n' c']] H K := by
  refine privityref32_Valid.spec ?_
  unfold privityref32_Valid.sh
  obtain rfl := hg.1
  obtain rfl := ho.1
  refine h_cbox (fun b H1 X1 cb => ⟨_, rfl, _, fc0 b, _, cb.qp, h_sup p ⟨_, rfl, ?_⟩⟩)
  unfold validB at hk
  split
  rotate_left
  · rename_i e
    have e : supB p = false := by simpa using e
    have := hk H1 X1
    rwa [e, Bool.false_and] at this
  rename_i e
  rw [show supB p = true by simpa using e] at hk
  simp only [Bool.true_and] at hk
  refine ⟨_, fc1 b, _, _, _, cb.qgs, ?_⟩
  split
  rotate_left
  · rename_i e
    have e : ¬ gs.length ≤ 20000 := by
      intro h
      exact e (decide_eq_false (by omega))
    have := hk H1 X1
    rwa [decide_eq_false e, Bool.false_and] at this
  rename_i e
  have e := of_decide_eq_false e
  rw [decide_eq_true (show gs.length ≤ 20000 by omega)] at hk
  simp only [Bool.true_and] at hk
  refine ⟨_, fc2 b, _, _, _, cb.qouts, ?_⟩
  split
  · rename_i e
    have e := of_decide_eq_true e
    have := hk H1 X1
    rwa [decide_eq_false (show ¬ outs.length ≤ 1000 by omega), Bool.false_and] at this
  rename_i e1
  have e1 : ¬ ((outs.length : Int) > 1000) := fun h => e1 (decide_eq_true h)
  rw [decide_eq_true (show outs.length ≤ 1000 by omega)] at hk
  simp only [Bool.true_and] at hk
  have gnn : ∀ i, i < gs.length → 0 ≤ (gs.getD i gate0).k := fun i hi => by
    have : gs.getD i gate0 = gs[i] := by simp [hi]
    rw [this]; exact hnn _ (List.getElem_mem _)
  refine privityref32_Valid.loop0 (fun r y H' => ∃ i : Nat, y = i ∧ i ≤ gs.length ∧ r = gs.length - i ∧ Ext H1 H' ∧ ∀ j, j < i → rightB p (gs.getD j gate0) j = true) gs.length ⟨0, rfl, Nat.zero_le _, rfl, .refl _, fun j hj => by omega⟩ ?_
  rintro r y fr H2 ⟨i, rfl, hi, rfl, X2, hyes⟩
  unfold privityref32_Valid.B0
  have cb2 := cb.ext X2
  refine ⟨_, fc1 b, _, _, _, cb2.qgs, ?_⟩
  split
  · rename_i e2
    have e2 := of_decide_eq_true e2
    obtain ⟨a, q1, q2⟩ := ((hg.ext X1).ext X2).at c (i := i) (by omega)
    refine ⟨_, fc0 b, _, cb2.qp, _, fc1 b, _, _, _, cb2.qgs, a, q1, _, _, _, _, _, q2.all, h_rgate _ p i (fun H4 X4 => ⟨_, rfl, ?_⟩)⟩
    rw [← right_ref (gnn i (by omega))]
    split
    · rename_i er
      have er : rightB p (gs.getD i gate0) i = false := by simpa using er
      have := hk H4 (X1.trans (X2.trans X4))
      have ha : (List.range gs.length).all (fun i => rightB p (gs.getD i gate0) i) = false := List.all_eq_false.2 ⟨i, List.mem_range.2 (by omega), by simp only [er]; decide⟩
      rwa [ha, Bool.false_and] at this
    · rename_i er
      have er : rightB p (gs.getD i gate0) i = true := by simpa using er
      exact ⟨gs.length - i - 1, by omega, _, rfl, i + 1, nxt (n := 1000000) (by omega) (by decide), by omega, by omega, X2.trans X4, fun j hj => by
        by_cases h : j = i
        · rw [h]; exact er
        · exact hyes j (by omega)⟩
  · rename_i e2
    have e2 : ¬ ((i : Int) < (gs.length : Int)) := fun h => e2 (decide_eq_true h)
    have ha : (List.range gs.length).all (fun i => rightB p (gs.getD i gate0) i) = true := List.all_eq_true.2 (fun j hj => hyes j (by have := List.mem_range.1 hj; omega))
    rw [ha] at hk
    simp only [Bool.true_and] at hk
    have hk := hk H2 (X1.trans X2)
    have ho2 := (ho.ext X1).ext X2
    refine privityref32_Valid.loop1 (fun r y H' => H' = H2 ∧ ∃ i : Nat, y = i ∧ i ≤ outs.length ∧ r = outs.length - i ∧ ∀ j, j < i → badO gs (outs.getD j 0) = false) outs.length ⟨rfl, 0, rfl, Nat.zero_le _, rfl, fun j hj => by omega⟩ ?_
    rintro r y fr H3 ⟨rfl, i, rfl, hi, rfl, hno⟩
    unfold privityref32_Valid.B1
    refine ⟨_, fc2 b, _, _, _, cb2.qouts, ?_⟩
    have yes : ∀ x, x = outs.getD i 0 → i < outs.length → badO gs x = true → outs.any (badO gs) = true := fun x hx hi hb => List.any_eq_true.2 ⟨outs.getD i 0, by
      have : outs.getD i 0 = outs[i] := by simp [hi]
      rw [this]; exact List.getElem_mem _, by rw [← hx]; exact hb⟩
    split
    · rename_i e3
      have e3 := of_decide_eq_true e3
      obtain ⟨a, q1, q2⟩ := ho2.at c' (i := i) (by omega)
      refine ⟨_, fc2 b, _, _, _, cb2.qouts, a, q1, _, q2, ?_⟩
      split
      · rename_i e4
        refine ⟨_, fc2 b, _, _, _, cb2.qouts, a, q1, _, q2, _, fc1 b, _, _, _, cb2.qgs, ?_⟩
        split
        · rename_i e5
          rw [yes _ rfl (by omega) (by unfold badO; rw [e4, e5]; rfl)] at hk
          exact hk
        · rename_i e5
          have e5 : decide (outs.getD i 0 ≥ (gs.length : Int)) = false := by simpa using e5
          exact ⟨outs.length - i - 1, by omega, _, rfl, rfl, i + 1, nxt (n := 1000000) (by omega) (by decide), by omega, by omega, fun j hj => by
            by_cases h : j = i
            · rw [h]; unfold badO; rw [e4, e5]; rfl
            · exact hno j (by omega)⟩
      · rename_i e4
        have e4 : decide (outs.getD i 0 < 0) = true := by simpa using e4
        rw [yes _ rfl (by omega) (by unfold badO; rw [e4]; rfl)] at hk
        exact hk
    · rename_i e3
      have e3 : ¬ ((i : Int) < (outs.length : Int)) := fun h => e3 (decide_eq_true h)
      have : outs.any (badO gs) = false := by
        refine List.any_eq_false.2 (fun x hx => ?_)
        obtain ⟨j, hj, rfl⟩ := List.getElem_of_mem hx
        have h1 := hno j (by omega)
        have : outs.getD j 0 = outs[j] := by simp [hj]
        rw [this] at h1
        simp [h1]
      rw [this] at hk
      exact hk
end
end Go.Proofs.YtjpaichcaaacbaaDoor.HL
end
section
set_option linter.unusedVariables false
set_option linter.unusedSimpArgs false
set_option linter.unusedSectionVars false
set_option maxHeartbeats 4000000
namespace Go.Proofs.YtjpaichcaaacbaaDoor.HL
open Go Go.Proofs.YtjpaichcaaacbaaDoorNum Go.Proofs.YtjpaichcaaacbaaDoor.FEv
/-- A gate that reads the inputs of a party. -/
def isIn (party : Int) (g : Gate) : Bool := g.kind == 1 && g.frm == party
/-- How many of the first k gates read a party's inputs. -/
def cnt (gs : List Gate) (k : Nat) (party : Int) : Nat := ((gs.take k).filter (isIn party)).length
section
end
end Go.Proofs.YtjpaichcaaacbaaDoor.HL
end
namespace Go.Proofs.YtjpaichcaaacbaaDoor.HL
end Go.Proofs.YtjpaichcaaacbaaDoor.HL
namespace Go.Proofs.YtjpaichcaaacbaaDoor.HL
end Go.Proofs.YtjpaichcaaacbaaDoor.HL
section
set_option linter.unusedVariables false
set_option linter.unusedSimpArgs false
set_option linter.unusedSectionVars false
set_option maxHeartbeats 2000000
namespace Go.Proofs.YtjpaichcaaacbaaDoor.HL
open Go Go.Proofs.YtjpaichcaaacbaaDoorNum Go.Proofs.YtjpaichcaaacbaaDoor.FEv
section
variable {gs : List Gate} {l : List Int} {party : Int} {ins : List (List Int)} {P : Int}
def isBit (party : Int) (g : Gate) : Bool := isIn party g && g.k == 1
def badR (gs : List Gate) (l : List Int) (party : Int) (i : Nat) : Bool := (List.range i).any fun t => isBit party (gs.getD t gate0) && decide (l.getD (cnt gs t party) 0 > 1)
def effR (gs : List Gate) (l : List Int) (party : Int) : List Int := if badR gs l party gs.length = true then List.replicate l.length 0 else l
def effL (gs : List Gate) (ins : List (List Int)) : List (List Int) := (List.range ins.length).map fun j => effR gs (ins.getD j []) ((j : Int) + 1)
structure GOK (P : Int) (i : Nat) (g : Gate) : Prop where
  kinds : g.kind = 1 ∨ g.kind = 2 ∨ g.kind = 3 ∨ g.kind = 4 ∨ g.kind = 5 ∨ g.kind = 6
  inp : g.kind = 1 → 1 ≤ g.frm ∧ g.frm ≤ 13 ∧ g.k ≤ 1
  con : g.kind = 2 → g.k < P
  sc : g.kind = 5 → g.k < P ∧ 0 ≤ g.a ∧ g.a < i
  two : (g.kind = 3 ∨ g.kind = 4 ∨ g.kind = 6) → 0 ≤ g.a ∧ g.a < i ∧ 0 ≤ g.b ∧ g.b < i
theorem gok_of {i : Nat} {g : Gate} (h : refB P i g = true) : GOK P i g := by
  unfold refB at h
  by_cases k1 : g.kind = 1
  · rw [if_pos k1] at h
    simp only [Bool.and_eq_true, decide_eq_true_eq] at h
    exact ⟨by omega, fun _ => ⟨h.2.1, h.2.2.1, h.2.2.2⟩, by omega, by omega, by omega⟩
  rw [if_neg k1] at h
  by_cases k2 : g.kind = 2
  · rw [if_pos k2] at h
    simp only [Bool.and_eq_true, decide_eq_true_eq] at h
    exact ⟨by omega, by omega, fun _ => h.2, by omega, by omega⟩
  rw [if_neg k2] at h
  by_cases k5 : g.kind = 5
  · rw [if_pos k5] at h
    simp only [Bool.and_eq_true, decide_eq_true_eq] at h
    exact ⟨by omega, by omega, by omega, fun _ => ⟨h.2.1, h.2.2.1, h.2.2.2⟩, by omega⟩
  rw [if_neg k5] at h
  by_cases k3 : g.kind = 3 ∨ g.kind = 4 ∨ g.kind = 6
  · rw [if_pos k3] at h
    simp only [Bool.and_eq_true, decide_eq_true_eq] at h
    exact ⟨by omega, by omega, by omega, by omega, fun _ => ⟨h.2.1, h.2.2.1, h.2.2.2.1, h.2.2.2.2⟩⟩
  rw [if_neg k3] at h
  cases h
structure VOK (P : Int) (gs : List Gate) (outs : List Int) : Prop where
  sup : supB P = true
  len : gs.length ≤ 20000
  olen : outs.length ≤ 1000
  gate : ∀ i, i < gs.length → rightB P (gs.getD i gate0) i = true
  outs : ∀ x ∈ outs, 0 ≤ x ∧ x < gs.length
theorem validB_iff {outs : List Int} : validB P gs outs = true ↔ VOK P gs outs := by
  unfold validB
  simp only [Bool.and_eq_true, decide_eq_true_eq, List.all_eq_true, List.mem_range, Bool.not_eq_true', List.any_eq_false]
  constructor
  · rintro ⟨h1, h2, h3, h4, h5⟩
    refine ⟨h1, h2, h3, h4, fun x hx => ?_⟩
    have := h5 x hx
    unfold badO at this
    rw [Bool.or_eq_true, decide_eq_true_eq, decide_eq_true_eq] at this
    omega
  · rintro ⟨h1, h2, h3, h4, h5⟩
    refine ⟨h1, h2, h3, h4, fun x hx => ?_⟩
    have := h5 x hx
    unfold badO
    rw [Bool.or_eq_true, decide_eq_true_eq, decide_eq_true_eq]
    omega
theorem nn_get (hnn : ∀ g ∈ gs, 0 ≤ g.k) (i : Nat) : 0 ≤ (gs.getD i gate0).k := by
  rw [List.getD_eq_getElem?_getD]
  cases e : gs[i]? with
  | none => exact Int.le_refl _
  | some g => exact hnn g (List.mem_of_getElem? e)
theorem VOK.gok {outs : List Int} (h : VOK P gs outs) (hnn : ∀ g ∈ gs, 0 ≤ g.k) {i : Nat} (hi : i < gs.length) : GOK P i (gs.getD i gate0) := by
  have := h.gate i hi
  rw [right_ref (nn_get hnn i)] at this
  exact gok_of this
end
section
variable {p : Nat} [NeZero p] {gs gs' : List Gate} {w w' : List (List (Fin p))} {ins : List (List Int)}
/-- The inputs that count, as elements. -/
def ef (p : Nat) [NeZero p] (gs : List Gate) (ins : List (List Int)) : List (List (Fin p)) := (effL gs ins).map fun l => l.map E
end
end Go.Proofs.YtjpaichcaaacbaaDoor.HL
end
namespace Go.Proofs.YtjpaichcaaacbaaDoor.HL
end Go.Proofs.YtjpaichcaaacbaaDoor.HL
section
set_option linter.unusedVariables false
set_option linter.unusedSimpArgs false
set_option linter.unusedSectionVars false
set_option maxHeartbeats 4000000
namespace Go.Proofs.YtjpaichcaaacbaaDoor.HL
open Go Go.Proofs.YtjpaichcaaacbaaDoorNum Go.Proofs.YtjpaichcaaacbaaDoor.FEv
abbrev tKn : Nat := 57
section
variable {base : Nat} {H : HH} {K : Value → HH → Prop} {Av Aw : Option Addr} {nv cv nw cw b : Nat} {P : Int}
/-- What lies in the box of what is known. -/
def KB (H : HH) (b : Nat) (P : Int) (Av : Option Addr) (nv cv : Nat) (Aw : Option Addr) (nw cw : Nat) : Prop := H b = some (.cells #[.int .u64 P, .slice Av nv cv, .slice Aw nw cw] tKn (0, 0))
theorem KB.ext {H' : HH} (h : KB H b P Av nv cv Aw nw cw) (he : Ext H H') : KB H' b P Av nv cv Aw nw cw := he _ _ h
theorem KB.qp (h : KB H b P Av nv cv Aw nw cw) : QRun Tryd.prog (Instr.loadAt 22 (.pointer (some ⟨b, 0, none⟩))) H (.int .u64 P) := q_ld sc22 (by rw [cellH_blk h]; rfl)
end
section
end
end Go.Proofs.YtjpaichcaaacbaaDoor.HL
end
section
set_option linter.unusedVariables false
set_option linter.unusedSimpArgs false
set_option linter.unusedSectionVars false
set_option maxHeartbeats 4000000
namespace Go.Proofs.YtjpaichcaaacbaaDoor.HL
open Go Go.Proofs.YtjpaichcaaacbaaDoorNum Go.Proofs.YtjpaichcaaacbaaDoor.FEv
theorem QRun.up {α : Type} {P : Program} {s : Sem α} {H H' : HH} {v : α} (h : QRun P s H v) (X : Ext H H') : QRun P s H' v := fun W hs => h W (fun k o hk => hs k o (X k o hk))
theorem Own.sameC {base T sz n b : Nat} {H H' : HH} {v : Value} {xs : List Value} (h : Own base H T sz v n xs) (hb : v.ownBlock ≠ some b) (he : ∀ k, k ≠ b → H' k = H k) : Own base H' T sz v n xs :=
  h.move (fun g o hg hx => by rw [he g (fun e => hb (by rw [hg, e]))]; exact hx)
/-- Rows of words, each with room for its words. -/
def MatC (H : HH) (A : Option Addr) (n : Nat) (m : List (List Int)) : Prop := n = m.length ∧ ∃ rs : List Value, rs.length = m.length ∧ Rd H A rs ∧ ∀ (i : Nat) (l : List Int), m[i]? = some l → ∃ A' c, rs[i]? = some (.slice A' l.length c) ∧ l.length ≤ c ∧ Rd H A' (us l)
section
variable {H H' : HH} {A : Option Addr} {n : Nat} {m : List (List Int)}
theorem MatC.ext (h : MatC H A n m) (he : Ext H H') : MatC H' A n m := by
  obtain ⟨h1, rs, h2, h3, h4⟩ := h
  exact ⟨h1, rs, h2, h3.ext he, fun i l hl => by obtain ⟨A', c, h5, h6, h7⟩ := h4 i l hl; exact ⟨A', c, h5, h6, h7.ext he⟩⟩
theorem MatC.at {i : Nat} (h : MatC H A n m) (c : Nat) (h1 : i < n) : ∃ a, AQ Tryd.prog (Instr.indexAt 27 (.slice A n c) (.int .i64 i)) (.pointer (some a)) ∧ ∃ A' c', QRun Tryd.prog (Instr.loadAt 30 (.pointer (some a))) H (.slice A' (m.getD i []).length c') ∧ Row H A' (m.getD i []).length (m.getD i []) ∧ (m.getD i []).length ≤ c' := by
  obtain ⟨e, rs, h2, h3, h4⟩ := h
  have hi : i < m.length := by omega
  obtain ⟨A', c', h5, h7, h6⟩ := h4 i (m.getD i []) (by simp [hi])
  obtain ⟨ad, rfl, hc⟩ := h3.at h5
  exact ⟨_, aq_ix un23 info32 (by omega) (by omega), A', c', q_ld sc32 (by rw [Int.toNat_natCast, Nat.mul_one]; exact hc), ⟨rfl, h6⟩, h7⟩
theorem MatC.nil : MatC H none 0 [] := ⟨rfl, [], rfl, .inl rfl, fun i l h => by simp at h⟩
end
/-- Rows of the call's own, what they hold frozen in F. -/
def OwnMC (base : Nat) (F H : HH) (v : Value) (n : Nat) (m : List (List Int)) : Prop :=
  ∃ rs : List Value, Own base H 30 1 v n rs ∧ Frz F H v ∧ rs.length = m.length ∧ ∀ (i : Nat) (l : List Int), m[i]? = some l → ∃ A' c, rs[i]? = some (.slice A' l.length c) ∧ l.length ≤ c ∧ Rd F A' (us l)
section
variable {base : Nat} {H F H' F' : HH} {A : Option Addr} {n c : Nat} {m : List (List Int)} {v : Value}
theorem OwnMC.nil (base : Nat) (H : HH) : OwnMC base H H (.slice none 0 0) 0 [] := ⟨[], Own.nil _ _ _ _, Frz.nil _, rfl, fun i l h => by simp at h⟩
theorem OwnMC.froze (h : OwnMC base F H v n m) (he : Ext F F') (hf : Frz F' H v) : OwnMC base F' H v n m := by
  obtain ⟨rs, h1, h2, h3, h4⟩ := h
  exact ⟨rs, h1, hf, h3, fun i l hl => by obtain ⟨A1, c1, h6, h7, h8⟩ := h4 i l hl; exact ⟨A1, c1, h6, h7, h8.ext he⟩⟩
theorem OwnMC.more (h : OwnMC base F H v n m) (he : Ext H H') : OwnMC base F H' v n m := by
  obtain ⟨rs, h1, h2, h3, h4⟩ := h
  exact ⟨rs, h1.ext he, h2.more he, h3, h4⟩
theorem OwnMC.known (h : OwnMC base F H v n m) {b : Nat} (hb : v.ownBlock = some b) : ∃ cur, H b = some (.cells cur 30 (0, 0)) := by
  obtain ⟨rs, h1, h2, h3, h4⟩ := h
  exact (h1.known hb).2
theorem OwnMC.frz (h : OwnMC base F H v n m) : Frz F H v := h.elim fun _ h => h.2.1
/-- Whatever keeps its block keeps it. -/
theorem OwnMC.keep (h : OwnMC base F H v n m) (hk : ∀ b o, v.ownBlock = some b → H b = some o → H' b = some o) (hF : Ext F H') : OwnMC base F H' v n m := by
  obtain ⟨rs, h1, h2, h3, h4⟩ := h
  exact ⟨rs, h1.move hk, ⟨hF, h2.off⟩, h3, h4⟩
end
abbrev tBools : Nat := 62
theorem unBools : Tryd.prog.underlying tBools = some (.slice 4) := by kernel_rfl
theorem infoBo : (Tryd.prog.info? 4).map (·.size) = some 1 := by kernel_rfl
theorem infBo : (Tryd.prog.info? 4).map (fun i => (i.zero, i.size, i.bytes)) = some (some (.bool false), 1, 1) := by kernel_rfl
theorem unIn : Tryd.prog.underlying 24 = some (.slice 3) := by kernel_rfl
/-- m numbers in the block g. -/
def NB (base : Nat) (H : HH) (g m : Nat) (f : Nat → Nat) : Prop := Own base H 3 1 (.slice (some ⟨g, 0, none⟩) m m) m (ns ((List.range m).map f))
def BB (base : Nat) (H : HH) (g m : Nat) (f : Nat → Bool) : Prop := Own base H 4 1 (.slice (some ⟨g, 0, none⟩) m m) m ((List.range m).map fun j => Value.bool (f j))
section
variable {base : Nat} {H H' F : HH} {g g' m j : Nat} {f : Nat → Nat} {b : Nat → Bool} {K : Unit → HH → Prop}
theorem ownB (g m c : Nat) : (Value.slice (some ⟨g, 0, none⟩) m c).ownBlock = some g := by simp [Value.ownBlock]
theorem BB.blk (h : BB base H g m b) : base ≤ g ∧ ∃ cur, H g = some (.cells cur 4 (0, 0)) := h.known (ownB _ _ _)
theorem NB.ext (h : NB base H g m f) (he : Ext H H') : NB base H' g m f := Own.ext h he
theorem BB.ext (h : BB base H g m b) (he : Ext H H') : BB base H' g m b := Own.ext h he
theorem NB.same (h : NB base H g m f) (hn : g ≠ g') (he : ∀ k, k ≠ g' → H' k = H k) : NB base H' g m f := Own.sameC h (by rw [ownB]; simpa using hn) he
theorem BB.same (h : BB base H g m b) (hn : g ≠ g') (he : ∀ k, k ≠ g' → H' k = H k) : BB base H' g m b := Own.sameC h (by rw [ownB]; simpa using hn) he
theorem NB.at (h : NB base H g m f) (hj : j < m) : AQ Tryd.prog (Instr.indexAt 24 (.slice (some ⟨g, 0, none⟩) m m) (.int .i64 j)) (.pointer (some ⟨g, j, none⟩)) ∧ QRun Tryd.prog (Instr.loadAt 3 (.pointer (some ⟨g, j, none⟩))) H (.int .i64 ((f j : Nat) : Int)) := by
  obtain ⟨g1, cur, e1, _, hc, _, hg⟩ := Own.at h hj
  cases e1
  refine ⟨aq_own unIn info3 hj, q_ld sc3 ?_⟩
  rw [cellH_blk hc]
  refine hg j _ ?_
  unfold ns
  rw [List.getElem?_map, List.getElem?_map, List.getElem?_range hj]; rfl
theorem BB.at (h : BB base H g m b) (hj : j < m) : AQ Tryd.prog (Instr.indexAt tBools (.slice (some ⟨g, 0, none⟩) m m) (.int .i64 j)) (.pointer (some ⟨g, j, none⟩)) ∧ QRun Tryd.prog (Instr.loadAt 4 (.pointer (some ⟨g, j, none⟩))) H (.bool (b j)) := by
  obtain ⟨g1, cur, e1, _, hc, _, hg⟩ := Own.at h hj
  cases e1
  refine ⟨aq_own unBools infoBo hj, q_ld scBo ?_⟩
  rw [cellH_blk hc]
  refine hg j _ ?_
  rw [List.getElem?_map, List.getElem?_range hj]; rfl
theorem NB.put (h : NB base H g m f) (hj : j < m) (x : Nat) {f' : Nat → Nat} (hx : f' j = x) (ho : ∀ k, k < m → k ≠ j → f' k = f k) (hk : ∀ H', NB base H' g m f' → (∀ k, k ≠ g → H' k = H k) → K () H') : HRun Tryd.prog base (Instr.storeAt 3 (.pointer (some ⟨g, j, none⟩)) (.int .i64 ((x : Nat) : Int))) H K := by
  obtain ⟨g1, cur, e1, h2, hc, h4, hg⟩ := Own.at h hj
  cases e1
  refine h_st info3 rfl hc h2 h4 (hk _ ?_ (fun k hk => upd_ne _ hk))
  have := Own.put h (ownB _ _ _) hc j (.int .i64 ((x : Nat) : Int))
  have e : (ns ((List.range m).map f)).set j (.int .i64 ((x : Nat) : Int)) = ns ((List.range m).map f') := by
    unfold ns
    rw [List.map_map, List.map_map]
    exact set_range _ _ hj _ (by show Value.int .i64 ((f' j : Nat) : Int) = _; rw [hx]) (fun k hk hne => by show Value.int .i64 ((f' k : Nat) : Int) = Value.int .i64 ((f k : Nat) : Int); rw [ho k hk hne])
  unfold NB
  rwa [e] at this
theorem BB.put (h : BB base H g m b) (hj : j < m) (x : Bool) {b' : Nat → Bool} (hx : b' j = x) (ho : ∀ k, k < m → k ≠ j → b' k = b k) (hk : ∀ H', BB base H' g m b' → (∀ k, k ≠ g → H' k = H k) → K () H') : HRun Tryd.prog base (Instr.storeAt 4 (.pointer (some ⟨g, j, none⟩)) (.bool x)) H K := by
  obtain ⟨g1, cur, e1, h2, hc, h4, hg⟩ := Own.at h hj
  cases e1
  refine h_st infoBo rfl hc h2 h4 (hk _ ?_ (fun k hk => upd_ne _ hk))
  have := Own.put h (ownB _ _ _) hc j (.bool x)
  have e : ((List.range m).map fun j => Value.bool (b j)).set j (.bool x) = (List.range m).map fun j => Value.bool (b' j) :=
    set_range _ _ hj _ (by rw [hx]) (fun k hk hne => by rw [ho k hk hne])
  unfold BB
  rwa [e] at this
theorem NB.congr (h : NB base H g m f) {f' : Nat → Nat} (e : ∀ k, k < m → f' k = f k) : NB base H g m f' := by
  unfold NB at h ⊢
  have : (List.range m).map f' = (List.range m).map f := List.map_congr_left (fun k hk => e k (List.mem_range.1 hk))
  rwa [this]
theorem BB.congr (h : BB base H g m b) {b' : Nat → Bool} (e : ∀ k, k < m → b' k = b k) : BB base H g m b' := by
  unfold BB at h ⊢
  have : ((List.range m).map fun j => Value.bool (b' j)) = (List.range m).map fun j => Value.bool (b j) := List.map_congr_left (fun k hk => by rw [e k (List.mem_range.1 hk)])
  rwa [this]
theorem h_mkN {q : Nat} (hq : q ≤ 1000000) {k1 k2 : IntKind} {K : Value → HH → Prop} (h : ∀ g H', base ≤ g → NB base H' g q (fun _ => 0) → Ext H H' → H g = none → K (.slice (some ⟨g, 0, none⟩) q q) H') :
    HRun Tryd.prog base (Instr.makeSlice 24 (.int k1 q) (.int k2 q)) H K := by
  refine h_make unIn inf3 (by omega) (by omega) (by omega) (fun gb hgb hbase => ?_)
  rw [Int.toNat_natCast, Nat.mul_one, show (Value.int IntKind.i64 0).cells = #[.int .i64 0] from rfl, made1]
  refine h gb _ hbase ?_ (Ext.upd hgb _) hgb
  have := Own.lit (H := H) (T := 3) (sz := 1) hbase (Array.replicate q (.int .i64 0)) q (by unfold maxLen; omega) (by simp)
  unfold NB
  have e : (Array.replicate q (Value.int .i64 0)).toList = ns ((List.range q).map fun _ => 0) := by
    rw [Array.toList_replicate]
    unfold ns
    rw [List.map_map]
    apply List.ext_getElem?
    intro i
    rw [List.getElem?_replicate, List.getElem?_map]
    by_cases hi : i < q
    · rw [if_pos hi, List.getElem?_range hi]; rfl
    · rw [if_neg hi, List.getElem?_eq_none (by simpa using hi)]; rfl
  rwa [e] at this
theorem h_mkB {q : Nat} (hq : q ≤ 1000000) {k1 k2 : IntKind} {K : Value → HH → Prop} (h : ∀ g H', base ≤ g → BB base H' g q (fun _ => false) → Ext H H' → H g = none → K (.slice (some ⟨g, 0, none⟩) q q) H') :
    HRun Tryd.prog base (Instr.makeSlice tBools (.int k1 q) (.int k2 q)) H K := by
  refine h_make unBools infBo (by omega) (by omega) (by omega) (fun gb hgb hbase => ?_)
  rw [Int.toNat_natCast, Nat.mul_one, show (Value.bool false).cells = #[.bool false] from rfl, made1]
  refine h gb _ hbase ?_ (Ext.upd hgb _) hgb
  have := Own.lit (H := H) (T := 4) (sz := 1) hbase (Array.replicate q (.bool false)) q (by unfold maxLen; omega) (by simp)
  unfold BB
  have e : (Array.replicate q (Value.bool false)).toList = (List.range q).map fun _ => Value.bool false := by
    rw [Array.toList_replicate]
    apply List.ext_getElem?
    intro i
    rw [List.getElem?_replicate, List.getElem?_map]
    by_cases hi : i < q
    · rw [if_pos hi, List.getElem?_range hi]; rfl
    · rw [if_neg hi, List.getElem?_eq_none (by simpa using hi)]; rfl
  rwa [e] at this
theorem h_mkW {q : Nat} (hq : q ≤ 1000000) {k1 k2 : IntKind} {K : Value → HH → Prop} (h : ∀ g H', base ≤ g → Own base H' 22 1 (.slice (some ⟨g, 0, none⟩) q q) q (us (List.replicate q 0)) → Frz H H' (.slice (some ⟨g, 0, none⟩) q q) → K (.slice (some ⟨g, 0, none⟩) q q) H') :
    HRun Tryd.prog base (Instr.makeSlice 30 (.int k1 q) (.int k2 q)) H K := by
  refine h_make un32 inf22 (by omega) (by omega) (by omega) (fun gb hgb hbase => ?_)
  rw [Int.toNat_natCast, Nat.mul_one, show (Value.int IntKind.u64 0).cells = #[.int .u64 0] from rfl, made1]
  refine h gb _ hbase ?_ ⟨Ext.upd hgb _, fun b' hb' => ?_⟩
  · have := Own.lit (H := H) (T := 22) (sz := 1) hbase (Array.replicate q (.int .u64 0)) q (by unfold maxLen; omega) (by simp)
    have e : (Array.replicate q (Value.int .u64 0)).toList = us (List.replicate q 0) := by rw [Array.toList_replicate]; simp [us]
    rwa [e] at this
  · have e : gb = b' := by simpa [Value.ownBlock] using hb'
    rw [← e]; exact hgb
end
end Go.Proofs.YtjpaichcaaacbaaDoor.HL
end
section
set_option linter.unusedVariables false
set_option linter.unusedSimpArgs false
set_option linter.unusedSectionVars false
set_option maxHeartbeats 4000000
namespace Go.Proofs.YtjpaichcaaacbaaDoor.HL
open Go Go.Proofs.YtjpaichcaaacbaaDoorNum Go.Proofs.YtjpaichcaaacbaaDoor.FEv
theorem cells_tag {c1 c2 : Array Value} {t1 t2 : TypeId} {z1 z2 : Nat × Nat} (h : some (Obj.cells c1 t1 z1) = some (Obj.cells c2 t2 z2)) : t1 = t2 := by cases h; rfl
theorem ext_same {H H3 H4 : HH} {g : Nat} (h : Ext H H3) (hn : H g = none) (hs : ∀ k, k ≠ g → H4 k = H3 k) : Ext H H4 := fun b o hb => by
  rw [hs b (fun e => by rw [e, hn] at hb; cases hb)]; exact h b o hb
theorem NB.move {base : Nat} {H H' : HH} {g m : Nat} {f : Nat → Nat} (h : NB base H g m f) (hk : ∀ o, H g = some o → H' g = some o) : NB base H' g m f := Own.move h (fun b o hb hx => by rw [ownB] at hb; cases hb; exact hk o hx)
theorem BB.move {base : Nat} {H H' : HH} {g m : Nat} {f : Nat → Bool} (h : BB base H g m f) (hk : ∀ o, H g = some o → H' g = some o) : BB base H' g m f := Own.move h (fun b o hb hx => by rw [ownB] at hb; cases hb; exact hk o hx)
section
end
end Go.Proofs.YtjpaichcaaacbaaDoor.HL
end
section
set_option linter.unusedVariables false
set_option linter.unusedSimpArgs false
set_option linter.unusedSectionVars false
set_option maxHeartbeats 4000000
namespace Go.Proofs.YtjpaichcaaacbaaDoor.HL
open Go Go.Proofs.YtjpaichcaaacbaaDoorNum Go.Proofs.YtjpaichcaaacbaaDoor.FEv
abbrev tTab : Nat := 59
abbrev tFn : Nat := 58
def gfun (k : Int) : FuncId := if k = 1 then 90 else if k = 2 then 91 else if k = 3 then 92 else if k = 4 then 93 else if k = 5 then 94 else 95
/-- The table, as it is known. -/
def GT (H : HH) : Prop := ∀ k : Nat, 1 ≤ k → k ≤ 6 → cellH H ⟨0, k, none⟩ = some (.func (.func (gfun k)) #[] #[])
theorem GT.ext {H H' : HH} (h : GT H) (he : Ext H H') : GT H' := fun k h1 h2 => cellH_ext he (h k h1 h2)
theorem GT.at {H : HH} (h : GT H) {k : Int} (hk : k = 1 ∨ k = 2 ∨ k = 3 ∨ k = 4 ∨ k = 5 ∨ k = 6) : ∃ a, AQ Tryd.prog (Instr.indexAt tTab (.pointer (some ⟨0, 0, none⟩)) (.int .i64 k)) (.pointer (some a)) ∧ QRun Tryd.prog (Instr.loadAt tFn (.pointer (some a))) H (.func (.func (gfun k)) #[] #[]) := by
  have ld : ∀ n : Nat, 1 ≤ n → n ≤ 6 → QRun Tryd.prog (Instr.loadAt tFn (.pointer (some ⟨0, n, none⟩))) H (.func (.func (gfun n)) #[] #[]) := fun n a b => q_ld (by kernel_rfl) (h n a b)
  rcases hk with rfl | rfl | rfl | rfl | rfl | rfl
  · exact ⟨⟨0, 1, none⟩, fun W => by kernel_rfl, ld 1 (by decide) (by decide)⟩
  · exact ⟨⟨0, 2, none⟩, fun W => by kernel_rfl, ld 2 (by decide) (by decide)⟩
  · exact ⟨⟨0, 3, none⟩, fun W => by kernel_rfl, ld 3 (by decide) (by decide)⟩
  · exact ⟨⟨0, 4, none⟩, fun W => by kernel_rfl, ld 4 (by decide) (by decide)⟩
  · exact ⟨⟨0, 5, none⟩, fun W => by kernel_rfl, ld 5 (by decide) (by decide)⟩
  · exact ⟨⟨0, 6, none⟩, fun W => by kernel_rfl, ld 6 (by decide) (by decide)⟩
section
end
end Go.Proofs.YtjpaichcaaacbaaDoor.HL
end
section
set_option linter.unusedVariables false
set_option linter.unusedSimpArgs false
set_option linter.unusedSectionVars false
set_option maxHeartbeats 4000000
namespace Go.Proofs.YtjpaichcaaacbaaDoor.HL
open Go Go.Proofs.YtjpaichcaaacbaaDoorNum Go.Proofs.YtjpaichcaaacbaaDoor.FEv
theorem OwnMC.ne {base : Nat} {F H : HH} {v : Value} {n b T : Nat} {m : List (List Int)} {cur : Array Value} (om : OwnMC base F H v n m) (hb : H b = some (.cells cur T (0, 0))) (hT : 30 ≠ T) : v.ownBlock ≠ some b := fun e => by
  obtain ⟨cu, hc⟩ := om.known e
  rw [hb] at hc
  exact hT (cells_tag hc).symm
section
end
end Go.Proofs.YtjpaichcaaacbaaDoor.HL
end
namespace Go.Proofs.YtjpaichcaaacbaaDoor.HL
end Go.Proofs.YtjpaichcaaacbaaDoor.HL
section
set_option linter.unusedVariables false
set_option linter.unusedSimpArgs false
set_option linter.unusedSectionVars false
set_option maxHeartbeats 8000000
set_option maxRecDepth 4000
namespace Go.Proofs.YtjpaichcaaacbaaDoor.HL
open Go Go.Proofs.YtjpaichcaaacbaaDoorNum Go.Proofs.YtjpaichcaaacbaaDoor.FEv
section
variable {base : Nat} {H : HH} {K : Value → HH → Prop} {A A' : Option Addr} {n n' c c' : Nat} {p : Int}
theorem h_cvar {old : Value} {C : Addr → HH → Prop} (hk : ∀ b H', Ext H H' → CB H' b p A n c A' n' c' → C ⟨b, 0, none⟩ H') :
    HRun Tryd.prog base (Instr.alloc tC true old) H fun v H1 => ∃ a : Addr, v = .pointer (some a) ∧ HRun Tryd.prog base (Instr.storeAt tC (.pointer (some a)) (.agg #[.int .u64 p, .slice A n c, .slice A' n' c'])) H1 fun _ H2 => C a H2 :=
  h_var (vs := [.int .u64 p, .slice A n c, .slice A' n' c']) (z := .agg #[.int .u64 0, .slice none 0 0, .slice none 0 0]) (by kernel_rfl) rfl (by kernel_rfl) rfl (fun b H' he hbase hn hb => hk _ H' he hb)
theorem lit_rd {gb T : Nat} {cs : Array Value} {xs : List Value} (h : cs.toList = xs) : Rd (upd H gb (.cells cs T)) (some ⟨gb, 0, none⟩) xs :=
  .inr ⟨_, rfl, fun i u hu => by
    rw [add0, cellH_blk (upd_self _ _ _), ← Array.getElem?_toList, h]
    exact hu⟩
theorem lit_o1 {x : Int} {C : Value → HH → Prop} (hk : ∀ A' H', Ext H H' → Outs H' A' 1 [x] → C (.slice A' 1 1) H') : HRun Tryd.prog base (Instr.buildSlice tInts 1 #[(0, .int .i64 x)]) H C := by
  have hfill : Instr.fill (fun i => some (i * 1, 1)) (madeCells (Value.int .i64 0).cells (1 * 1)) [(0, .int .i64 x)] = some #[.int .i64 x] := by kernel_rfl
  exact h_lit (sz := 1) (z := .int .i64 0) (cs := #[.int .i64 x]) unInts (by kernel_rfl) (by decide) hfill (by decide) (fun gb hgb hbase => hk _ _ (Ext.upd hgb _) ⟨rfl, lit_rd rfl⟩)
theorem aq_gate0 : (Tryd.prog.info? tGate).map (fun i => (i.zero, i.size, i.bytes)) = some (some (.agg (gv gate0).toArray), 5, 40) := by kernel_rfl
end
end Go.Proofs.YtjpaichcaaacbaaDoor.HL
end
section
set_option linter.unusedVariables false
set_option linter.unusedSimpArgs false
set_option linter.unusedSectionVars false
set_option maxHeartbeats 8000000
namespace Go.Proofs.YtjpaichcaaacbaaDoor.HL
open Go Go.Proofs.YtjpaichcaaacbaaDoorNum Go.Proofs.YtjpaichcaaacbaaDoor.FEv
/-- A circuit and inputs in memory, small. -/
structure In33 (H : HH) (A : Option Addr) (n : Nat) (gs : List Gate) (A' : Option Addr) (n' : Nat) (outs : List Int) (B : Option Addr) (m : Nat) (ins : List (List Int)) : Prop where
  G : Gl H
  T : GT H
  g : Gs H A n gs
  o : Outs H A' n' outs
  i : MatC H B m ins
  nn : ∀ g ∈ gs, 0 ≤ g.k
  ni : ∀ l ∈ ins, ∀ x ∈ l, 0 ≤ x
  fg : gs.length ≤ 60
  fo : outs.length ≤ 60
  fi : ins.length ≤ 20
  fr : ∀ l ∈ ins, l.length ≤ 60
section
variable {base : Nat} {H H' : HH} {K : Value → HH → Prop} {A A' B : Option Addr} {n n' c c' m d : Nat} {P : Int} {gs : List Gate} {outs : List Int} {ins : List (List Int)}
theorem In33.ext (I : In33 H A n gs A' n' outs B m ins) (X : Ext H H') : In33 H' A n gs A' n' outs B m ins :=
  ⟨I.G.ext X, I.T.ext X, I.g.ext X, I.o.ext X, I.i.ext X, I.nn, I.ni, I.fg, I.fo, I.fi, I.fr⟩
end
section
end
section
end
end Go.Proofs.YtjpaichcaaacbaaDoor.HL
end
section
set_option linter.unusedVariables false
set_option linter.unusedSimpArgs false
set_option linter.unusedSectionVars false
set_option maxHeartbeats 8000000
namespace Go.Proofs.YtjpaichcaaacbaaDoor.HL
open Go Go.Proofs.YtjpaichcaaacbaaDoorNum Go.Proofs.YtjpaichcaaacbaaDoor.FEv
theorem gc_take : ∀ (gs : List Gate) (k : Nat), (gc gs).take (k * 5) = gc (gs.take k)
  | [], k => by simp [gc]
  | g :: gs, 0 => by simp [gc]
  | g :: gs, k + 1 => by
    have := gc_take gs k
    unfold gc at this ⊢
    rw [List.take_succ_cons, List.flatMap_cons, List.flatMap_cons, ← this, List.take_append]
    rw [List.take_of_length_le (by show 5 ≤ _; omega)]
    congr 2
    show (k + 1) * 5 - 5 = k * 5
    omega
theorem is_take (l : List Int) (k : Nat) : us (l.take k) = (us l).take k := by simp [us]
section
variable {base : Nat} {H : HH} {A A' B : Option Addr} {n n' c c' m d : Nat} {P : Int} {gs : List Gate} {outs : List Int} {ins : List (List Int)}
theorem Gs.take (h : Gs H A n gs) {k : Nat} (hk : k ≤ n) : Gs H A k (gs.take k) := ⟨by rw [List.length_take]; have := h.1; omega, by have := h.2.take (k * 5); rwa [gc_take] at this⟩
theorem Row.take {l : List Int} (h : Row H A n l) {k : Nat} (hk : k ≤ n) : Row H A k (l.take k) := ⟨by rw [List.length_take]; have := h.1; omega, by have := h.2.take k; rwa [is_take]⟩
theorem Outs.none (H : HH) : Outs H none 0 [] := ⟨rfl, .inl rfl⟩
end
section
end
end Go.Proofs.YtjpaichcaaacbaaDoor.HL
end
section
set_option linter.unusedVariables false
set_option linter.unusedSimpArgs false
set_option linter.unusedSectionVars false
set_option maxHeartbeats 8000000
namespace Go.Proofs.YtjpaichcaaacbaaDoor.HL
open Go Go.Proofs.YtjpaichcaaacbaaDoorNum Go.Proofs.YtjpaichcaaacbaaDoor.FEv
/-- A row of slices of the call's own; the one at k is of the call's own too, the others are frozen in F. -/
structure Sp (base : Nat) (F H : HH) (A : Option Addr) (n c k : Nat) (A1 : Option Addr) (q c1 : Nat) (ins : List (List Int)) (l : List Int) : Prop where
  ext : Ext F H
  rs : ∃ rs : List Value, Own base H 30 1 (.slice A n c) n rs ∧ rs.length = ins.length ∧ rs[k]? = some (.slice A1 q c1) ∧ ∀ (i : Nat) (x : List Int), i ≠ k → ins[i]? = some x → ∃ A' c', rs[i]? = some (.slice A' x.length c') ∧ x.length ≤ c' ∧ Rd F A' (us x)
  row : Own base H 22 1 (.slice A1 q c1) q (us l)
  off : ∀ b, (Value.slice A n c).ownBlock = some b → F b = none
  off1 : ∀ b, (Value.slice A1 q c1).ownBlock = some b → F b = none
section
variable {base : Nat} {H H2 H' F : HH} {A A1 B : Option Addr} {n c k q c1 m d : Nat} {ins : List (List Int)} {l : List Int} {K : Unit → HH → Prop}
/-- A word of the row changes. -/
theorem Sp.set (h : Sp base F H A n c k A1 q c1 ins l) (hk : k < n) {t : Nat} (ht : t < q) (x : Int) (hK : ∀ H', Sp base F H' A n c k A1 q c1 ins (l.set t x) → K () H') :
    ∃ a, AQ Tryd.prog (Instr.indexAt 27 (.slice A n c) (.int .i64 k)) (.pointer (some a)) ∧ ∃ (A' : Option Addr) (l' c' : Nat), QRun Tryd.prog (Instr.loadAt 30 (.pointer (some a))) H (.slice A' l' c') ∧
      ∃ a2, AQ Tryd.prog (Instr.indexAt 30 (.slice A' l' c') (.int .i64 t)) (.pointer (some a2)) ∧ HRun Tryd.prog base (Instr.storeAt 22 (.pointer (some a2)) (.int .u64 x)) H K := by
  obtain ⟨rs, h1, h2, h3, h4⟩ := h.rs
  obtain ⟨g, cur, e1, hb, hg, hi, hc⟩ := Own.at h1 hk
  subst e1
  obtain ⟨g2, cur2, e2, hb2, hg2, hi2, hc2⟩ := Own.at h.row ht
  subst e2
  have hne : g ≠ g2 := fun e => by
    subst e
    rw [hg] at hg2
    exact absurd (cells_tag hg2) (by decide)
  have hn : F g2 = none := h.off1 g2 (by simp [Value.ownBlock])
  refine ⟨_, aq_own un23 (by kernel_rfl) hk, _, _, _, q_ld (by kernel_rfl) (by rw [cellH_blk hg]; exact hc k _ h3), _, aq_own un32 info22 ht, h_st info22 rfl hg2 hb2 hi2 (hK _ ⟨ext_same h.ext hn (fun k hk => upd_ne _ hk), ⟨rs, h1.far (by simp [Value.ownBlock]; exact hne) _, h2, h3, h4⟩, ?_, h.off, h.off1⟩)⟩
  have := Own.put h.row (by simp [Value.ownBlock]) hg2 t (.int .u64 x)
  rwa [show (us l).set t (.int .u64 x) = us (l.set t x) by simp [us, List.map_set]] at this
end
section
variable {gs : List Gate} {ins : List (List Int)} {k : Nat}
theorem mem_setL {l y : List Int} (h : y ∈ ins.set k l) : y = l ∨ y ∈ ins := (List.mem_or_eq_of_mem_set h).elim .inr .inl
theorem In33.set {H H' : HH} {A A' B B' : Option Addr} {n n' m : Nat} {outs : List Int} (I : In33 H A n gs A' n' outs B m ins) (X : Ext H H') {l : List Int} (M : MatC H' B' m (ins.set k l)) (h1 : ∀ x ∈ l, 0 ≤ x) (h2 : l.length ≤ 60) : In33 H' A n gs A' n' outs B' m (ins.set k l) :=
  ⟨I.G.ext X, I.T.ext X, I.g.ext X, I.o.ext X, M, I.nn, fun y hy => by
    rcases mem_setL hy with rfl | h
    · exact h1
    · exact I.ni y h, I.fg, I.fo, by rw [List.length_set]; exact I.fi, fun y hy => by
    rcases mem_setL hy with rfl | h
    · exact h2
    · exact I.fr y h⟩
end
section
end
end Go.Proofs.YtjpaichcaaacbaaDoor.HL
end
section
set_option linter.unusedVariables false
set_option linter.unusedSimpArgs false
set_option linter.unusedSectionVars false
set_option maxHeartbeats 8000000
namespace Go.Proofs.YtjpaichcaaacbaaDoor.HL
open Go Go.Proofs.YtjpaichcaaacbaaDoorNum Go.Proofs.YtjpaichcaaacbaaDoor.FEv
structure S2 (base : Nat) (F H : HH) (v : Value) (n : Nat) (m : List (List Int)) (v' : Value) (n' : Nat) (m' : List (List Int)) : Prop where
  x : OwnMC base F H v n m
  y : OwnMC base F H v' n' m'
  ne : ∀ b, v.ownBlock = some b → v'.ownBlock ≠ some b
section
variable {base : Nat} {F H H' : HH} {v v' w : Value} {n n' q : Nat} {m m' : List (List Int)}
theorem S2.symm (s : S2 base F H v n m v' n' m') : S2 base F H v' n' m' v n m := ⟨s.y, s.x, fun b h1 h2 => s.ne b h2 h1⟩
theorem S2.more (s : S2 base F H v n m v' n' m') (X : Ext H H') : S2 base F H' v n m v' n' m' := ⟨s.x.more X, s.y.more X, s.ne⟩
theorem S2.nil (base : Nat) (H : HH) : S2 base H H (.slice none 0 0) 0 [] (.slice none 0 0) 0 [] := ⟨OwnMC.nil _ _, OwnMC.nil _ _, fun b h => by simp [Value.ownBlock] at h⟩
/-- A row of the call's own that is new since H is frozen. -/
theorem S2.freeze {T : Nat} {xs : List Value} (s : S2 base F H v n m v' n' m') (hf : Frz H H' w) (ho : Own base H' T 1 w q xs) :
    ∃ F', Ext F F' ∧ S2 base F' H' v n m v' n' m' ∧ ∃ A c, w = .slice A q c ∧ q ≤ c ∧ Rd F' A xs := by
  have s' := s.more hf.ext
  obtain ⟨h1, h2⟩ := ho
  rcases h2 with ⟨rfl, rfl⟩ | ⟨g, cap, cur, rfl, hb, hg, r1, r2, r3, r4⟩
  · exact ⟨F, .refl F, s', none, 0, rfl, Nat.le_refl _, .inl (List.eq_nil_of_length_eq_zero (by rw [h1, Nat.zero_mul]))⟩
  · have hn : H g = none := hf.off g (by simp [Value.ownBlock])
    have hn0 : F g = none := s.x.frz.ext.none hn
    have X : Ext (upd F g (.cells cur T (0, 0))) H' := fun b o h => by
      by_cases e : b = g
      · subst e; rw [upd_self] at h; cases h; exact hg
      · rw [upd_ne _ e] at h; exact hf.ext _ _ (s.x.frz.ext b o h)
    have off : ∀ {u : Value} {k : Nat} {l : List (List Int)}, OwnMC base F H u k l → Frz (upd F g (.cells cur T (0, 0))) H' u := fun h => ⟨X, fun b hbb => by
      have hne : b ≠ g := fun e => by
        obtain ⟨cu, hc⟩ := h.known hbb
        rw [e, hn] at hc; cases hc
      rw [upd_ne _ hne]
      exact h.frz.off b hbb⟩
    refine ⟨_, Ext.upd hn0 _, ⟨s'.x.froze (Ext.upd hn0 _) (off s.x), s'.y.froze (Ext.upd hn0 _) (off s.y), s.ne⟩, _, _, rfl, r1, .inr ⟨_, rfl, fun i u hu => ?_⟩⟩
    have hadd : (⟨g, 0, none⟩ : Addr).add i = ⟨g, i, none⟩ := by unfold Addr.add; split <;> simp_all
    rw [hadd, cellH_blk (upd_self _ _ _), ← Array.getElem?_toList]
    rw [← r4, List.getElem?_take] at hu
    split at hu
    · exact hu
    · cases hu
/-- A slice of one row. -/
theorem S2.lit (s : S2 base F H v n m v' n' m') {A1 : Option Addr} {n1 c1 : Nat} {C : Value → HH → Prop} (hk : ∀ F' A' H', Ext F F' → S2 base F' H' v n m v' n' m' → Rd F' A' [.slice A1 n1 c1] → C (.slice A' 1 1) H') :
    HRun Tryd.prog base (Instr.buildSlice 27 1 #[(0, .slice A1 n1 c1)]) H C := by
  have hfill : Instr.fill (fun i => some (i * 1, 1)) (madeCells (Value.slice none 0 0).cells (1 * 1)) [(0, .slice A1 n1 c1)] = some #[.slice A1 n1 c1] := by
    simp [Instr.fill, madeCells, Value.cells, show Array.range 1 = #[0] from by decide]
  refine h_lit (sz := 1) (z := .slice none 0 0) (cs := #[.slice A1 n1 c1]) un23 (by kernel_rfl) (by decide) hfill (by decide) (fun gb hgb hbase => ?_)
  obtain ⟨F', h1, h2, A', c', e, _, h3⟩ := s.freeze (H' := upd H gb (.cells #[.slice A1 n1 c1] 30)) ⟨Ext.upd hgb _, fun b hb => by
    have e : gb = b := by simpa [Value.ownBlock] using hb
    rw [← e]; exact hgb⟩ (Own.lit (H := H) (T := 30) (sz := 1) hbase #[.slice A1 n1 c1] 1 (by decide) rfl)
  cases e
  exact hk F' _ _ h1 h2 h3
/-- A row of noughts. -/
theorem S2.zeros (s : S2 base F H v n m v' n' m') {q : Nat} (hq : q ≤ 1000000) {k1 k2 : IntKind} {C : Value → HH → Prop} (hk : ∀ F' A' c' H', Ext F F' → S2 base F' H' v n m v' n' m' → Row F' A' q (List.replicate q 0) → q ≤ c' → C (.slice A' q c') H') :
    HRun Tryd.prog base (Instr.makeSlice 30 (.int k1 q) (.int k2 q)) H C :=
  h_mkW hq (fun g H' hgb o f => by
    obtain ⟨F', h1, h2, A', c', e, hc, h3⟩ := s.freeze f o
    rw [e]
    exact hk F' A' c' H' h1 h2 ⟨by simp, h3⟩ hc)
end
end Go.Proofs.YtjpaichcaaacbaaDoor.HL
end
section
set_option linter.unusedVariables false
set_option linter.unusedSimpArgs false
set_option linter.unusedSectionVars false
set_option maxHeartbeats 8000000
namespace Go.Proofs.YtjpaichcaaacbaaDoor.HL
open Go Go.Proofs.YtjpaichcaaacbaaDoorNum Go.Proofs.YtjpaichcaaacbaaDoor.FEv
section
variable {p : Nat} [NeZero p] {gs : List Gate} {a b : List (List Int)}
theorem In33.more {H H' : HH} {A A' B B' : Option Addr} {n n' m m' : Nat} {outs : List Int} (I : In33 H A n gs A' n' outs B m a) (X : Ext H H') (M : MatC H' B' m' b) (h0 : b.length ≤ 20) (h1 : ∀ l ∈ b, ∀ x ∈ l, 0 ≤ x) (h2 : ∀ l ∈ b, l.length ≤ 60) : In33 H' A n gs A' n' outs B' m' b :=
  ⟨I.G.ext X, I.T.ext X, I.g.ext X, I.o.ext X, M, I.nn, h1, I.fg, I.fo, h0, h2⟩
end
section
end
section
end
end Go.Proofs.YtjpaichcaaacbaaDoor.HL
end
section
set_option linter.unusedVariables false
set_option linter.unusedSimpArgs false
set_option linter.unusedSectionVars false
set_option maxHeartbeats 8000000
namespace Go.Proofs.YtjpaichcaaacbaaDoor.HL
open Go Go.Proofs.YtjpaichcaaacbaaDoorNum Go.Proofs.YtjpaichcaaacbaaDoor.FEv
/-- Gate j reads another party. -/
def upF (gs : List Gate) (j : Nat) (x : Int) : List Gate := gs.set j ⟨(gs.getD j gate0).kind, x, (gs.getD j gate0).a, (gs.getD j gate0).b, (gs.getD j gate0).k⟩
theorem gc_upF : ∀ (gs : List Gate) (j : Nat) (x : Int), (gc gs).set (j * 5 + 1) (.int .i64 x) = gc (upF gs j x)
  | [], j, x => by simp [gc, upF]
  | g :: gs, 0, x => rfl
  | g :: gs, j + 1, x => by
    have ih := gc_upF gs j x
    have e : upF (g :: gs) (j + 1) x = g :: upF gs j x := by simp [upF]
    rw [e]
    show (gv g ++ gc gs).set ((j + 1) * 5 + 1) _ = gv g ++ gc (upF gs j x)
    have hl : (gv g).length = 5 := rfl
    rw [List.set_append_right _ _ (by rw [hl]; omega), hl, show (j + 1) * 5 + 1 - 5 = j * 5 + 1 by omega, ih]
/-- A row of gates of the call's own. -/
structure Rl (base : Nat) (F H : HH) (A : Option Addr) (n c : Nat) (gs : List Gate) : Prop where
  ext : Ext F H
  own : Own base H tGate 5 (.slice A n c) n (gc gs)
  off : ∀ b, (Value.slice A n c).ownBlock = some b → F b = none
section
variable {base : Nat} {F H H' : HH} {K : Unit → HH → Prop} {A : Option Addr} {n c : Nat} {gs : List Gate}
theorem gc_len (gs : List Gate) : (gc gs).length = gs.length * 5 := by
  induction gs with
  | nil => rfl
  | cons g gs ih =>
    show (gv g ++ gc gs).length = _
    rw [List.length_append, ih, List.length_cons]
    show 5 + _ = _
    omega
theorem Rl.len (h : Rl base F H A n c gs) : n = gs.length := by have := h.own.1; rw [gc_len] at this; omega
theorem Rl.gates (h : Rl base F H A n c gs) : Gs H A n gs := by
  obtain ⟨A', c', e, _, h2⟩ := h.own.slice
  cases e
  exact ⟨h.len, h2⟩
theorem Rl.put (h : Rl base F H A n c gs) {j : Nat} (hj : j < n) (x : Int) (hK : ∀ H', Rl base F H' A n c (upF gs j x) → K () H') :
    ∃ a, AQ Tryd.prog (Instr.indexAt tGates (.slice A n c) (.int .i64 j)) (.pointer (some a)) ∧ ∃ a1, AQ Tryd.prog (Instr.fieldAt tGate (.pointer (some a)) 1) (.pointer (some a1)) ∧ HRun Tryd.prog base (Instr.storeAt 3 (.pointer (some a1)) (.int .i64 x)) H K := by
  obtain ⟨g, cap, cur, e1, hb, hg, r1, r2, r3⟩ := h.own.form (by omega)
  cases e1
  refine ⟨_, aq_ix (ad := ⟨g, 0, none⟩) unGates infoG (by omega) (by omega), _, fg1 _, ?_⟩
  rw [Int.toNat_natCast, show ((⟨g, 0, none⟩ : Addr).add (j * 5)).add 1 = ⟨g, j * 5 + 1, none⟩ by rw [addr_add']; unfold Addr.add; split <;> simp_all]
  refine h_st info3 rfl hg hb (by omega) (hK _ ⟨?_, ?_, h.off⟩)
  · exact ext_same h.ext (h.off g (by simp [Value.ownBlock])) (fun k hk => upd_ne _ hk)
  · have := Own.put h.own (by simp [Value.ownBlock]) hg (j * 5 + 1) (.int .i64 x)
    rwa [gc_upF] at this
theorem Rl.at (h : Rl base F H A n c gs) {j : Nat} (hj : j < n) : ∃ a, AQ Tryd.prog (Instr.indexAt tGates (.slice A n c) (.int .i64 j)) (.pointer (some a)) ∧ GAt H a (gs.getD j gate0) := h.gates.at c hj
end
section
end
section
variable {base : Nat} {H : HH} {A A' : Option Addr} {n n' c c' : Nat} {p : Int} {gs : List Gate}
/-- A circuit's variable, with its block. -/
theorem h_cvar3 {old : Value} {C : Addr → HH → Prop} (hk : ∀ b H', Ext H H' → H b = none → base ≤ b → CB H' b p A n c A' n' c' → C ⟨b, 0, none⟩ H') :
    HRun Tryd.prog base (Instr.alloc tC true old) H fun v H1 => ∃ a : Addr, v = .pointer (some a) ∧ HRun Tryd.prog base (Instr.storeAt tC (.pointer (some a)) (.agg #[.int .u64 p, .slice A n c, .slice A' n' c'])) H1 fun _ H2 => C a H2 :=
  h_var (vs := [.int .u64 p, .slice A n c, .slice A' n' c']) (z := .agg #[.int .u64 0, .slice none 0 0, .slice none 0 0]) (by kernel_rfl) rfl (by kernel_rfl) rfl (fun b H' he hbase hn hb => hk _ H' he hn hbase hb)
theorem gates_mk0 {C : Value → HH → Prop} (hk : ∀ A' c' H', Own base H' tGate 5 (.slice A' 0 c') 0 [] → Frz H H' (.slice A' 0 c') → C (.slice A' 0 c') H') : HRun Tryd.prog base (Instr.buildSlice tGates 0 #[]) H C := by
  refine h_lit0 (sz := 5) unGates infoG (fun b hb hbase => ?_)
  refine hk _ _ _ (by simpa using Own.lit (H := H) (T := tGate) (sz := 5) hbase #[] 0 (by decide) (by simp)) ⟨Ext.upd hb _, fun b' hb' => ?_⟩
  have e : b = b' := by simpa [Value.ownBlock] using hb'
  rw [← e]; exact hb
theorem gv_one {g : Gate} {u : Value} (h : u ∈ gv g) : u.oneCell' = true := by
  unfold gv at h
  simp only [List.mem_cons, List.not_mem_nil, or_false] at h
  rcases h with rfl | rfl | rfl | rfl | rfl <;> rfl
/-- The circuit's gates are another row. -/
theorem cb_gates {b : Nat} {A1 : Option Addr} {n1 c1 : Nat} {K : Unit → HH → Prop} (h : CB H b p A n c A' n' c') (hb : base ≤ b) (hK : ∀ H', CB H' b p A1 n1 c1 A' n' c' → (∀ k, k ≠ b → H' k = H k) → K () H') :
    HRun Tryd.prog base (Instr.storeAt tGates (.pointer (some ⟨b, 1, none⟩)) (.slice A1 n1 c1)) H K :=
  h_st (by kernel_rfl) rfl h hb (show 1 < 3 by decide) (hK _ (upd_self _ _ _) (fun k hk => upd_ne _ hk))
end
section
end
end Go.Proofs.YtjpaichcaaacbaaDoor.HL
end

/- Part I of: The statement OptimizeCertificatesCompose: the law answers true whatever its arguments; no condition. -/
import Derived.Test.YtjpaichcaaacbabDoorZOptimizeCertificatesComposeH
import Derived.KernelRfl
import Derived.Laws.StructEq
import Derived.Test.YtjpaichcaaacbabDoorProg
import Derived.Laws.Tables
section
set_option linter.unusedVariables false
set_option linter.unusedSimpArgs false
set_option linter.unusedSectionVars false
namespace Go.Proofs.YtjpaichcaaacbabDoor.HL
open Go Go.Proofs.YtjpaichcaaacbabDoorNum Go.Proofs.YtjpaichcaaacbabDoor.FEv
section
variable {P : Program} {base : Nat} {H : HH}
theorem h_sta {t b T : Nat} {old : Array Value} {vs : List Value} {K : Unit → HH → Prop} (hz : (P.info? t).map (·.size) = some vs.length) (h1 : vs.all (·.oneCell') = true) (hb : H b = some (.cells old T (0, 0))) (hbase : base ≤ b) (ho : old.size = vs.length) (h : K () (upd H b (.cells vs.toArray T (0, 0)))) : HRun P base (Instr.storeAt t (.pointer (some ⟨b, 0, none⟩)) (.agg vs.toArray)) H K := by
  refine h_do (cs' := vs.toArray) hb hbase (by simp [ho]) (fun W hs => ⟨W.setRow b vs.toArray, ?_, rfl, rfl, rfl, ?_, ?_, ?_⟩) h
  · have := run_storeVar_row (P := P) W b T t old vs.toArray (hs b _ hb) (by simpa using hz) (by simpa using ho) (by simpa using h1)
    simp [Instr.storeAt, Instr.sureAddr, this]
  · simp [World.setRow]
  · intro k hk
    simp only [World.setRow, Array.getElem?_modify]
    rw [if_neg (fun e => hk e.symm)]
  · exact setRow_heap W b old vs.toArray T (0, 0) (hs b _ hb)
theorem h_var {t : Nat} {old z : Value} {vs : List Value} (hz0 : (P.info? t).bind (·.zero) = some z) (hzc : z.cells.size = vs.length) (hz : (P.info? t).map (·.size) = some vs.length) (h1 : vs.all (·.oneCell') = true) {C : Addr → HH → Prop}
    (hk : ∀ b H', Ext H H' → base ≤ b → H b = none → H' b = some (.cells vs.toArray t (0, 0)) → C ⟨b, 0, none⟩ H') :
    HRun P base (Instr.alloc t true old) H fun v H1 => ∃ a : Addr, v = .pointer (some a) ∧ HRun P base (Instr.storeAt t (.pointer (some a)) (.agg vs.toArray)) H1 fun _ H2 => C a H2 :=
  h_alloc hz0 (fun b hb hbase => ⟨_, rfl, h_sta hz h1 (upd_self _ _ _) hbase hzc (hk b _ (fun k o hk => by
    have : k ≠ b := fun e => by rw [e, hb] at hk; cases hk
    rw [upd_ne _ this, upd_ne _ this]; exact hk) hbase hb (upd_self _ _ _))⟩)
end
def PtAt (H : HH) (a : Addr) (q : Int × Int) : Prop := cellH H (a.add 0) = some (.int .u64 q.1) ∧ cellH H (a.add 1) = some (.int .u64 q.2)
section
variable {base : Nat} {H : HH} {a : Addr} {q : Int × Int}
theorem PtAt.ext {H' : HH} (h : PtAt H a q) (he : Ext H H') : PtAt H' a q := ⟨cellH_ext he h.1, cellH_ext he h.2⟩
theorem PtAt.x (h : PtAt H a q) : QRun Tryd.prog (Instr.loadAt 22 (.pointer (some (a.add 0)))) H (.int .u64 q.1) := q_ld sc22 h.1
theorem PtAt.y (h : PtAt H a q) : QRun Tryd.prog (Instr.loadAt 22 (.pointer (some (a.add 1)))) H (.int .u64 q.2) := q_ld sc22 h.2
end
def pc (l : List (Int × Int)) : List Value := l.flatMap fun q => [.int .u64 q.1, .int .u64 q.2]
def Pts (H : HH) (A : Option Addr) (n : Nat) (l : List (Int × Int)) : Prop := n = l.length ∧ Rd H A (pc l)
section
variable {base : Nat} {H : HH} {A : Option Addr} {n : Nat} {l : List (Int × Int)} {i : Int}
theorem Pts.ext {H' : HH} (h : Pts H A n l) (he : Ext H H') : Pts H' A n l := ⟨h.1, h.2.ext he⟩
theorem Pts.nil : Pts H none 0 [] := ⟨rfl, .inl rfl⟩
theorem addr_add' (a : Addr) (m n : Nat) : (a.add m).add n = a.add (m + n) := by
  unfold Addr.add
  by_cases hm : m = 0 <;> by_cases hn : n = 0 <;> simp_all [Nat.add_assoc]
end
section
end
def RowI (H : HH) (A : Option Addr) (n : Nat) (l : List Nat) : Prop := n = l.length ∧ Rd H A (ns l)
theorem RowI.ext {H H' : HH} {A : Option Addr} {n : Nat} {l : List Nat} (h : RowI H A n l) (he : Ext H H') : RowI H' A n l := ⟨h.1, h.2.ext he⟩
theorem RowI.nil {H : HH} : RowI H none 0 [] := ⟨rfl, .inl rfl⟩
theorem RowI.at {H : HH} {A : Option Addr} {n : Nat} {l : List Nat} (h : RowI H A n l) (c : Nat) {j : Nat} (hj : j < n) : ∃ a, AQ Tryd.prog (Instr.indexAt 24 (.slice A n c) (.int .i64 j)) (.pointer (some a)) ∧ QRun Tryd.prog (Instr.loadAt 3 (.pointer (some a))) H (.int .i64 ((l.getD j 0 : Nat) : Int)) := by
  obtain ⟨e, h⟩ := h
  subst e
  exact Piv.at h c hj
end Go.Proofs.YtjpaichcaaacbabDoor.HL
end
section
set_option linter.unusedVariables false
set_option linter.unusedSimpArgs false
set_option linter.unusedSectionVars false
set_option maxHeartbeats 1000000
namespace Go.Proofs.YtjpaichcaaacbabDoor.HL
open Go Go.Proofs.YtjpaichcaaacbabDoorNum Go.Proofs.YtjpaichcaaacbabDoor.FEv
theorem Rd.take {H : HH} {A : Option Addr} {xs : List Value} (h : Rd H A xs) (k : Nat) : Rd H A (xs.take k) := by
  rcases h with e | ⟨ad, e, hc⟩
  · exact .inl (by rw [e]; simp)
  · exact .inr ⟨ad, e, fun i u hu => hc i u (by
      rw [List.getElem?_take] at hu
      split at hu
      · exact hu
      · cases hu)⟩
theorem w64 {x : Int} (h0 : -9223372036854775808 ≤ x) (h1 : x < 9223372036854775808) : IntKind.i64.wrap x = x := by
  unfold IntKind.wrap
  simp [IntKind.bits, IntKind.signed]
  omega
section
end
end Go.Proofs.YtjpaichcaaacbabDoor.HL
end
section
set_option linter.unusedVariables false
set_option linter.unusedSimpArgs false
set_option linter.unusedSectionVars false
set_option maxHeartbeats 2000000
namespace Go.Proofs.YtjpaichcaaacbabDoor.HL
open Go Go.Proofs.YtjpaichcaaacbabDoorNum Go.Proofs.YtjpaichcaaacbabDoor.FEv
structure Form where
  w : ByteArray
  kind : Int
  fr : Bool
  k : Bool
  a : Bool
  b : Bool
  bit : Bool
def fv (f : Form) : List Value := [.string f.w, .int .i64 f.kind, .bool f.fr, .bool f.k, .bool f.a, .bool f.b, .bool f.bit]
abbrev formL : List Form := [⟨⟨#[105, 110]⟩, 1, true, false, false, false, false⟩, ⟨⟨#[98, 105, 116]⟩, 1, true, false, false, false, true⟩, ⟨⟨#[99, 111, 110, 115, 116]⟩, 2, false, true, false, false, false⟩, ⟨⟨#[97, 100, 100]⟩, 3, false, false, true, true, false⟩, ⟨⟨#[115, 117, 98]⟩, 4, false, false, true, true, false⟩, ⟨⟨#[115, 99, 97, 108, 101]⟩, 5, false, true, true, false, false⟩, ⟨⟨#[109, 117, 108]⟩, 6, false, false, true, true, false⟩]
abbrev expL : List Int := [5, 7, 13, 17, 19, 31, 61]
abbrev tForms : Nat := 84
abbrev tExps : Nat := 83
abbrev tForm : Nat := 76
theorem fl_back : ∀ (l : List Form) (j : Nat) (u : Value), (l.flatMap fv)[j]? = some u → ∃ (i : Nat) (f : Form) (k : Nat), j = i * 7 + k ∧ l[i]? = some f ∧ (fv f)[k]? = some u
  | [], j, u, h => by simp at h
  | f :: l, j, u, h => by
    have e : (f :: l).flatMap fv = fv f ++ l.flatMap fv := rfl
    rw [e] at h
    have hl : (fv f).length = 7 := rfl
    rcases Nat.lt_or_ge j 7 with h1 | h1
    · rw [List.getElem?_append_left (by omega)] at h
      exact ⟨0, f, j, by omega, rfl, h⟩
    · rw [List.getElem?_append_right (by omega), hl] at h
      obtain ⟨i, f', k, h2, h3, h4⟩ := fl_back l (j - 7) u h
      exact ⟨i + 1, f', k, by omega, h3, h4⟩
/-- The laid variables, as they are known. -/
structure Gl (H : HH) : Prop where
  exps : ∀ (j : Nat) (u : Value), (expL.map (Value.int .i64))[j]? = some u → cellH H ⟨1, j, none⟩ = some u
  forms : ∀ (i : Nat) (f : Form), formL[i]? = some f → ∀ (j : Nat) (u : Value), (fv f)[j]? = some u → cellH H ⟨2, i * 7 + j, none⟩ = some u
theorem Gl.ext {H H' : HH} (h : Gl H) (he : Ext H H') : Gl H' := ⟨fun j u hu => cellH_ext he (h.exps j u hu), fun i f hf j u hu => cellH_ext he (h.forms i f hf j u hu)⟩
theorem Gl.exp_all {H : HH} (h : Gl H) : QRun Tryd.prog (Instr.loadAt tExps (.pointer (some ⟨1, 0, none⟩))) H (.agg #[.int .i64 5, .int .i64 7, .int .i64 13, .int .i64 17, .int .i64 19, .int .i64 31, .int .i64 61]) :=
  q_lda (cs := expL.map (Value.int .i64)) (by kernel_rfl) (by kernel_rfl) (fun j u hu => by
    rw [add0]
    exact h.exps j u hu)
theorem Gl.form_all {H : HH} (h : Gl H) : QRun Tryd.prog (Instr.loadAt tForms (.pointer (some ⟨2, 0, none⟩))) H (.agg (formL.flatMap fv).toArray) :=
  q_lda (cs := formL.flatMap fv) (by kernel_rfl) (by kernel_rfl) (fun j u hu => by
    rw [add0]
    obtain ⟨i, f, k, rfl, h2, h3⟩ := fl_back _ j u hu
    exact h.forms i f h2 k u h3)
abbrev pwL : List Int := [31, 127, 8191, 131071, 524287, 2147483647, 2305843009213693951]
theorem exp_at (i : Nat) (h : i < 7) : AQ Tryd.prog (Instr.index tExps (.agg #[.int .i64 5, .int .i64 7, .int .i64 13, .int .i64 17, .int .i64 19, .int .i64 31, .int .i64 61]) (.int .i64 i)) (.int .i64 (expL.getD i 0)) := by
  match i, h with
  | 0, _ => exact fun W => by kernel_rfl
  | 1, _ => exact fun W => by kernel_rfl
  | 2, _ => exact fun W => by kernel_rfl
  | 3, _ => exact fun W => by kernel_rfl
  | 4, _ => exact fun W => by kernel_rfl
  | 5, _ => exact fun W => by kernel_rfl
  | 6, _ => exact fun W => by kernel_rfl
theorem shl_at (i : Nat) (h : i < 7) (x y : Operand) : ∃ n : Int, AQ Tryd.prog (binSem .shl 22 x y (.int .u64 1) (.int .i64 (expL.getD i 0))) (.int .u64 n) ∧ IntKind.u64.wrap (n - 1) = pwL.getD i 0 ∧ expL.getD i 0 ≠ 0 := by
  match i, h with
  | 0, _ => exact ⟨32, fun W => by kernel_rfl, by decide, by decide⟩
  | 1, _ => exact ⟨128, fun W => by kernel_rfl, by decide, by decide⟩
  | 2, _ => exact ⟨8192, fun W => by kernel_rfl, by decide, by decide⟩
  | 3, _ => exact ⟨131072, fun W => by kernel_rfl, by decide, by decide⟩
  | 4, _ => exact ⟨524288, fun W => by kernel_rfl, by decide, by decide⟩
  | 5, _ => exact ⟨2147483648, fun W => by kernel_rfl, by decide, by decide⟩
  | 6, _ => exact ⟨2305843009213693952, fun W => by kernel_rfl, by decide, by decide⟩
section
variable {base : Nat} {H : HH} {K : Value → HH → Prop}
theorem h_fexp (hG : Gl H) (x : Int) (hk : ∀ e : Int, (e != 0) = supB x → K (.int .i64 e) H) : HCall Tryd.prog base 32 #[.int .u64 x] H K := by
  refine field_Exponent.spec ?_
  unfold field_Exponent.sh
  refine ⟨_, _, _, _, _, _, _, hG.exp_all, ?_⟩
  refine field_Exponent.loop0 (fun n y H' => H' = H ∧ ∃ i : Nat, y = i ∧ i ≤ 7 ∧ n = 7 - i ∧ ∀ j, j < i → x ≠ pwL.getD j 0) 7 ⟨rfl, 0, rfl, by decide, rfl, fun j hj => by omega⟩ ?_
  rintro n y g H1 ⟨rfl, i, rfl, hi, rfl, hno⟩
  unfold field_Exponent.B0
  split
  · rename_i e
    have e : i < 7 := by have := of_decide_eq_true e; omega
    obtain ⟨m, h1, h2, h3⟩ := shl_at i e (.const (.int .u64 1)) (.tmp 10)
    refine ⟨_, exp_at i e, m, h1, ?_⟩
    rw [h2]
    split
    · rename_i e2
      have e2 : x = pwL.getD i 0 := by simpa using e2
      refine hk _ ?_
      have : supB x = true := by
        unfold supB
        rw [e2, List.contains_eq_mem]
        refine decide_eq_true ?_
        have : pwL.getD i 0 = pwL[i]'e := by rw [List.getD_eq_getElem?_getD, List.getElem?_eq_getElem (show i < pwL.length from e)]; rfl
        rw [this]
        exact List.getElem_mem _
      rw [this]
      simpa using h3
    · rename_i e2
      have e2 : x ≠ pwL.getD i 0 := by simpa using e2
      exact ⟨7 - i - 1, by omega, _, rfl, rfl, i + 1, nxt (n := 1000) (by omega) (by decide), by omega, by omega, fun j hj => by
        by_cases h : j = i
        · rw [h]; exact e2
        · exact hno j (by omega)⟩
  · rename_i e
    have e : i = 7 := by
      have : ¬ ((i : Int) < 7) := fun h => e (decide_eq_true h)
      omega
    refine hk 0 ?_
    have : supB x = false := by
      cases hs : supB x with
      | false => rfl
      | true =>
        unfold supB at hs
        rw [List.contains_eq_mem] at hs
        obtain ⟨j, hj, ej⟩ := List.getElem_of_mem (of_decide_eq_true hs)
        refine absurd ej.symm ?_
        have := hno j (by rw [e]; exact hj)
        have h2 : pwL.getD j 0 = pwL[j]'hj := by rw [List.getD_eq_getElem?_getD, List.getElem?_eq_getElem hj]; rfl
        rwa [h2] at this
    rw [this]; rfl
theorem h_fsup (hG : Gl H) (x : Int) (hk : K (.bool (supB x)) H) : HCall Tryd.prog base 26 #[.int .u64 x] H K := by
  refine field_Supported.spec ?_
  unfold field_Supported.sh
  refine h_fexp hG x (fun e he => ⟨_, rfl, ?_⟩)
  rw [he]
  exact hk
end
end Go.Proofs.YtjpaichcaaacbabDoor.HL
end
section
set_option linter.unusedVariables false
set_option linter.unusedSimpArgs false
set_option linter.unusedSectionVars false
set_option maxHeartbeats 4000000
namespace Go.Proofs.YtjpaichcaaacbabDoor.HL
open Go Go.Proofs.YtjpaichcaaacbabDoorNum Go.Proofs.YtjpaichcaaacbabDoor.FEv
abbrev tGate : Nat := 50
structure Gate where
  kind : Int
  frm : Int
  a : Int
  b : Int
  k : Int
deriving DecidableEq
def gv (g : Gate) : List Value := [.int .i64 g.kind, .int .i64 g.frm, .int .i64 g.a, .int .i64 g.b, .int .u64 g.k]
def GAt (H : HH) (a : Addr) (g : Gate) : Prop := ∀ (j : Nat) (u : Value), (gv g)[j]? = some u → cellH H (a.add j) = some u
theorem infoG : (Tryd.prog.info? tGate).map (·.size) = some 5 := by kernel_rfl
theorem fg0 (a : Addr) : AQ Tryd.prog (Instr.fieldAt tGate (.pointer (some a)) 0) (.pointer (some (a.add 0))) := aq_fld (off := 0) (sz := 1) (by kernel_rfl) (by decide) a
theorem fg1 (a : Addr) : AQ Tryd.prog (Instr.fieldAt tGate (.pointer (some a)) 1) (.pointer (some (a.add 1))) := aq_fld (off := 1) (sz := 1) (by kernel_rfl) (by decide) a
theorem fg2 (a : Addr) : AQ Tryd.prog (Instr.fieldAt tGate (.pointer (some a)) 2) (.pointer (some (a.add 2))) := aq_fld (off := 2) (sz := 1) (by kernel_rfl) (by decide) a
theorem fg3 (a : Addr) : AQ Tryd.prog (Instr.fieldAt tGate (.pointer (some a)) 3) (.pointer (some (a.add 3))) := aq_fld (off := 3) (sz := 1) (by kernel_rfl) (by decide) a
theorem fg4 (a : Addr) : AQ Tryd.prog (Instr.fieldAt tGate (.pointer (some a)) 4) (.pointer (some (a.add 4))) := aq_fld (off := 4) (sz := 1) (by kernel_rfl) (by decide) a
section
variable {base : Nat} {H : HH} {K : Value → HH → Prop} {a : Addr} {g : Gate}
theorem GAt.ext {H' : HH} (h : GAt H a g) (he : Ext H H') : GAt H' a g := fun j u hu => cellH_ext he (h j u hu)
theorem GAt.kind (h : GAt H a g) : QRun Tryd.prog (Instr.loadAt 3 (.pointer (some (a.add 0)))) H (.int .i64 g.kind) := q_ld sc3 (h 0 _ rfl)
theorem GAt.frm (h : GAt H a g) : QRun Tryd.prog (Instr.loadAt 3 (.pointer (some (a.add 1)))) H (.int .i64 g.frm) := q_ld sc3 (h 1 _ rfl)
theorem GAt.sa (h : GAt H a g) : QRun Tryd.prog (Instr.loadAt 3 (.pointer (some (a.add 2)))) H (.int .i64 g.a) := q_ld sc3 (h 2 _ rfl)
theorem GAt.sb (h : GAt H a g) : QRun Tryd.prog (Instr.loadAt 3 (.pointer (some (a.add 3)))) H (.int .i64 g.b) := q_ld sc3 (h 3 _ rfl)
theorem GAt.k (h : GAt H a g) : QRun Tryd.prog (Instr.loadAt 22 (.pointer (some (a.add 4)))) H (.int .u64 g.k) := q_ld sc22 (h 4 _ rfl)
theorem GAt.all (h : GAt H a g) : QRun Tryd.prog (Instr.loadAt tGate (.pointer (some a))) H (.agg (gv g).toArray) := q_lda (cs := gv g) (by kernel_rfl) infoG h
theorem gat_blk {b : Nat} (h : H b = some (.cells (gv g).toArray tGate (0, 0))) : GAt H ⟨b, 0, none⟩ g := fun j u hu => by
  rw [add0, cellH_blk h, ← Array.getElem?_toList]
  exact hu
theorem h_gbox (hk : ∀ a H', Ext H H' → GAt H' a g → K (.pointer (some a)) H') : HRun Tryd.prog base (Instr.box tGate (.agg (gv g).toArray)) H K :=
  h_box (fun b hb hbase => hk _ _ (Ext.upd hb _) (gat_blk (upd_self _ _ _)))
theorem h_gvar {old : Value} {C : Addr → HH → Prop} (hk : ∀ a H', Ext H H' → GAt H' a g → C a H') :
    HRun Tryd.prog base (Instr.alloc tGate true old) H fun v H1 => ∃ a : Addr, v = .pointer (some a) ∧ HRun Tryd.prog base (Instr.storeAt tGate (.pointer (some a)) (.agg (gv g).toArray)) H1 fun _ H2 => C a H2 :=
  h_var (vs := gv g) (z := .agg #[.int .i64 0, .int .i64 0, .int .i64 0, .int .i64 0, .int .u64 0]) (by kernel_rfl) rfl infoG rfl (fun b H' he hbase hn hb => hk _ H' he (gat_blk hb))
end
def FAt (H : HH) (b : Nat) (f : Form) : Prop := H b = some (.cells (fv f).toArray tForm (0, 0))
theorem infoF : (Tryd.prog.info? tForm).map (·.size) = some 7 := by kernel_rfl
theorem ff (b n : Nat) (h : n < 7) : AQ Tryd.prog (Instr.fieldAt tForm (.pointer (some ⟨b, 0, none⟩)) n) (.pointer (some ⟨b, n, none⟩)) := by
  match n, h with
  | 0, _ => have := aq_fld (P := Tryd.prog) (s := tForm) (f := 0) (off := 0) (sz := 1) (by kernel_rfl) (by decide) ⟨b, 0, none⟩; rwa [add0] at this
  | 1, _ => have := aq_fld (P := Tryd.prog) (s := tForm) (f := 1) (off := 1) (sz := 1) (by kernel_rfl) (by decide) ⟨b, 0, none⟩; rwa [add0] at this
  | 2, _ => have := aq_fld (P := Tryd.prog) (s := tForm) (f := 2) (off := 2) (sz := 1) (by kernel_rfl) (by decide) ⟨b, 0, none⟩; rwa [add0] at this
  | 3, _ => have := aq_fld (P := Tryd.prog) (s := tForm) (f := 3) (off := 3) (sz := 1) (by kernel_rfl) (by decide) ⟨b, 0, none⟩; rwa [add0] at this
  | 4, _ => have := aq_fld (P := Tryd.prog) (s := tForm) (f := 4) (off := 4) (sz := 1) (by kernel_rfl) (by decide) ⟨b, 0, none⟩; rwa [add0] at this
  | 5, _ => have := aq_fld (P := Tryd.prog) (s := tForm) (f := 5) (off := 5) (sz := 1) (by kernel_rfl) (by decide) ⟨b, 0, none⟩; rwa [add0] at this
  | 6, _ => have := aq_fld (P := Tryd.prog) (s := tForm) (f := 6) (off := 6) (sz := 1) (by kernel_rfl) (by decide) ⟨b, 0, none⟩; rwa [add0] at this
theorem scBo : scalarB Tryd.prog 4 = true := by kernel_rfl
section
variable {base : Nat} {H : HH} {K : Value → HH → Prop} {b : Nat} {f : Form}
theorem FAt.ext {H' : HH} (h : FAt H b f) (he : Ext H H') : FAt H' b f := he _ _ h
theorem FAt.kind (h : FAt H b f) : QRun Tryd.prog (Instr.loadAt 3 (.pointer (some ⟨b, 1, none⟩))) H (.int .i64 f.kind) := q_ld sc3 (by rw [cellH_blk h]; rfl)
theorem FAt.fr (h : FAt H b f) : QRun Tryd.prog (Instr.loadAt 4 (.pointer (some ⟨b, 2, none⟩))) H (.bool f.fr) := q_ld scBo (by rw [cellH_blk h]; rfl)
theorem FAt.k (h : FAt H b f) : QRun Tryd.prog (Instr.loadAt 4 (.pointer (some ⟨b, 3, none⟩))) H (.bool f.k) := q_ld scBo (by rw [cellH_blk h]; rfl)
theorem FAt.sa (h : FAt H b f) : QRun Tryd.prog (Instr.loadAt 4 (.pointer (some ⟨b, 4, none⟩))) H (.bool f.a) := q_ld scBo (by rw [cellH_blk h]; rfl)
theorem FAt.sb (h : FAt H b f) : QRun Tryd.prog (Instr.loadAt 4 (.pointer (some ⟨b, 5, none⟩))) H (.bool f.b) := q_ld scBo (by rw [cellH_blk h]; rfl)
theorem FAt.bit (h : FAt H b f) : QRun Tryd.prog (Instr.loadAt 4 (.pointer (some ⟨b, 6, none⟩))) H (.bool f.bit) := q_ld scBo (by rw [cellH_blk h]; rfl)
theorem FAt.all (h : FAt H b f) : QRun Tryd.prog (Instr.loadAt tForm (.pointer (some ⟨b, 0, none⟩))) H (.agg (fv f).toArray) :=
  q_lda (cs := fv f) (by kernel_rfl) infoF (fun j u hu => by
    rw [add0, cellH_blk h, ← Array.getElem?_toList]
    exact hu)
def form0 : Form := ⟨⟨#[]⟩, 0, false, false, false, false, false⟩
theorem h_fvar {old : Value} {C : Addr → HH → Prop} (hk : ∀ b H', Ext H H' → FAt H' b f → C ⟨b, 0, none⟩ H') :
    HRun Tryd.prog base (Instr.alloc tForm true old) H fun v H1 => ∃ a : Addr, v = .pointer (some a) ∧ HRun Tryd.prog base (Instr.storeAt tForm (.pointer (some a)) (.agg (fv f).toArray)) H1 fun _ H2 => C a H2 :=
  h_var (vs := fv f) (z := .agg (fv form0).toArray) (by kernel_rfl) rfl infoF rfl (fun b H' he hbase hn hb => hk _ H' he hb)
theorem aq_eqb {P : Program} {t : TypeId} (ht : P.underlying t = some .bool) {x y : Operand} (u v : Bool) : AQ P (binSem .eql t x y (.bool u) (.bool v)) (.bool (u == v)) := fun W => by
  have e : (Op.equal t (.bool u) (.bool v)).run P W = .ok (u == v) W := by
    show (Op.equalIn (_ + 1) t (.bool u) (.bool v)).run P W = _
    unfold Op.equalIn
    simp [run_under ht]
  have e2 : (eqGuard .eql t x y (.bool u) (.bool v)).run P W = .ok () W := by
    unfold eqGuard
    cases u <;> cases v <;> simp [bind, Sem.bind, pure, Sem.run]
  unfold binSem
  simp [binOp, e, e2]
theorem unBo : Tryd.prog.underlying 4 = some .bool := by kernel_rfl
theorem form_at (i : Nat) (h : i < 7) : ∃ f, formL[i]? = some f ∧ AQ Tryd.prog (Instr.index tForms (.agg (formL.flatMap fv).toArray) (.int .i64 i)) (.agg (fv f).toArray) := by
  match i, h with
  | 0, _ => exact ⟨_, rfl, fun W => by kernel_rfl⟩
  | 1, _ => exact ⟨_, rfl, fun W => by kernel_rfl⟩
  | 2, _ => exact ⟨_, rfl, fun W => by kernel_rfl⟩
  | 3, _ => exact ⟨_, rfl, fun W => by kernel_rfl⟩
  | 4, _ => exact ⟨_, rfl, fun W => by kernel_rfl⟩
  | 5, _ => exact ⟨_, rfl, fun W => by kernel_rfl⟩
  | 6, _ => exact ⟨_, rfl, fun W => by kernel_rfl⟩
end
end Go.Proofs.YtjpaichcaaacbabDoor.HL
end
section
set_option linter.unusedVariables false
set_option linter.unusedSimpArgs false
set_option linter.unusedSectionVars false
set_option maxHeartbeats 4000000
namespace Go.Proofs.YtjpaichcaaacbabDoor.HL
open Go Go.Proofs.YtjpaichcaaacbabDoorNum Go.Proofs.YtjpaichcaaacbabDoor.FEv
def matchB (g : Gate) (f : Form) : Bool := f.kind == g.kind && f.bit == (g.kind == 1 && g.k == 1)
def ofS (g : Gate) : Option Form := formL.find? (matchB g)
theorem ofS_at {g : Gate} {i : Nat} {f : Form} (hi : formL[i]? = some f) (hm : matchB g f = true) (hno : ∀ j f, j < i → formL[j]? = some f → matchB g f = false) : ofS g = some f := by
  unfold ofS
  obtain ⟨h, e⟩ := List.getElem?_eq_some_iff.1 hi
  refine List.find?_eq_some_iff_getElem.2 ⟨hm, i, h, e, fun j hj => ?_⟩
  have := hno j _ hj (List.getElem?_eq_getElem (Nat.lt_trans hj h))
  simp [this]
theorem ofS_none {g : Gate} (hno : ∀ j f, j < 7 → formL[j]? = some f → matchB g f = false) : ofS g = none := by
  unfold ofS
  refine List.find?_eq_none.2 (fun f hf => ?_)
  obtain ⟨j, hj, rfl⟩ := List.getElem_of_mem hf
  have := hno j _ hj (List.getElem?_eq_getElem hj)
  simp [this]
section
variable {base : Nat} {H : HH} {K : Value → HH → Prop}
theorem HRun.use' {α : Type} {P : Program} {base : Nat} {H : HH} {s : Sem α} {Q K : α → HH → Prop} (h : HRun P base s H Q) (hk : ∀ v H', Q v H' → K v H') : HRun P base s H K := fun W hs hb => by
  obtain ⟨v, W', H', h1, h2, h3⟩ := h W hs hb
  exact ⟨v, W', H', h1, hk _ _ h2, h3⟩
theorem ext_new {H H' : HH} {x : Nat} {o : Obj} (he : Ext H H') (hn : H x = none) : Ext H (upd H' x o) := fun k o' hk => by
  have : k ≠ x := fun e => by rw [e, hn] at hk; cases hk
  rw [upd_ne _ this]
  exact he k o' hk
theorem q_res {l : List Value} {x : Nat} {f : Form} {ok : Bool} (h2 : l[2]? = some (.pointer (some ⟨x, 0, none⟩))) (h3 : l[3]? = some (.bool ok)) (h : FAt H x f) : QRun Tryd.prog (results Tryd.f33 l.toArray) H (.tuple #[.agg (fv f).toArray, .bool ok]) := fun W hs => by
  have er : Tryd.f33.results = #[.cell 2 tForm, .tmp 3] := by kernel_rfl
  have hl := h.all W hs
  simp only [Instr.loadAt, Instr.sureAddr] at hl
  have e2 : l.toArray.getD 2 undef = .pointer (some ⟨x, 0, none⟩) := by simp [Array.getD_eq_getD_getElem?, h2]
  have e3 : l.toArray.getD 3 undef = .bool ok := by simp [Array.getD_eq_getD_getElem?, h3]
  unfold results
  rw [er]
  simp [e2, e3, asAddr, hl]
  simp_all
theorem h_of (hG : Gl H) (g : Gate) (hk1 : ∀ f, ofS g = some f → ∀ H', Ext H H' → K (.tuple #[.agg (fv f).toArray, .bool true]) H') (hk2 : ofS g = none → ∀ H', Ext H H' → K (.tuple #[.agg (fv form0).toArray, .bool false]) H') : HCall Tryd.prog base 33 #[.agg (gv g).toArray] H K := by
  refine circuit_of.spec ?_
  unfold circuit_of.sh
  refine h_gbox (g := g) (fun a H1 X1 ga => ⟨_, rfl, ?_⟩)
  refine h_alloc (z := .agg (fv form0).toArray) (by kernel_rfl) (fun x hx hxb => ⟨_, rfl, ?_⟩)
  have X2 : Ext H1 (upd H1 x (.cells (Value.agg (fv form0).toArray).cells tForm)) := Ext.upd hx _
  have hx2 : (upd H1 x (.cells (Value.agg (fv form0).toArray).cells tForm)) x = some (.cells (Value.agg (fv form0).toArray).cells tForm (0, 0)) := upd_self _ _ _
  generalize upd H1 x (.cells (Value.agg (fv form0).toArray).cells tForm) = H2 at X2 hx2 ⊢
  refine ⟨_, _, _, _, _, _, _, _, _, _, _, _, _, _, _, _, _, _, _, _, _, _, _, _, _, _, _, _, _, _, _, _, _, _, _, _, _, _, _, _, _, _, _, _, _, _, _, _, _, ((hG.ext X1).ext X2).form_all, ?_⟩
  refine circuit_of.loop0 (fun n y H' => ∃ i : Nat, y = i ∧ i ≤ 7 ∧ n = 7 - i ∧ Ext H2 H' ∧ ∀ j f, j < i → formL[j]? = some f → matchB g f = false) 7 ⟨0, rfl, by decide, rfl, .refl _, fun j f hj => by omega⟩ ?_
  rintro n y fr H3 ⟨i, rfl, hi, rfl, X3, hno⟩
  have hHx : H x = none := X1.none hx
  unfold circuit_of.B0
  split
  · rename_i e
    have e : i < 7 := by have := of_decide_eq_true e; omega
    obtain ⟨f, hf, hix⟩ := form_at i e
    refine ⟨_, _, _, _, _, _, _, hix, h_fvar (f := f) (fun b H4 X4 fa => ?_)⟩
    have g4 := ((ga.ext X2).ext X3).ext X4
    have X24 := X3.trans X4
    have XH := X1.trans (X2.trans X24)
    refine ⟨_, ff b 1 (by decide), _, fa.kind, _, fg0 a, _, g4.kind, ?_⟩
    have next : matchB g f = false → ∃ n', n' < 7 - i ∧ ∃ y' : Int, Value.int .i64 (IntKind.i64.wrap ((i : Int) + 1)) = .int .i64 y' ∧ ∃ i : Nat, y' = i ∧ i ≤ 7 ∧ n' = 7 - i ∧ Ext H2 H4 ∧ ∀ j f, j < i → formL[j]? = some f → matchB g f = false := fun hm =>
      ⟨7 - i - 1, by omega, _, rfl, i + 1, nxt (n := 1000) (by omega) (by decide), by omega, by omega, X24, fun j f' hj hf' => by
        by_cases h : j = i
        · subst h; rw [hf] at hf'; cases hf'; exact hm
        · exact hno j f' (by omega) hf'⟩
    have found : matchB g f = true → HRun Tryd.prog base (Instr.storeAt tForm (.pointer (some ⟨x, 0, none⟩)) (.agg (fv f).toArray)) H4 fun _ H85 => FAt H85 x f ∧ K (.tuple #[.agg (fv f).toArray, .bool true]) H85 := fun hm =>
      h_sta (vs := fv f) infoF rfl (X24 _ _ hx2) hxb rfl ⟨upd_self _ _ _, hk1 f (ofS_at hf hm hno) _ (ext_new XH hHx)⟩
    by_cases hk : f.kind = g.kind
    · rw [if_pos (by simpa using hk)]
      refine ⟨_, ff b 6 (by decide), _, fa.bit, _, fg0 a, _, g4.kind, ?_⟩
      by_cases h1 : g.kind = 1
      · rw [if_pos (by simpa using h1)]
        refine ⟨_, fg4 a, _, g4.k, _, aq_eqb unBo _ _, ?_⟩
        split
        · rename_i em
          have hm : matchB g f = true := by simp only [matchB, hk, h1]; simpa using em
          exact ⟨_, _, _, _, _, _, _, fa.all, (found hm).use' (fun _ H5 ⟨q1, q2⟩ => ⟨_, q_res rfl rfl q1, q2⟩)⟩
        · rename_i em
          exact next (by simp only [matchB, hk, h1]; simpa using em)
      · rw [if_neg (by simpa using h1)]
        refine ⟨_, aq_eqb unBo _ _, ?_⟩
        have hg1 : (g.kind == 1) = false := by simpa using h1
        split
        · rename_i em
          have hm : matchB g f = true := by simp only [matchB, hk, hg1]; simpa using em
          exact ⟨_, _, _, _, _, _, _, fa.all, (found hm).use' (fun _ H5 ⟨q1, q2⟩ => ⟨_, q_res rfl rfl q1, q2⟩)⟩
        · rename_i em
          exact next (by simp only [matchB, hk, hg1]; simpa using em)
    · rw [if_neg (by simpa using hk)]
      exact next (by simp [matchB, hk])
  · rename_i e
    have e : i = 7 := by
      have : ¬ ((i : Int) < 7) := fun h => e (decide_eq_true h)
      omega
    subst e
    refine ⟨_, _, _, _, _, _, _, (show AQ Tryd.prog (Instr.build tForm #[]) (.agg (fv form0).toArray) from fun W => by kernel_rfl), ?_⟩
    refine h_sta (vs := fv form0) infoF rfl (X3 _ _ hx2) hxb rfl ⟨_, q_res (f := form0) rfl rfl (upd_self _ _ _), hk2 (ofS_none hno) _ (ext_new (X1.trans (X2.trans X3)) hHx)⟩
end
end Go.Proofs.YtjpaichcaaacbabDoor.HL
end
section
set_option linter.unusedVariables false
set_option linter.unusedSimpArgs false
set_option linter.unusedSectionVars false
set_option maxHeartbeats 4000000
namespace Go.Proofs.YtjpaichcaaacbabDoor.HL
open Go Go.Proofs.YtjpaichcaaacbabDoorNum Go.Proofs.YtjpaichcaaacbabDoor.FEv
def sideB (has : Bool) (x at_ : Int) : Bool := if has = true then decide (x ≥ 0) && decide (x < at_) else x == 0
def fromB (f : Form) (g : Gate) : Bool := if f.fr = true then decide (g.frm ≥ 1) && decide (g.frm ≤ 13) else g.frm == 0
def kB (p : Int) (f : Form) (g : Gate) : Bool := if f.k = true then decide (g.k < p) else (g.k == 0 || f.bit)
def rightB (p : Int) (g : Gate) (at_ : Int) : Bool := match ofS g with
  | none => false
  | some f => fromB f g && kB p f g && (sideB f.a g.a at_ && sideB f.b g.b at_)
section
variable {base : Nat} {H : HH} {K : Value → HH → Prop} {ad : Addr}
theorem h_side {has : Bool} {x at_ : Int} (hq : QRun Tryd.prog (Instr.loadAt 3 (.pointer (some ad))) H (.int .i64 at_)) (hk : K (.bool (sideB has x at_)) H) : HCall Tryd.prog base 34 #[.bool has, .int .i64 x, .pointer (some ad)] H K := by
  refine circuit_right_1.spec ?_
  unfold circuit_right_1.sh
  unfold sideB at hk
  cases has with
  | false =>
    rw [if_pos (by decide)]
    rw [if_neg (by decide)] at hk
    split
    · rename_i e
      rw [if_neg (by decide)]
      rwa [e] at hk
    · rename_i e
      have e : (x == 0) = true := by simpa using e
      rwa [e] at hk
  | true =>
    rw [if_neg (by decide), if_pos rfl]
    rw [if_pos rfl] at hk
    split
    · rename_i e
      refine ⟨_, hq, ?_⟩
      rwa [e, Bool.true_and] at hk
    · rename_i e
      have e : decide (x ≥ 0) = false := by simpa using e
      rwa [e, Bool.false_and] at hk
variable {a : Addr} {b : Nat} {g : Gate} {f : Form} {p at_ : Int}
theorem r1 {x9 x10 : Bool} (ga : GAt H a g) (fa : FAt H b f) (hq : QRun Tryd.prog (Instr.loadAt 3 (.pointer (some ad))) H (.int .i64 at_)) (hk : K (.bool (x9 && x10 && (sideB f.a g.a at_ && sideB f.b g.b at_))) H) :
    circuit_right.R1 base [.pointer (some a), .pointer (some ad), .pointer (some ⟨b, 0, none⟩), .bool x9, .bool x10] H K := by
  refine circuit_right.cut1 ?_
  unfold circuit_right.T1 circuit_right.S1
  cases x9 with
  | false => rw [if_neg (by decide)]; exact hk
  | true =>
    rw [if_pos rfl]
    cases x10 with
    | false => rw [if_neg (by decide)]; exact hk
    | true =>
      rw [if_pos rfl]
      refine ⟨_, ff b 4 (by decide), _, fa.sa, _, fg2 a, _, ga.sa, h_side hq ⟨_, rfl, ?_⟩⟩
      split
      · rename_i e
        refine ⟨_, ff b 5 (by decide), _, fa.sb, _, fg3 a, _, ga.sb, h_side hq ⟨_, rfl, ?_⟩⟩
        rw [e] at hk
        simpa using hk
      · rename_i e
        have e : sideB f.a g.a at_ = false := by simpa using e
        rw [e] at hk
        simpa using hk
theorem r0 {x9 : Bool} (ga : GAt H a g) (fa : FAt H b f) (hq : QRun Tryd.prog (Instr.loadAt 3 (.pointer (some ad))) H (.int .i64 at_)) (hk : K (.bool (x9 && kB p f g && (sideB f.a g.a at_ && sideB f.b g.b at_))) H) :
    circuit_right.R0 base [.int .u64 p, .pointer (some a), .pointer (some ad), .pointer (some ⟨b, 0, none⟩), .bool x9] H K := by
  refine circuit_right.cut0 ?_
  unfold circuit_right.T0 circuit_right.S0
  have qk := fa.k
  unfold kB at hk
  cases hfk : f.k with
  | false =>
    rw [hfk] at qk hk
    rw [if_neg (by decide)] at hk
    refine ⟨_, ff b 3 (by decide), _, qk, ?_⟩
    rw [if_pos (by decide)]
    refine ⟨_, fg4 a, _, ga.k, ?_⟩
    split
    · rename_i e
      rw [e, Bool.false_or] at hk
      refine ⟨_, ff b 6 (by decide), _, fa.bit, ?_⟩
      split
      · rename_i e2
        rw [e2] at hk
        refine ⟨_, ff b 3 (by decide), _, qk, ?_⟩
        rw [if_neg (by decide)]
        exact r1 ga fa hq hk
      · rename_i e2
        rw [show f.bit = true by simpa using e2] at hk
        exact r1 ga fa hq hk
    · rename_i e
      rw [show (g.k == 0) = true by simpa using e, Bool.true_or] at hk
      exact r1 ga fa hq hk
  | true =>
    rw [hfk] at qk hk
    rw [if_pos rfl] at hk
    refine ⟨_, ff b 3 (by decide), _, qk, ?_⟩
    rw [if_neg (by decide)]
    refine ⟨_, ff b 3 (by decide), _, qk, ?_⟩
    rw [if_pos rfl]
    exact ⟨_, fg4 a, _, ga.k, r1 ga fa hq hk⟩
theorem h_right (hG : Gl H) (g : Gate) (p at_ : Int) (hk : ∀ H', Ext H H' → K (.bool (rightB p g at_)) H') : HCall Tryd.prog base 27 #[.int .u64 p, .agg (gv g).toArray, .int .i64 at_] H K := by
  refine circuit_right.spec ?_
  unfold circuit_right.sh
  refine h_gbox (g := g) (fun a H1 X1 ga => ⟨_, rfl, h_box (fun c hc hcb => ⟨_, rfl, ?_⟩)⟩)
  have X2 : Ext H1 (upd H1 c (.cells (Value.int .i64 at_).cells 3)) := Ext.upd hc _
  have hq : QRun Tryd.prog (Instr.loadAt 3 (.pointer (some ⟨c, 0, none⟩))) (upd H1 c (.cells (Value.int .i64 at_).cells 3)) (.int .i64 at_) := q_ld sc3 (by rw [cellH_blk (upd_self _ _ _)]; rfl)
  generalize upd H1 c (.cells (Value.int .i64 at_).cells 3) = H2 at X2 hq ⊢
  have ga2 := ga.ext X2
  have X12 := X1.trans X2
  refine ⟨_, _, _, _, _, ga2.all, ?_⟩
  refine h_of (hG.ext X12) g (fun f hf H3 X3 => ⟨_, _, _, _, _, _, _, _, rfl, h_fvar (f := f) (fun b H4 X4 fa => ?_)⟩) (fun hf H3 X3 => ⟨_, _, _, _, _, _, _, _, rfl, h_fvar (f := form0) (fun b H4 X4 fa => ?_)⟩)
  rotate_left
  · rw [if_pos (by decide)]
    have := hk H4 (X12.trans (X3.trans X4))
    unfold rightB at this
    rwa [hf] at this
  rw [if_neg (by decide)]
  have X34 := X3.trans X4
  have ga4 := ga2.ext X34
  have hq4 : QRun Tryd.prog (Instr.loadAt 3 (.pointer (some ⟨c, 0, none⟩))) H4 (.int .i64 at_) := fun W hs => hq W (fun k o hk => hs k o (X34 k o hk))
  have hk := hk H4 (X12.trans X34)
  unfold rightB at hk
  rw [hf] at hk
  simp only at hk
  unfold fromB at hk
  have qf := fa.fr
  cases hff : f.fr with
  | false =>
    rw [hff] at qf hk
    rw [if_neg (by decide)] at hk
    refine ⟨_, ff b 2 (by decide), _, qf, ?_⟩
    rw [if_pos (by decide)]
    refine ⟨_, fg1 a, _, ga4.frm, ?_⟩
    split
    · rename_i e
      rw [e] at hk
      refine ⟨_, ff b 2 (by decide), _, qf, ?_⟩
      rw [if_neg (by decide)]
      exact r0 ga4 fa hq4 hk
    · rename_i e
      rw [show (g.frm == 0) = true by simpa using e] at hk
      exact r0 ga4 fa hq4 hk
  | true =>
    rw [hff] at qf hk
    rw [if_pos rfl] at hk
    refine ⟨_, ff b 2 (by decide), _, qf, ?_⟩
    rw [if_neg (by decide)]
    refine ⟨_, ff b 2 (by decide), _, qf, ?_⟩
    rw [if_pos rfl]
    refine ⟨_, fg1 a, _, ga4.frm, ?_⟩
    split
    · rename_i e
      rw [e, Bool.true_and] at hk
      exact ⟨_, fg1 a, _, ga4.frm, r0 ga4 fa hq4 hk⟩
    · rename_i e
      rw [show decide (g.frm ≥ 1) = false by simpa using e, Bool.false_and] at hk
      exact r0 ga4 fa hq4 hk
end
end Go.Proofs.YtjpaichcaaacbabDoor.HL
end
section
set_option linter.unusedVariables false
set_option linter.unusedSimpArgs false
set_option linter.unusedSectionVars false
set_option maxHeartbeats 4000000
namespace Go.Proofs.YtjpaichcaaacbabDoor.HL
open Go Go.Proofs.YtjpaichcaaacbabDoorNum Go.Proofs.YtjpaichcaaacbabDoor.FEv
abbrev tC : Nat := 26
abbrev tGates : Nat := 23
abbrev tInts : Nat := 24
theorem unGates : Tryd.prog.underlying tGates = some (.slice tGate) := by kernel_rfl
theorem unInts : Tryd.prog.underlying tInts = some (.slice 3) := by kernel_rfl
theorem scGates : scalarB Tryd.prog tGates = true := by kernel_rfl
theorem scInts : scalarB Tryd.prog tInts = true := by kernel_rfl
def gate0 : Gate := ⟨0, 0, 0, 0, 0⟩
def gc (gs : List Gate) : List Value := gs.flatMap gv
theorem gc_get : ∀ (gs : List Gate) (i : Nat) (g : Gate), gs[i]? = some g → ∀ (j : Nat) (u : Value), (gv g)[j]? = some u → (gc gs)[i * 5 + j]? = some u
  | [], i, g, h, j, u, hu => by simp at h
  | r :: gs, 0, g, h, j, u, hu => by
    cases h
    show (gv r ++ gc gs)[0 * 5 + j]? = some u
    rw [Nat.zero_mul, Nat.zero_add, List.getElem?_append_left (List.getElem?_eq_some_iff.1 hu).1]
    exact hu
  | r :: gs, i + 1, g, h, j, u, hu => by
    have := gc_get gs i g (by simpa using h) j u hu
    show (gv r ++ gc gs)[(i + 1) * 5 + j]? = some u
    have hl : (gv r).length = 5 := rfl
    rw [List.getElem?_append_right (by rw [hl]; omega), hl, show (i + 1) * 5 + j - 5 = i * 5 + j by omega]
    exact this
def Gs (H : HH) (A : Option Addr) (n : Nat) (gs : List Gate) : Prop := n = gs.length ∧ Rd H A (gc gs)
def Outs (H : HH) (A : Option Addr) (n : Nat) (l : List Int) : Prop := n = l.length ∧ Rd H A (is l)
section
variable {base : Nat} {H : HH} {K : Value → HH → Prop} {A A' : Option Addr} {n n' c c' b : Nat} {p : Int} {gs : List Gate} {outs : List Int}
theorem Gs.ext {H' : HH} (h : Gs H A n gs) (he : Ext H H') : Gs H' A n gs := ⟨h.1, h.2.ext he⟩
theorem Outs.ext {H' : HH} (h : Outs H A n outs) (he : Ext H H') : Outs H' A n outs := ⟨h.1, h.2.ext he⟩
theorem Gs.at (h : Gs H A n gs) (c : Nat) {i : Nat} (hi : i < n) : ∃ a, AQ Tryd.prog (Instr.indexAt tGates (.slice A n c) (.int .i64 i)) (.pointer (some a)) ∧ GAt H a (gs.getD i gate0) := by
  obtain ⟨e, h⟩ := h
  have hg : gs[i]? = some (gs.getD i gate0) := by simp [show i < gs.length by omega]
  obtain ⟨ad, rfl, hc⟩ := Rd.at h (gc_get gs i _ hg 0 _ rfl)
  refine ⟨_, aq_ix unGates infoG (by omega) (by omega), fun j u hu => ?_⟩
  obtain ⟨ad', e', hc'⟩ := Rd.at h (gc_get gs i _ hg j u hu)
  cases e'
  rw [Int.toNat_natCast, addr_add']
  exact hc'
theorem Outs.at (h : Outs H A n outs) (c : Nat) {i : Nat} (hi : i < n) : ∃ a, AQ Tryd.prog (Instr.indexAt tInts (.slice A n c) (.int .i64 i)) (.pointer (some a)) ∧ QRun Tryd.prog (Instr.loadAt 3 (.pointer (some a))) H (.int .i64 (outs.getD i 0)) := by
  obtain ⟨e, h⟩ := h
  obtain ⟨ad, rfl, hc⟩ := Rd.at h (i := i) (u := .int .i64 (outs.getD i 0)) (by simp [is, show i < outs.length by omega])
  refine ⟨_, aq_ix unInts info3 (by omega) (by omega), q_ld sc3 ?_⟩
  rw [Int.toNat_natCast, Nat.mul_one]; exact hc
/-- What lies in a circuit's variable. -/
def CB (H : HH) (b : Nat) (p : Int) (A : Option Addr) (n c : Nat) (A' : Option Addr) (n' c' : Nat) : Prop := H b = some (.cells #[.int .u64 p, .slice A n c, .slice A' n' c'] tC (0, 0))
theorem fc0 (b : Nat) : AQ Tryd.prog (Instr.fieldAt tC (.pointer (some ⟨b, 0, none⟩)) 0) (.pointer (some ⟨b, 0, none⟩)) := by
  have := aq_fld (P := Tryd.prog) (s := tC) (f := 0) (off := 0) (sz := 1) (by kernel_rfl) (by decide) ⟨b, 0, none⟩
  rwa [add0] at this
theorem fc1 (b : Nat) : AQ Tryd.prog (Instr.fieldAt tC (.pointer (some ⟨b, 0, none⟩)) 1) (.pointer (some ⟨b, 1, none⟩)) := by
  have := aq_fld (P := Tryd.prog) (s := tC) (f := 1) (off := 1) (sz := 1) (by kernel_rfl) (by decide) ⟨b, 0, none⟩
  rwa [add0] at this
theorem fc2 (b : Nat) : AQ Tryd.prog (Instr.fieldAt tC (.pointer (some ⟨b, 0, none⟩)) 2) (.pointer (some ⟨b, 2, none⟩)) := by
  have := aq_fld (P := Tryd.prog) (s := tC) (f := 2) (off := 2) (sz := 1) (by kernel_rfl) (by decide) ⟨b, 0, none⟩
  rwa [add0] at this
theorem CB.ext {H' : HH} (h : CB H b p A n c A' n' c') (he : Ext H H') : CB H' b p A n c A' n' c' := he _ _ h
theorem CB.qp (h : CB H b p A n c A' n' c') : QRun Tryd.prog (Instr.loadAt 22 (.pointer (some ⟨b, 0, none⟩))) H (.int .u64 p) := q_ld sc22 (by rw [cellH_blk h]; rfl)
theorem CB.qgs (h : CB H b p A n c A' n' c') : QRun Tryd.prog (Instr.loadAt tGates (.pointer (some ⟨b, 1, none⟩))) H (.slice A n c) := q_ld scGates (by rw [cellH_blk h]; rfl)
theorem CB.qouts (h : CB H b p A n c A' n' c') : QRun Tryd.prog (Instr.loadAt tInts (.pointer (some ⟨b, 2, none⟩))) H (.slice A' n' c') := q_ld scInts (by rw [cellH_blk h]; rfl)
theorem CB.all (h : CB H b p A n c A' n' c') : QRun Tryd.prog (Instr.loadAt tC (.pointer (some ⟨b, 0, none⟩))) H (.agg #[.int .u64 p, .slice A n c, .slice A' n' c']) :=
  q_lda (cs := [.int .u64 p, .slice A n c, .slice A' n' c']) (by kernel_rfl) (by kernel_rfl) (fun j u hu => by
    rw [add0, cellH_blk h, ← Array.getElem?_toList]
    exact hu)
theorem h_cbox (hk : ∀ b H', Ext H H' → CB H' b p A n c A' n' c' → K (.pointer (some ⟨b, 0, none⟩)) H') : HRun Tryd.prog base (Instr.box tC (.agg #[.int .u64 p, .slice A n c, .slice A' n' c'])) H K :=
  h_box (fun b hb hbase => hk b _ (Ext.upd hb _) (upd_self _ _ _))
/-- An output that is none. -/
def badO (gs : List Gate) (x : Int) : Bool := decide (x < 0) || decide (x ≥ gs.length)
def validB (p : Int) (gs : List Gate) (outs : List Int) : Bool := supB p && (decide (gs.length ≤ 20000) && (decide (outs.length ≤ 1000) && ((List.range gs.length).all (fun i => rightB p (gs.getD i gate0) i) && !outs.any (badO gs))))
theorem h_bad (hc : CB H b p A gs.length c A' n' c') (x : Int) (hk : K (.bool (badO gs x)) H) : HCall Tryd.prog base 29 #[.int .i64 x, .pointer (some ⟨b, 0, none⟩)] H K := by
  refine circuit_Valid_1.spec ?_
  unfold circuit_Valid_1.sh
  unfold badO at hk
  split
  · rename_i e
    rw [e, Bool.false_or] at hk
    exact ⟨_, fc1 b, _, _, _, hc.qgs, hk⟩
  · rename_i e
    rw [show decide (x < 0) = true by simpa using e, Bool.true_or] at hk
    exact hk
theorem h_index (hc : CB H b p A gs.length c A' n' c') (ho : Outs H A' n' outs) (hz : outs.length ≤ 100000) (hk : ∀ z : Int, decide (z ≥ 0) = outs.any (badO gs) → K (.int .i64 z) H) : HCall Tryd.prog base 35 #[.slice A' n' c', .func (.func 29) #[] #[.pointer (some ⟨b, 0, none⟩)]] H K := by
  refine slices_IndexFunc_Lint_int.spec ?_
  unfold slices_IndexFunc_Lint_int.sh
  have e1 := ho.1
  refine slices_IndexFunc_Lint_int.loop0 (fun r y H' => H' = H ∧ ∃ i : Nat, y = i ∧ i ≤ n' ∧ r = n' - i ∧ ∀ j, j < i → badO gs (outs.getD j 0) = false) n' ⟨rfl, 0, rfl, Nat.zero_le _, rfl, fun j hj => by omega⟩ ?_
  rintro r y fr H1 ⟨rfl, i, rfl, hi, rfl, hno⟩
  unfold slices_IndexFunc_Lint_int.B0
  split
  · rename_i e
    have e := of_decide_eq_true e
    obtain ⟨a, q1, q2⟩ := ho.at c' (i := i) (by omega)
    refine ⟨a, q1, _, q2, h_bad hc _ ⟨_, rfl, ?_⟩⟩
    split
    · rename_i eb
      refine hk _ ?_
      have : outs.any (badO gs) = true := List.any_eq_true.2 ⟨outs.getD i 0, by
        have : outs.getD i 0 = outs[i]'(by omega) := by simp [show i < outs.length by omega]
        rw [this]; exact List.getElem_mem _, eb⟩
      rw [this]
      exact decide_eq_true (by omega)
    · rename_i eb
      have eb : badO gs (outs.getD i 0) = false := by simpa using eb
      exact ⟨n' - i - 1, by omega, _, rfl, rfl, i + 1, nxt (n := 1000000) (by omega) (by decide), by omega, by omega, fun j hj => by
        by_cases h : j = i
        · rw [h]; exact eb
        · exact hno j (by omega)⟩
  · rename_i e
    have e : ¬ ((i : Int) < (n' : Int)) := fun h => e (decide_eq_true h)
    refine hk _ ?_
    have : outs.any (badO gs) = false := by
      refine List.any_eq_false.2 (fun x hx => ?_)
      obtain ⟨j, hj, rfl⟩ := List.getElem_of_mem hx
      have h1 := hno j (by omega)
      have : outs.getD j 0 = outs[j] := by simp [hj]
      rw [this] at h1
      simp [h1]
    rw [this]
    rfl
theorem h_contains (hc : CB H b p A gs.length c A' n' c') (ho : Outs H A' n' outs) (hz : outs.length ≤ 100000) (hk : K (.bool (outs.any (badO gs))) H) : HCall Tryd.prog base 28 #[.slice A' n' c', .func (.func 29) #[] #[.pointer (some ⟨b, 0, none⟩)]] H K := by
  refine slices_ContainsFunc_Lint_int.spec ?_
  unfold slices_ContainsFunc_Lint_int.sh
  refine h_index hc ho hz (fun z hz => ⟨_, rfl, ?_⟩)
  rw [hz]
  exact hk
theorem h_valid (hG : Gl H) (hg : Gs H A n gs) (ho : Outs H A' n' outs) (hk : ∀ H', Ext H H' → K (.bool (validB p gs outs)) H') : HCall Tryd.prog base 15 #[.agg #[.int .u64 p, .slice A n c, .slice A' n' c']] H K := by
  refine circuit_Valid.spec ?_
  unfold circuit_Valid.sh
  obtain rfl := hg.1
  obtain rfl := ho.1
  refine h_cbox (fun b H1 X1 cb => ⟨_, rfl, _, fc0 b, _, cb.qp, h_fsup (hG.ext X1) p ⟨_, rfl, ?_⟩⟩)
  unfold validB at hk
  split
  rotate_left
  · rename_i e
    have e : supB p = false := by simpa using e
    have := hk H1 X1
    rwa [e, Bool.false_and] at this
  rename_i e
  rw [show supB p = true by simpa using e] at hk
  simp only [Bool.true_and] at hk
  refine ⟨_, fc1 b, _, _, _, cb.qgs, ?_⟩
  split
  rotate_left
  · rename_i e
    have e : ¬ gs.length ≤ 20000 := by
      intro h
      exact e (decide_eq_false (by omega))
    have := hk H1 X1
    rwa [decide_eq_false e, Bool.false_and] at this
  rename_i e
  have e := of_decide_eq_false e
  rw [decide_eq_true (show gs.length ≤ 20000 by omega)] at hk
  simp only [Bool.true_and] at hk
  refine ⟨_, fc2 b, _, _, _, cb.qouts, ?_⟩
  split
  · rename_i e
    have e := of_decide_eq_true e
    have := hk H1 X1
    rwa [decide_eq_false (show ¬ outs.length ≤ 1000 by omega), Bool.false_and] at this
  rename_i e1
  have e1 : ¬ ((outs.length : Int) > 1000) := fun h => e1 (decide_eq_true h)
  rw [decide_eq_true (show outs.length ≤ 1000 by omega)] at hk
  simp only [Bool.true_and] at hk
  refine ⟨_, fc1 b, _, _, _, cb.qgs, ?_⟩
  refine circuit_Valid.loop0 (fun r y H' => ∃ i : Nat, y = i ∧ i ≤ gs.length ∧ r = gs.length - i ∧ Ext H1 H' ∧ ∀ j, j < i → rightB p (gs.getD j gate0) j = true) gs.length ⟨0, rfl, Nat.zero_le _, rfl, .refl _, fun j hj => by omega⟩ ?_
  rintro r y fr H2 ⟨i, rfl, hi, rfl, X2, hyes⟩
  unfold circuit_Valid.B0
  split
  · rename_i e2
    have e2 := of_decide_eq_true e2
    obtain ⟨a, q1, q2⟩ := ((hg.ext X1).ext X2).at c (i := i) (by omega)
    refine ⟨a, q1, _, _, _, _, _, q2.all, h_gvar (fun a' H3 X3 ga => ?_)⟩
    have X23 := X2.trans X3
    refine ⟨_, fc0 b, _, (cb.ext X23).qp, _, _, _, _, _, ga.all, h_right (hG.ext (X1.trans X23)) _ p i (fun H4 X4 => ⟨_, rfl, ?_⟩)⟩
    split
    · rename_i er
      have er : rightB p (gs.getD i gate0) i = false := by simpa using er
      have := hk H4 (X1.trans (X23.trans X4))
      have ha : (List.range gs.length).all (fun i => rightB p (gs.getD i gate0) i) = false := List.all_eq_false.2 ⟨i, List.mem_range.2 (by omega), by simp only [er]; decide⟩
      rwa [ha, Bool.false_and] at this
    · rename_i er
      have er : rightB p (gs.getD i gate0) i = true := by simpa using er
      exact ⟨gs.length - i - 1, by omega, _, rfl, i + 1, nxt (n := 1000000) (by omega) (by decide), by omega, by omega, X23.trans X4, fun j hj => by
        by_cases h : j = i
        · rw [h]; exact er
        · exact hyes j (by omega)⟩
  · rename_i e2
    have e2 : ¬ ((i : Int) < (gs.length : Int)) := fun h => e2 (decide_eq_true h)
    have ha : (List.range gs.length).all (fun i => rightB p (gs.getD i gate0) i) = true := List.all_eq_true.2 (fun j hj => hyes j (by have := List.mem_range.1 hj; omega))
    rw [ha] at hk
    simp only [Bool.true_and] at hk
    refine ⟨_, fc2 b, _, _, _, (cb.ext X2).qouts, h_contains (cb.ext X2) ((ho.ext X1).ext X2) (by omega) ⟨_, rfl, hk H2 (X1.trans X2)⟩⟩
end
end Go.Proofs.YtjpaichcaaacbabDoor.HL
end
section
set_option linter.unusedVariables false
set_option linter.unusedSimpArgs false
set_option linter.unusedSectionVars false
set_option maxHeartbeats 4000000
namespace Go.Proofs.YtjpaichcaaacbabDoor.HL
open Go Go.Proofs.YtjpaichcaaacbabDoorNum Go.Proofs.YtjpaichcaaacbabDoor.FEv Go.Proofs.YtjpaichcaaacbabDoorW.PrintWords
theorem eq_gate (g g' : Gate) (W : World) : (Op.equalIn (9999 + 1) tGate (.agg (gv g).toArray) (.agg (gv g').toArray)).run Tryd.prog W = .ok (g.kind == g'.kind && (g.frm == g'.frm && (g.a == g'.a && (g.b == g'.b && g.k == g'.k)))) W := by
  refine eqA_of Tryd.underlying50 (by kernel_rfl) ?_
  refine eqf_cons rfl (a := .int .i64 g.kind) (b := .int .i64 g'.kind) (by kernel_rfl) (by kernel_rfl) (run_equalIn_int _ _ _ _ .i64 _ _ (by kernel_rfl)) ?_
  refine eqf_cons rfl (a := .int .i64 g.frm) (b := .int .i64 g'.frm) (by kernel_rfl) (by kernel_rfl) (run_equalIn_int _ _ _ _ .i64 _ _ (by kernel_rfl)) ?_
  refine eqf_cons rfl (a := .int .i64 g.a) (b := .int .i64 g'.a) (by kernel_rfl) (by kernel_rfl) (run_equalIn_int _ _ _ _ .i64 _ _ (by kernel_rfl)) ?_
  refine eqf_cons rfl (a := .int .i64 g.b) (b := .int .i64 g'.b) (by kernel_rfl) (by kernel_rfl) (run_equalIn_int _ _ _ _ .i64 _ _ (by kernel_rfl)) ?_
  exact eqf_last rfl (a := .int .u64 g.k) (b := .int .u64 g'.k) (by kernel_rfl) (by kernel_rfl) (run_equalIn_int _ _ _ _ .u64 _ _ (by kernel_rfl))
theorem gate_eq (g g' : Gate) : (g.kind == g'.kind && (g.frm == g'.frm && (g.a == g'.a && (g.b == g'.b && g.k == g'.k)))) = decide (g = g') := by
  obtain ⟨a, b, c, d, e⟩ := g
  obtain ⟨a', b', c', d', e'⟩ := g'
  simp only [Gate.mk.injEq, Bool.decide_and]
  rfl
end Go.Proofs.YtjpaichcaaacbabDoor.HL
end
section
set_option linter.unusedVariables false
set_option linter.unusedSimpArgs false
set_option linter.unusedSectionVars false
set_option maxHeartbeats 4000000
namespace Go.Proofs.YtjpaichcaaacbabDoor.HL
open Go Go.Proofs.YtjpaichcaaacbabDoorNum Go.Proofs.YtjpaichcaaacbabDoor.FEv
def refB (p i : Int) (g : Gate) : Bool :=
  if g.kind = 1 then decide (g = ⟨g.kind, g.frm, 0, 0, g.k⟩) && (decide (g.frm ≥ 1) && (decide (g.frm ≤ 13) && decide (g.k ≤ 1)))
  else if g.kind = 2 then decide (g = ⟨g.kind, 0, 0, 0, g.k⟩) && decide (g.k < p)
  else if g.kind = 5 then decide (g = ⟨g.kind, 0, g.a, 0, g.k⟩) && (decide (g.k < p) && (decide (g.a ≥ 0) && decide (g.a < i)))
  else if g.kind = 3 ∨ g.kind = 4 ∨ g.kind = 6 then decide (g = ⟨g.kind, 0, g.a, g.b, 0⟩) && (decide (g.a ≥ 0) && (decide (g.a < i) && (decide (g.b ≥ 0) && decide (g.b < i))))
  else false
section
variable {base : Nat} {H F : HH} {K : Value → HH → Prop} {a : Addr} {b : Nat} {g g' g'' : Gate} {p i : Int}
/-- A gate's variable of the call's own, over what stays known. -/
structure Bare (base : Nat) (F H : HH) (b : Nat) (g : Gate) : Prop where
  ext : Ext F H
  new : F b = none
  own : base ≤ b
  at_ : H b = some (.cells (gv g).toArray tGate (0, 0))
theorem Bare.gat (h : Bare base F H b g) : GAt H ⟨b, 0, none⟩ g := gat_blk h.at_
theorem h_bare {old : Value} {C : Addr → HH → Prop} (hk : ∀ b H', Bare base H H' b g → C ⟨b, 0, none⟩ H') :
    HRun Tryd.prog base (Instr.alloc tGate true old) H fun v H1 => ∃ a : Addr, v = .pointer (some a) ∧ HRun Tryd.prog base (Instr.storeAt tGate (.pointer (some a)) (.agg (gv g).toArray)) H1 fun _ H2 => C a H2 :=
  h_var (vs := gv g) (z := .agg (gv gate0).toArray) (by kernel_rfl) rfl infoG rfl (fun b H' he hbase hn hb => hk _ H' ⟨he, hn, hbase, hb⟩)
theorem fb (b j : Nat) (hj : j < 5) : AQ Tryd.prog (Instr.fieldAt tGate (.pointer (some ⟨b, 0, none⟩)) j) (.pointer (some ⟨b, j, none⟩)) := by
  match j, hj with
  | 0, _ => have := fg0 ⟨b, 0, none⟩; rwa [add0] at this
  | 1, _ => have := fg1 ⟨b, 0, none⟩; rwa [add0] at this
  | 2, _ => have := fg2 ⟨b, 0, none⟩; rwa [add0] at this
  | 3, _ => have := fg3 ⟨b, 0, none⟩; rwa [add0] at this
  | 4, _ => have := fg4 ⟨b, 0, none⟩; rwa [add0] at this
end
end Go.Proofs.YtjpaichcaaacbabDoor.HL
end
section
set_option linter.unusedVariables false
set_option linter.unusedSimpArgs false
set_option linter.unusedSectionVars false
set_option maxHeartbeats 4000000
namespace Go.Proofs.YtjpaichcaaacbabDoor.HL
open Go Go.Proofs.YtjpaichcaaacbabDoorNum Go.Proofs.YtjpaichcaaacbabDoor.FEv
theorem right_ref {p i : Int} {g : Gate} (h0 : 0 ≤ g.k) : rightB p g i = refB p i g := by
  obtain ⟨kind, frm, a, b, k⟩ := g
  simp only at h0
  unfold rightB refB
  by_cases k1 : kind = 1
  · subst k1
    by_cases hk : k = 1
    · subst hk
      have e : ofS ⟨1, frm, a, b, 1⟩ = some ⟨⟨#[98, 105, 116]⟩, 1, true, false, false, false, true⟩ := rfl
      rw [e, Bool.eq_iff_iff]
      simp [fromB, kB, sideB]
      omega
    · have e : ofS ⟨1, frm, a, b, k⟩ = some ⟨⟨#[105, 110]⟩, 1, true, false, false, false, false⟩ := by
        have hkf : (k == 1) = false := by simpa using hk
        simp [ofS, formL, matchB, List.find?, hkf]
      rw [e, Bool.eq_iff_iff]
      simp [fromB, kB, sideB]
      omega
  by_cases k2 : kind = 2
  · subst k2
    have e : ofS ⟨2, frm, a, b, k⟩ = some ⟨⟨#[99, 111, 110, 115, 116]⟩, 2, false, true, false, false, false⟩ := rfl
    rw [e, Bool.eq_iff_iff]
    simp [fromB, kB, sideB]
    omega
  by_cases k5 : kind = 5
  · subst k5
    have e : ofS ⟨5, frm, a, b, k⟩ = some ⟨⟨#[115, 99, 97, 108, 101]⟩, 5, false, true, true, false, false⟩ := rfl
    rw [e, Bool.eq_iff_iff]
    simp [fromB, kB, sideB]
    omega
  by_cases k3 : kind = 3
  · subst k3
    have e : ofS ⟨3, frm, a, b, k⟩ = some ⟨⟨#[97, 100, 100]⟩, 3, false, false, true, true, false⟩ := rfl
    rw [e, Bool.eq_iff_iff]
    simp [fromB, kB, sideB]
    omega
  by_cases k4 : kind = 4
  · subst k4
    have e : ofS ⟨4, frm, a, b, k⟩ = some ⟨⟨#[115, 117, 98]⟩, 4, false, false, true, true, false⟩ := rfl
    rw [e, Bool.eq_iff_iff]
    simp [fromB, kB, sideB]
    omega
  by_cases k6 : kind = 6
  · subst k6
    have e : ofS ⟨6, frm, a, b, k⟩ = some ⟨⟨#[109, 117, 108]⟩, 6, false, false, true, true, false⟩ := rfl
    rw [e, Bool.eq_iff_iff]
    simp [fromB, kB, sideB]
    omega
  have e : ofS ⟨kind, frm, a, b, k⟩ = none := by
    unfold ofS
    refine List.find?_eq_none.2 (fun f hf => ?_)
    simp only [formL, List.mem_cons, List.not_mem_nil, or_false] at hf
    rcases hf with rfl | rfl | rfl | rfl | rfl | rfl | rfl <;> simp [matchB] <;> omega
  rw [e]
  simp [k1, k2, k3, k4, k5, k6]
section
end
end Go.Proofs.YtjpaichcaaacbabDoor.HL
end
section
set_option linter.unusedVariables false
set_option linter.unusedSimpArgs false
set_option linter.unusedSectionVars false
set_option maxHeartbeats 4000000
namespace Go.Proofs.YtjpaichcaaacbabDoor.HL
open Go Go.Proofs.YtjpaichcaaacbabDoorNum Go.Proofs.YtjpaichcaaacbabDoor.FEv
/-- A gate that reads the inputs of a party. -/
def isIn (party : Int) (g : Gate) : Bool := g.kind == 1 && g.frm == party
/-- How many of the first k gates read a party's inputs. -/
def cnt (gs : List Gate) (k : Nat) (party : Int) : Nat := ((gs.take k).filter (isIn party)).length
section
end
end Go.Proofs.YtjpaichcaaacbabDoor.HL
end
namespace Go.Proofs.YtjpaichcaaacbabDoor.HL
end Go.Proofs.YtjpaichcaaacbabDoor.HL
namespace Go.Proofs.YtjpaichcaaacbabDoor.HL
end Go.Proofs.YtjpaichcaaacbabDoor.HL
section
set_option linter.unusedVariables false
set_option linter.unusedSimpArgs false
set_option linter.unusedSectionVars false
set_option maxHeartbeats 2000000
namespace Go.Proofs.YtjpaichcaaacbabDoor.HL
open Go Go.Proofs.YtjpaichcaaacbabDoorNum Go.Proofs.YtjpaichcaaacbabDoor.FEv
section
variable {gs : List Gate} {l : List Int} {party : Int} {ins : List (List Int)} {P : Int}
def isBit (party : Int) (g : Gate) : Bool := isIn party g && g.k == 1
def badR (gs : List Gate) (l : List Int) (party : Int) (i : Nat) : Bool := (List.range i).any fun t => isBit party (gs.getD t gate0) && decide (l.getD (cnt gs t party) 0 > 1)
def effR (gs : List Gate) (l : List Int) (party : Int) : List Int := if badR gs l party gs.length = true then List.replicate l.length 0 else l
def effL (gs : List Gate) (ins : List (List Int)) : List (List Int) := (List.range ins.length).map fun j => effR gs (ins.getD j []) ((j : Int) + 1)
structure GOK (P : Int) (i : Nat) (g : Gate) : Prop where
  kinds : g.kind = 1 ∨ g.kind = 2 ∨ g.kind = 3 ∨ g.kind = 4 ∨ g.kind = 5 ∨ g.kind = 6
  inp : g.kind = 1 → 1 ≤ g.frm ∧ g.frm ≤ 13 ∧ g.k ≤ 1
  con : g.kind = 2 → g.k < P
  sc : g.kind = 5 → g.k < P ∧ 0 ≤ g.a ∧ g.a < i
  two : (g.kind = 3 ∨ g.kind = 4 ∨ g.kind = 6) → 0 ≤ g.a ∧ g.a < i ∧ 0 ≤ g.b ∧ g.b < i
theorem gok_of {i : Nat} {g : Gate} (h : refB P i g = true) : GOK P i g := by
  unfold refB at h
  by_cases k1 : g.kind = 1
  · rw [if_pos k1] at h
    simp only [Bool.and_eq_true, decide_eq_true_eq] at h
    exact ⟨by omega, fun _ => ⟨h.2.1, h.2.2.1, h.2.2.2⟩, by omega, by omega, by omega⟩
  rw [if_neg k1] at h
  by_cases k2 : g.kind = 2
  · rw [if_pos k2] at h
    simp only [Bool.and_eq_true, decide_eq_true_eq] at h
    exact ⟨by omega, by omega, fun _ => h.2, by omega, by omega⟩
  rw [if_neg k2] at h
  by_cases k5 : g.kind = 5
  · rw [if_pos k5] at h
    simp only [Bool.and_eq_true, decide_eq_true_eq] at h
    exact ⟨by omega, by omega, by omega, fun _ => ⟨h.2.1, h.2.2.1, h.2.2.2⟩, by omega⟩
  rw [if_neg k5] at h
  by_cases k3 : g.kind = 3 ∨ g.kind = 4 ∨ g.kind = 6
  · rw [if_pos k3] at h
    simp only [Bool.and_eq_true, decide_eq_true_eq] at h
    exact ⟨by omega, by omega, by omega, by omega, fun _ => ⟨h.2.1, h.2.2.1, h.2.2.2.1, h.2.2.2.2⟩⟩
  rw [if_neg k3] at h
  cases h
structure VOK (P : Int) (gs : List Gate) (outs : List Int) : Prop where
  sup : supB P = true
  len : gs.length ≤ 20000
  olen : outs.length ≤ 1000
  gate : ∀ i, i < gs.length → rightB P (gs.getD i gate0) i = true
  outs : ∀ x ∈ outs, 0 ≤ x ∧ x < gs.length
theorem validB_iff {outs : List Int} : validB P gs outs = true ↔ VOK P gs outs := by
  unfold validB
  simp only [Bool.and_eq_true, decide_eq_true_eq, List.all_eq_true, List.mem_range, Bool.not_eq_true', List.any_eq_false]
  constructor
  · rintro ⟨h1, h2, h3, h4, h5⟩
    refine ⟨h1, h2, h3, h4, fun x hx => ?_⟩
    have := h5 x hx
    unfold badO at this
    rw [Bool.or_eq_true, decide_eq_true_eq, decide_eq_true_eq] at this
    omega
  · rintro ⟨h1, h2, h3, h4, h5⟩
    refine ⟨h1, h2, h3, h4, fun x hx => ?_⟩
    have := h5 x hx
    unfold badO
    rw [Bool.or_eq_true, decide_eq_true_eq, decide_eq_true_eq]
    omega
theorem nn_get (hnn : ∀ g ∈ gs, 0 ≤ g.k) (i : Nat) : 0 ≤ (gs.getD i gate0).k := by
  rw [List.getD_eq_getElem?_getD]
  cases e : gs[i]? with
  | none => exact Int.le_refl _
  | some g => exact hnn g (List.mem_of_getElem? e)
theorem VOK.gok {outs : List Int} (h : VOK P gs outs) (hnn : ∀ g ∈ gs, 0 ≤ g.k) {i : Nat} (hi : i < gs.length) : GOK P i (gs.getD i gate0) := by
  have := h.gate i hi
  rw [right_ref (nn_get hnn i)] at this
  exact gok_of this
end
section
variable {p : Nat} [NeZero p] {gs gs' : List Gate} {w w' : List (List (Fin p))} {ins : List (List Int)}
/-- The inputs that count, as elements. -/
def ef (p : Nat) [NeZero p] (gs : List Gate) (ins : List (List Int)) : List (List (Fin p)) := (effL gs ins).map fun l => l.map E
end
end Go.Proofs.YtjpaichcaaacbabDoor.HL
end
namespace Go.Proofs.YtjpaichcaaacbabDoor.HL
end Go.Proofs.YtjpaichcaaacbabDoor.HL
section
set_option linter.unusedVariables false
set_option linter.unusedSimpArgs false
set_option linter.unusedSectionVars false
set_option maxHeartbeats 4000000
namespace Go.Proofs.YtjpaichcaaacbabDoor.HL
open Go Go.Proofs.YtjpaichcaaacbabDoorNum Go.Proofs.YtjpaichcaaacbabDoor.FEv
abbrev tKn : Nat := 64
section
variable {base : Nat} {H : HH} {K : Value → HH → Prop} {Av Aw : Option Addr} {nv cv nw cw b : Nat} {P : Int}
/-- What lies in the box of what is known. -/
def KB (H : HH) (b : Nat) (P : Int) (Av : Option Addr) (nv cv : Nat) (Aw : Option Addr) (nw cw : Nat) : Prop := H b = some (.cells #[.int .u64 P, .slice Av nv cv, .slice Aw nw cw] tKn (0, 0))
theorem KB.ext {H' : HH} (h : KB H b P Av nv cv Aw nw cw) (he : Ext H H') : KB H' b P Av nv cv Aw nw cw := he _ _ h
theorem KB.qp (h : KB H b P Av nv cv Aw nw cw) : QRun Tryd.prog (Instr.loadAt 22 (.pointer (some ⟨b, 0, none⟩))) H (.int .u64 P) := q_ld sc22 (by rw [cellH_blk h]; rfl)
end
section
end
end Go.Proofs.YtjpaichcaaacbabDoor.HL
end
section
set_option linter.unusedVariables false
set_option linter.unusedSimpArgs false
set_option linter.unusedSectionVars false
set_option maxHeartbeats 4000000
namespace Go.Proofs.YtjpaichcaaacbabDoor.HL
open Go Go.Proofs.YtjpaichcaaacbabDoorNum Go.Proofs.YtjpaichcaaacbabDoor.FEv
theorem QRun.up {α : Type} {P : Program} {s : Sem α} {H H' : HH} {v : α} (h : QRun P s H v) (X : Ext H H') : QRun P s H' v := fun W hs => h W (fun k o hk => hs k o (X k o hk))
theorem Own.sameC {base T sz n b : Nat} {H H' : HH} {v : Value} {xs : List Value} (h : Own base H T sz v n xs) (hb : v.ownBlock ≠ some b) (he : ∀ k, k ≠ b → H' k = H k) : Own base H' T sz v n xs :=
  h.move (fun g o hg hx => by rw [he g (fun e => hb (by rw [hg, e]))]; exact hx)
/-- Rows of words, each with room for its words. -/
def MatC (H : HH) (A : Option Addr) (n : Nat) (m : List (List Int)) : Prop := n = m.length ∧ ∃ rs : List Value, rs.length = m.length ∧ Rd H A rs ∧ ∀ (i : Nat) (l : List Int), m[i]? = some l → ∃ A' c, rs[i]? = some (.slice A' l.length c) ∧ l.length ≤ c ∧ Rd H A' (us l)
section
variable {H H' : HH} {A : Option Addr} {n : Nat} {m : List (List Int)}
theorem MatC.ext (h : MatC H A n m) (he : Ext H H') : MatC H' A n m := by
  obtain ⟨h1, rs, h2, h3, h4⟩ := h
  exact ⟨h1, rs, h2, h3.ext he, fun i l hl => by obtain ⟨A', c, h5, h6, h7⟩ := h4 i l hl; exact ⟨A', c, h5, h6, h7.ext he⟩⟩
theorem MatC.at {i : Nat} (h : MatC H A n m) (c : Nat) (h1 : i < n) : ∃ a, AQ Tryd.prog (Instr.indexAt 35 (.slice A n c) (.int .i64 i)) (.pointer (some a)) ∧ ∃ A' c', QRun Tryd.prog (Instr.loadAt 39 (.pointer (some a))) H (.slice A' (m.getD i []).length c') ∧ Row H A' (m.getD i []).length (m.getD i []) ∧ (m.getD i []).length ≤ c' := by
  obtain ⟨e, rs, h2, h3, h4⟩ := h
  have hi : i < m.length := by omega
  obtain ⟨A', c', h5, h7, h6⟩ := h4 i (m.getD i []) (by simp [hi])
  obtain ⟨ad, rfl, hc⟩ := h3.at h5
  exact ⟨_, aq_ix un23 info32 (by omega) (by omega), A', c', q_ld sc32 (by rw [Int.toNat_natCast, Nat.mul_one]; exact hc), ⟨rfl, h6⟩, h7⟩
theorem MatC.nil : MatC H none 0 [] := ⟨rfl, [], rfl, .inl rfl, fun i l h => by simp at h⟩
end
/-- Rows of the call's own, what they hold frozen in F. -/
def OwnMC (base : Nat) (F H : HH) (v : Value) (n : Nat) (m : List (List Int)) : Prop :=
  ∃ rs : List Value, Own base H 39 1 v n rs ∧ Frz F H v ∧ rs.length = m.length ∧ ∀ (i : Nat) (l : List Int), m[i]? = some l → ∃ A' c, rs[i]? = some (.slice A' l.length c) ∧ l.length ≤ c ∧ Rd F A' (us l)
section
variable {base : Nat} {H F H' F' : HH} {A : Option Addr} {n c : Nat} {m : List (List Int)} {v : Value}
theorem OwnMC.nil (base : Nat) (H : HH) : OwnMC base H H (.slice none 0 0) 0 [] := ⟨[], Own.nil _ _ _ _, Frz.nil _, rfl, fun i l h => by simp at h⟩
theorem OwnMC.froze (h : OwnMC base F H v n m) (he : Ext F F') (hf : Frz F' H v) : OwnMC base F' H v n m := by
  obtain ⟨rs, h1, h2, h3, h4⟩ := h
  exact ⟨rs, h1, hf, h3, fun i l hl => by obtain ⟨A1, c1, h6, h7, h8⟩ := h4 i l hl; exact ⟨A1, c1, h6, h7, h8.ext he⟩⟩
theorem OwnMC.more (h : OwnMC base F H v n m) (he : Ext H H') : OwnMC base F H' v n m := by
  obtain ⟨rs, h1, h2, h3, h4⟩ := h
  exact ⟨rs, h1.ext he, h2.more he, h3, h4⟩
theorem OwnMC.known (h : OwnMC base F H v n m) {b : Nat} (hb : v.ownBlock = some b) : ∃ cur, H b = some (.cells cur 39 (0, 0)) := by
  obtain ⟨rs, h1, h2, h3, h4⟩ := h
  exact (h1.known hb).2
theorem OwnMC.frz (h : OwnMC base F H v n m) : Frz F H v := h.elim fun _ h => h.2.1
/-- Whatever keeps its block keeps it. -/
theorem OwnMC.keep (h : OwnMC base F H v n m) (hk : ∀ b o, v.ownBlock = some b → H b = some o → H' b = some o) (hF : Ext F H') : OwnMC base F H' v n m := by
  obtain ⟨rs, h1, h2, h3, h4⟩ := h
  exact ⟨rs, h1.move hk, ⟨hF, h2.off⟩, h3, h4⟩
end
abbrev tBools : Nat := 57
theorem unBools : Tryd.prog.underlying tBools = some (.slice 4) := by kernel_rfl
theorem infoBo : (Tryd.prog.info? 4).map (·.size) = some 1 := by kernel_rfl
theorem infBo : (Tryd.prog.info? 4).map (fun i => (i.zero, i.size, i.bytes)) = some (some (.bool false), 1, 1) := by kernel_rfl
theorem unIn : Tryd.prog.underlying 24 = some (.slice 3) := by kernel_rfl
/-- m numbers in the block g. -/
def NB (base : Nat) (H : HH) (g m : Nat) (f : Nat → Nat) : Prop := Own base H 3 1 (.slice (some ⟨g, 0, none⟩) m m) m (ns ((List.range m).map f))
def BB (base : Nat) (H : HH) (g m : Nat) (f : Nat → Bool) : Prop := Own base H 4 1 (.slice (some ⟨g, 0, none⟩) m m) m ((List.range m).map fun j => Value.bool (f j))
section
variable {base : Nat} {H H' F : HH} {g g' m j : Nat} {f : Nat → Nat} {b : Nat → Bool} {K : Unit → HH → Prop}
theorem ownB (g m c : Nat) : (Value.slice (some ⟨g, 0, none⟩) m c).ownBlock = some g := by simp [Value.ownBlock]
theorem BB.blk (h : BB base H g m b) : base ≤ g ∧ ∃ cur, H g = some (.cells cur 4 (0, 0)) := h.known (ownB _ _ _)
theorem NB.ext (h : NB base H g m f) (he : Ext H H') : NB base H' g m f := Own.ext h he
theorem BB.ext (h : BB base H g m b) (he : Ext H H') : BB base H' g m b := Own.ext h he
theorem NB.same (h : NB base H g m f) (hn : g ≠ g') (he : ∀ k, k ≠ g' → H' k = H k) : NB base H' g m f := Own.sameC h (by rw [ownB]; simpa using hn) he
theorem BB.same (h : BB base H g m b) (hn : g ≠ g') (he : ∀ k, k ≠ g' → H' k = H k) : BB base H' g m b := Own.sameC h (by rw [ownB]; simpa using hn) he
theorem NB.at (h : NB base H g m f) (hj : j < m) : AQ Tryd.prog (Instr.indexAt 24 (.slice (some ⟨g, 0, none⟩) m m) (.int .i64 j)) (.pointer (some ⟨g, j, none⟩)) ∧ QRun Tryd.prog (Instr.loadAt 3 (.pointer (some ⟨g, j, none⟩))) H (.int .i64 ((f j : Nat) : Int)) := by
  obtain ⟨g1, cur, e1, _, hc, _, hg⟩ := Own.at h hj
  cases e1
  refine ⟨aq_own unIn info3 hj, q_ld sc3 ?_⟩
  rw [cellH_blk hc]
  refine hg j _ ?_
  unfold ns
  rw [List.getElem?_map, List.getElem?_map, List.getElem?_range hj]; rfl
theorem BB.at (h : BB base H g m b) (hj : j < m) : AQ Tryd.prog (Instr.indexAt tBools (.slice (some ⟨g, 0, none⟩) m m) (.int .i64 j)) (.pointer (some ⟨g, j, none⟩)) ∧ QRun Tryd.prog (Instr.loadAt 4 (.pointer (some ⟨g, j, none⟩))) H (.bool (b j)) := by
  obtain ⟨g1, cur, e1, _, hc, _, hg⟩ := Own.at h hj
  cases e1
  refine ⟨aq_own unBools infoBo hj, q_ld scBo ?_⟩
  rw [cellH_blk hc]
  refine hg j _ ?_
  rw [List.getElem?_map, List.getElem?_range hj]; rfl
theorem NB.put (h : NB base H g m f) (hj : j < m) (x : Nat) {f' : Nat → Nat} (hx : f' j = x) (ho : ∀ k, k < m → k ≠ j → f' k = f k) (hk : ∀ H', NB base H' g m f' → (∀ k, k ≠ g → H' k = H k) → K () H') : HRun Tryd.prog base (Instr.storeAt 3 (.pointer (some ⟨g, j, none⟩)) (.int .i64 ((x : Nat) : Int))) H K := by
  obtain ⟨g1, cur, e1, h2, hc, h4, hg⟩ := Own.at h hj
  cases e1
  refine h_st info3 rfl hc h2 h4 (hk _ ?_ (fun k hk => upd_ne _ hk))
  have := Own.put h (ownB _ _ _) hc j (.int .i64 ((x : Nat) : Int))
  have e : (ns ((List.range m).map f)).set j (.int .i64 ((x : Nat) : Int)) = ns ((List.range m).map f') := by
    unfold ns
    rw [List.map_map, List.map_map]
    exact set_range _ _ hj _ (by show Value.int .i64 ((f' j : Nat) : Int) = _; rw [hx]) (fun k hk hne => by show Value.int .i64 ((f' k : Nat) : Int) = Value.int .i64 ((f k : Nat) : Int); rw [ho k hk hne])
  unfold NB
  rwa [e] at this
theorem BB.put (h : BB base H g m b) (hj : j < m) (x : Bool) {b' : Nat → Bool} (hx : b' j = x) (ho : ∀ k, k < m → k ≠ j → b' k = b k) (hk : ∀ H', BB base H' g m b' → (∀ k, k ≠ g → H' k = H k) → K () H') : HRun Tryd.prog base (Instr.storeAt 4 (.pointer (some ⟨g, j, none⟩)) (.bool x)) H K := by
  obtain ⟨g1, cur, e1, h2, hc, h4, hg⟩ := Own.at h hj
  cases e1
  refine h_st infoBo rfl hc h2 h4 (hk _ ?_ (fun k hk => upd_ne _ hk))
  have := Own.put h (ownB _ _ _) hc j (.bool x)
  have e : ((List.range m).map fun j => Value.bool (b j)).set j (.bool x) = (List.range m).map fun j => Value.bool (b' j) :=
    set_range _ _ hj _ (by rw [hx]) (fun k hk hne => by rw [ho k hk hne])
  unfold BB
  rwa [e] at this
theorem NB.congr (h : NB base H g m f) {f' : Nat → Nat} (e : ∀ k, k < m → f' k = f k) : NB base H g m f' := by
  unfold NB at h ⊢
  have : (List.range m).map f' = (List.range m).map f := List.map_congr_left (fun k hk => e k (List.mem_range.1 hk))
  rwa [this]
theorem BB.congr (h : BB base H g m b) {b' : Nat → Bool} (e : ∀ k, k < m → b' k = b k) : BB base H g m b' := by
  unfold BB at h ⊢
  have : ((List.range m).map fun j => Value.bool (b' j)) = (List.range m).map fun j => Value.bool (b j) := List.map_congr_left (fun k hk => by rw [e k (List.mem_range.1 hk)])
  rwa [this]
theorem h_mkN {q : Nat} (hq : q ≤ 1000000) {k1 k2 : IntKind} {K : Value → HH → Prop} (h : ∀ g H', base ≤ g → NB base H' g q (fun _ => 0) → Ext H H' → H g = none → K (.slice (some ⟨g, 0, none⟩) q q) H') :
    HRun Tryd.prog base (Instr.makeSlice 24 (.int k1 q) (.int k2 q)) H K := by
  refine h_make unIn inf3 (by omega) (by omega) (by omega) (fun gb hgb hbase => ?_)
  rw [Int.toNat_natCast, Nat.mul_one, show (Value.int IntKind.i64 0).cells = #[.int .i64 0] from rfl, made1]
  refine h gb _ hbase ?_ (Ext.upd hgb _) hgb
  have := Own.lit (H := H) (T := 3) (sz := 1) hbase (Array.replicate q (.int .i64 0)) q (by unfold maxLen; omega) (by simp)
  unfold NB
  have e : (Array.replicate q (Value.int .i64 0)).toList = ns ((List.range q).map fun _ => 0) := by
    rw [Array.toList_replicate]
    unfold ns
    rw [List.map_map]
    apply List.ext_getElem?
    intro i
    rw [List.getElem?_replicate, List.getElem?_map]
    by_cases hi : i < q
    · rw [if_pos hi, List.getElem?_range hi]; rfl
    · rw [if_neg hi, List.getElem?_eq_none (by simpa using hi)]; rfl
  rwa [e] at this
theorem h_mkB {q : Nat} (hq : q ≤ 1000000) {k1 k2 : IntKind} {K : Value → HH → Prop} (h : ∀ g H', base ≤ g → BB base H' g q (fun _ => false) → Ext H H' → H g = none → K (.slice (some ⟨g, 0, none⟩) q q) H') :
    HRun Tryd.prog base (Instr.makeSlice tBools (.int k1 q) (.int k2 q)) H K := by
  refine h_make unBools infBo (by omega) (by omega) (by omega) (fun gb hgb hbase => ?_)
  rw [Int.toNat_natCast, Nat.mul_one, show (Value.bool false).cells = #[.bool false] from rfl, made1]
  refine h gb _ hbase ?_ (Ext.upd hgb _) hgb
  have := Own.lit (H := H) (T := 4) (sz := 1) hbase (Array.replicate q (.bool false)) q (by unfold maxLen; omega) (by simp)
  unfold BB
  have e : (Array.replicate q (Value.bool false)).toList = (List.range q).map fun _ => Value.bool false := by
    rw [Array.toList_replicate]
    apply List.ext_getElem?
    intro i
    rw [List.getElem?_replicate, List.getElem?_map]
    by_cases hi : i < q
    · rw [if_pos hi, List.getElem?_range hi]; rfl
    · rw [if_neg hi, List.getElem?_eq_none (by simpa using hi)]; rfl
  rwa [e] at this
theorem h_mkW {q : Nat} (hq : q ≤ 1000000) {k1 k2 : IntKind} {K : Value → HH → Prop} (h : ∀ g H', base ≤ g → Own base H' 22 1 (.slice (some ⟨g, 0, none⟩) q q) q (us (List.replicate q 0)) → Frz H H' (.slice (some ⟨g, 0, none⟩) q q) → K (.slice (some ⟨g, 0, none⟩) q q) H') :
    HRun Tryd.prog base (Instr.makeSlice 39 (.int k1 q) (.int k2 q)) H K := by
  refine h_make un32 inf22 (by omega) (by omega) (by omega) (fun gb hgb hbase => ?_)
  rw [Int.toNat_natCast, Nat.mul_one, show (Value.int IntKind.u64 0).cells = #[.int .u64 0] from rfl, made1]
  refine h gb _ hbase ?_ ⟨Ext.upd hgb _, fun b' hb' => ?_⟩
  · have := Own.lit (H := H) (T := 22) (sz := 1) hbase (Array.replicate q (.int .u64 0)) q (by unfold maxLen; omega) (by simp)
    have e : (Array.replicate q (Value.int .u64 0)).toList = us (List.replicate q 0) := by rw [Array.toList_replicate]; simp [us]
    rwa [e] at this
  · have e : gb = b' := by simpa [Value.ownBlock] using hb'
    rw [← e]; exact hgb
end
end Go.Proofs.YtjpaichcaaacbabDoor.HL
end
section
set_option linter.unusedVariables false
set_option linter.unusedSimpArgs false
set_option linter.unusedSectionVars false
set_option maxHeartbeats 4000000
namespace Go.Proofs.YtjpaichcaaacbabDoor.HL
open Go Go.Proofs.YtjpaichcaaacbabDoorNum Go.Proofs.YtjpaichcaaacbabDoor.FEv
theorem cells_tag {c1 c2 : Array Value} {t1 t2 : TypeId} {z1 z2 : Nat × Nat} (h : some (Obj.cells c1 t1 z1) = some (Obj.cells c2 t2 z2)) : t1 = t2 := by cases h; rfl
theorem ext_same {H H3 H4 : HH} {g : Nat} (h : Ext H H3) (hn : H g = none) (hs : ∀ k, k ≠ g → H4 k = H3 k) : Ext H H4 := fun b o hb => by
  rw [hs b (fun e => by rw [e, hn] at hb; cases hb)]; exact h b o hb
theorem NB.move {base : Nat} {H H' : HH} {g m : Nat} {f : Nat → Nat} (h : NB base H g m f) (hk : ∀ o, H g = some o → H' g = some o) : NB base H' g m f := Own.move h (fun b o hb hx => by rw [ownB] at hb; cases hb; exact hk o hx)
theorem BB.move {base : Nat} {H H' : HH} {g m : Nat} {f : Nat → Bool} (h : BB base H g m f) (hk : ∀ o, H g = some o → H' g = some o) : BB base H' g m f := Own.move h (fun b o hb hx => by rw [ownB] at hb; cases hb; exact hk o hx)
section
end
end Go.Proofs.YtjpaichcaaacbabDoor.HL
end
section
set_option linter.unusedVariables false
set_option linter.unusedSimpArgs false
set_option linter.unusedSectionVars false
set_option maxHeartbeats 4000000
namespace Go.Proofs.YtjpaichcaaacbabDoor.HL
open Go Go.Proofs.YtjpaichcaaacbabDoorNum Go.Proofs.YtjpaichcaaacbabDoor.FEv
abbrev tTab : Nat := 66
abbrev tFn : Nat := 65
def gfun (k : Int) : FuncId := if k = 1 then 53 else if k = 2 then 54 else if k = 3 then 55 else if k = 4 then 57 else if k = 5 then 59 else 61
/-- The table, as it is known. -/
def GT (H : HH) : Prop := ∀ k : Nat, 1 ≤ k → k ≤ 6 → cellH H ⟨0, k, none⟩ = some (.func (.func (gfun k)) #[] #[])
theorem GT.ext {H H' : HH} (h : GT H) (he : Ext H H') : GT H' := fun k h1 h2 => cellH_ext he (h k h1 h2)
theorem GT.at {H : HH} (h : GT H) {k : Int} (hk : k = 1 ∨ k = 2 ∨ k = 3 ∨ k = 4 ∨ k = 5 ∨ k = 6) : ∃ a, AQ Tryd.prog (Instr.indexAt tTab (.pointer (some ⟨0, 0, none⟩)) (.int .i64 k)) (.pointer (some a)) ∧ QRun Tryd.prog (Instr.loadAt tFn (.pointer (some a))) H (.func (.func (gfun k)) #[] #[]) := by
  have ld : ∀ n : Nat, 1 ≤ n → n ≤ 6 → QRun Tryd.prog (Instr.loadAt tFn (.pointer (some ⟨0, n, none⟩))) H (.func (.func (gfun n)) #[] #[]) := fun n a b => q_ld (by kernel_rfl) (h n a b)
  rcases hk with rfl | rfl | rfl | rfl | rfl | rfl
  · exact ⟨⟨0, 1, none⟩, fun W => by kernel_rfl, ld 1 (by decide) (by decide)⟩
  · exact ⟨⟨0, 2, none⟩, fun W => by kernel_rfl, ld 2 (by decide) (by decide)⟩
  · exact ⟨⟨0, 3, none⟩, fun W => by kernel_rfl, ld 3 (by decide) (by decide)⟩
  · exact ⟨⟨0, 4, none⟩, fun W => by kernel_rfl, ld 4 (by decide) (by decide)⟩
  · exact ⟨⟨0, 5, none⟩, fun W => by kernel_rfl, ld 5 (by decide) (by decide)⟩
  · exact ⟨⟨0, 6, none⟩, fun W => by kernel_rfl, ld 6 (by decide) (by decide)⟩
section
end
end Go.Proofs.YtjpaichcaaacbabDoor.HL
end
section
set_option linter.unusedVariables false
set_option linter.unusedSimpArgs false
set_option linter.unusedSectionVars false
set_option maxHeartbeats 4000000
namespace Go.Proofs.YtjpaichcaaacbabDoor.HL
open Go Go.Proofs.YtjpaichcaaacbabDoorNum Go.Proofs.YtjpaichcaaacbabDoor.FEv
theorem OwnMC.ne {base : Nat} {F H : HH} {v : Value} {n b T : Nat} {m : List (List Int)} {cur : Array Value} (om : OwnMC base F H v n m) (hb : H b = some (.cells cur T (0, 0))) (hT : 39 ≠ T) : v.ownBlock ≠ some b := fun e => by
  obtain ⟨cu, hc⟩ := om.known e
  rw [hb] at hc
  exact hT (cells_tag hc).symm
section
end
end Go.Proofs.YtjpaichcaaacbabDoor.HL
end
namespace Go.Proofs.YtjpaichcaaacbabDoor.HL
end Go.Proofs.YtjpaichcaaacbabDoor.HL
section
set_option linter.unusedVariables false
set_option linter.unusedSimpArgs false
set_option linter.unusedSectionVars false
set_option maxHeartbeats 8000000
set_option maxRecDepth 4000
namespace Go.Proofs.YtjpaichcaaacbabDoor.HL
open Go Go.Proofs.YtjpaichcaaacbabDoorNum Go.Proofs.YtjpaichcaaacbabDoor.FEv
section
variable {base : Nat} {H : HH} {K : Value → HH → Prop} {A A' : Option Addr} {n n' c c' : Nat} {p : Int}
theorem h_cvar {old : Value} {C : Addr → HH → Prop} (hk : ∀ b H', Ext H H' → CB H' b p A n c A' n' c' → C ⟨b, 0, none⟩ H') :
    HRun Tryd.prog base (Instr.alloc tC true old) H fun v H1 => ∃ a : Addr, v = .pointer (some a) ∧ HRun Tryd.prog base (Instr.storeAt tC (.pointer (some a)) (.agg #[.int .u64 p, .slice A n c, .slice A' n' c'])) H1 fun _ H2 => C a H2 :=
  h_var (vs := [.int .u64 p, .slice A n c, .slice A' n' c']) (z := .agg #[.int .u64 0, .slice none 0 0, .slice none 0 0]) (by kernel_rfl) rfl (by kernel_rfl) rfl (fun b H' he hbase hn hb => hk _ H' he hb)
theorem lit_rd {gb T : Nat} {cs : Array Value} {xs : List Value} (h : cs.toList = xs) : Rd (upd H gb (.cells cs T)) (some ⟨gb, 0, none⟩) xs :=
  .inr ⟨_, rfl, fun i u hu => by
    rw [add0, cellH_blk (upd_self _ _ _), ← Array.getElem?_toList, h]
    exact hu⟩
theorem lit_o1 {x : Int} {C : Value → HH → Prop} (hk : ∀ A' H', Ext H H' → Outs H' A' 1 [x] → C (.slice A' 1 1) H') : HRun Tryd.prog base (Instr.buildSlice tInts 1 #[(0, .int .i64 x)]) H C := by
  have hfill : Instr.fill (fun i => some (i * 1, 1)) (madeCells (Value.int .i64 0).cells (1 * 1)) [(0, .int .i64 x)] = some #[.int .i64 x] := by kernel_rfl
  exact h_lit (sz := 1) (z := .int .i64 0) (cs := #[.int .i64 x]) unInts (by kernel_rfl) (by decide) hfill (by decide) (fun gb hgb hbase => hk _ _ (Ext.upd hgb _) ⟨rfl, lit_rd rfl⟩)
theorem aq_gate0 : (Tryd.prog.info? tGate).map (fun i => (i.zero, i.size, i.bytes)) = some (some (.agg (gv gate0).toArray), 5, 40) := by kernel_rfl
end
end Go.Proofs.YtjpaichcaaacbabDoor.HL
end
section
set_option linter.unusedVariables false
set_option linter.unusedSimpArgs false
set_option linter.unusedSectionVars false
set_option maxHeartbeats 8000000
namespace Go.Proofs.YtjpaichcaaacbabDoor.HL
open Go Go.Proofs.YtjpaichcaaacbabDoorNum Go.Proofs.YtjpaichcaaacbabDoor.FEv
/-- A circuit and inputs in memory, small. -/
structure In33 (H : HH) (A : Option Addr) (n : Nat) (gs : List Gate) (A' : Option Addr) (n' : Nat) (outs : List Int) (B : Option Addr) (m : Nat) (ins : List (List Int)) : Prop where
  G : Gl H
  T : GT H
  g : Gs H A n gs
  o : Outs H A' n' outs
  i : MatC H B m ins
  nn : ∀ g ∈ gs, 0 ≤ g.k
  ni : ∀ l ∈ ins, ∀ x ∈ l, 0 ≤ x
  fg : gs.length ≤ 60
  fo : outs.length ≤ 60
  fi : ins.length ≤ 20
  fr : ∀ l ∈ ins, l.length ≤ 60
section
variable {base : Nat} {H H' : HH} {K : Value → HH → Prop} {A A' B : Option Addr} {n n' c c' m d : Nat} {P : Int} {gs : List Gate} {outs : List Int} {ins : List (List Int)}
theorem In33.ext (I : In33 H A n gs A' n' outs B m ins) (X : Ext H H') : In33 H' A n gs A' n' outs B m ins :=
  ⟨I.G.ext X, I.T.ext X, I.g.ext X, I.o.ext X, I.i.ext X, I.nn, I.ni, I.fg, I.fo, I.fi, I.fr⟩
end
section
end
section
end
end Go.Proofs.YtjpaichcaaacbabDoor.HL
end
section
set_option linter.unusedVariables false
set_option linter.unusedSimpArgs false
set_option linter.unusedSectionVars false
set_option maxHeartbeats 8000000
namespace Go.Proofs.YtjpaichcaaacbabDoor.HL
open Go Go.Proofs.YtjpaichcaaacbabDoorNum Go.Proofs.YtjpaichcaaacbabDoor.FEv
theorem gc_take : ∀ (gs : List Gate) (k : Nat), (gc gs).take (k * 5) = gc (gs.take k)
  | [], k => by simp [gc]
  | g :: gs, 0 => by simp [gc]
  | g :: gs, k + 1 => by
    have := gc_take gs k
    unfold gc at this ⊢
    rw [List.take_succ_cons, List.flatMap_cons, List.flatMap_cons, ← this, List.take_append]
    rw [List.take_of_length_le (by show 5 ≤ _; omega)]
    congr 2
    show (k + 1) * 5 - 5 = k * 5
    omega
theorem is_take (l : List Int) (k : Nat) : us (l.take k) = (us l).take k := by simp [us]
section
variable {base : Nat} {H : HH} {A A' B : Option Addr} {n n' c c' m d : Nat} {P : Int} {gs : List Gate} {outs : List Int} {ins : List (List Int)}
theorem Gs.take (h : Gs H A n gs) {k : Nat} (hk : k ≤ n) : Gs H A k (gs.take k) := ⟨by rw [List.length_take]; have := h.1; omega, by have := h.2.take (k * 5); rwa [gc_take] at this⟩
theorem Row.take {l : List Int} (h : Row H A n l) {k : Nat} (hk : k ≤ n) : Row H A k (l.take k) := ⟨by rw [List.length_take]; have := h.1; omega, by have := h.2.take k; rwa [is_take]⟩
theorem Outs.none (H : HH) : Outs H none 0 [] := ⟨rfl, .inl rfl⟩
end
section
end
end Go.Proofs.YtjpaichcaaacbabDoor.HL
end
section
set_option linter.unusedVariables false
set_option linter.unusedSimpArgs false
set_option linter.unusedSectionVars false
set_option maxHeartbeats 8000000
namespace Go.Proofs.YtjpaichcaaacbabDoor.HL
open Go Go.Proofs.YtjpaichcaaacbabDoorNum Go.Proofs.YtjpaichcaaacbabDoor.FEv
/-- A row of slices of the call's own; the one at k is of the call's own too, the others are frozen in F. -/
structure Sp (base : Nat) (F H : HH) (A : Option Addr) (n c k : Nat) (A1 : Option Addr) (q c1 : Nat) (ins : List (List Int)) (l : List Int) : Prop where
  ext : Ext F H
  rs : ∃ rs : List Value, Own base H 39 1 (.slice A n c) n rs ∧ rs.length = ins.length ∧ rs[k]? = some (.slice A1 q c1) ∧ ∀ (i : Nat) (x : List Int), i ≠ k → ins[i]? = some x → ∃ A' c', rs[i]? = some (.slice A' x.length c') ∧ x.length ≤ c' ∧ Rd F A' (us x)
  row : Own base H 22 1 (.slice A1 q c1) q (us l)
  off : ∀ b, (Value.slice A n c).ownBlock = some b → F b = none
  off1 : ∀ b, (Value.slice A1 q c1).ownBlock = some b → F b = none
section
variable {base : Nat} {H H2 H' F : HH} {A A1 B : Option Addr} {n c k q c1 m d : Nat} {ins : List (List Int)} {l : List Int} {K : Unit → HH → Prop}
/-- A word of the row changes. -/
theorem Sp.set (h : Sp base F H A n c k A1 q c1 ins l) (hk : k < n) {t : Nat} (ht : t < q) (x : Int) (hK : ∀ H', Sp base F H' A n c k A1 q c1 ins (l.set t x) → K () H') :
    ∃ a, AQ Tryd.prog (Instr.indexAt 35 (.slice A n c) (.int .i64 k)) (.pointer (some a)) ∧ ∃ (A' : Option Addr) (l' c' : Nat), QRun Tryd.prog (Instr.loadAt 39 (.pointer (some a))) H (.slice A' l' c') ∧
      ∃ a2, AQ Tryd.prog (Instr.indexAt 39 (.slice A' l' c') (.int .i64 t)) (.pointer (some a2)) ∧ HRun Tryd.prog base (Instr.storeAt 22 (.pointer (some a2)) (.int .u64 x)) H K := by
  obtain ⟨rs, h1, h2, h3, h4⟩ := h.rs
  obtain ⟨g, cur, e1, hb, hg, hi, hc⟩ := Own.at h1 hk
  subst e1
  obtain ⟨g2, cur2, e2, hb2, hg2, hi2, hc2⟩ := Own.at h.row ht
  subst e2
  have hne : g ≠ g2 := fun e => by
    subst e
    rw [hg] at hg2
    exact absurd (cells_tag hg2) (by decide)
  have hn : F g2 = none := h.off1 g2 (by simp [Value.ownBlock])
  refine ⟨_, aq_own un23 (by kernel_rfl) hk, _, _, _, q_ld (by kernel_rfl) (by rw [cellH_blk hg]; exact hc k _ h3), _, aq_own un32 info22 ht, h_st info22 rfl hg2 hb2 hi2 (hK _ ⟨ext_same h.ext hn (fun k hk => upd_ne _ hk), ⟨rs, h1.far (by simp [Value.ownBlock]; exact hne) _, h2, h3, h4⟩, ?_, h.off, h.off1⟩)⟩
  have := Own.put h.row (by simp [Value.ownBlock]) hg2 t (.int .u64 x)
  rwa [show (us l).set t (.int .u64 x) = us (l.set t x) by simp [us, List.map_set]] at this
end
section
variable {gs : List Gate} {ins : List (List Int)} {k : Nat}
theorem mem_setL {l y : List Int} (h : y ∈ ins.set k l) : y = l ∨ y ∈ ins := (List.mem_or_eq_of_mem_set h).elim .inr .inl
theorem In33.set {H H' : HH} {A A' B B' : Option Addr} {n n' m : Nat} {outs : List Int} (I : In33 H A n gs A' n' outs B m ins) (X : Ext H H') {l : List Int} (M : MatC H' B' m (ins.set k l)) (h1 : ∀ x ∈ l, 0 ≤ x) (h2 : l.length ≤ 60) : In33 H' A n gs A' n' outs B' m (ins.set k l) :=
  ⟨I.G.ext X, I.T.ext X, I.g.ext X, I.o.ext X, M, I.nn, fun y hy => by
    rcases mem_setL hy with rfl | h
    · exact h1
    · exact I.ni y h, I.fg, I.fo, by rw [List.length_set]; exact I.fi, fun y hy => by
    rcases mem_setL hy with rfl | h
    · exact h2
    · exact I.fr y h⟩
end
section
end
end Go.Proofs.YtjpaichcaaacbabDoor.HL
end
section
set_option linter.unusedVariables false
set_option linter.unusedSimpArgs false
set_option linter.unusedSectionVars false
set_option maxHeartbeats 8000000
namespace Go.Proofs.YtjpaichcaaacbabDoor.HL
open Go Go.Proofs.YtjpaichcaaacbabDoorNum Go.Proofs.YtjpaichcaaacbabDoor.FEv
structure S2 (base : Nat) (F H : HH) (v : Value) (n : Nat) (m : List (List Int)) (v' : Value) (n' : Nat) (m' : List (List Int)) : Prop where
  x : OwnMC base F H v n m
  y : OwnMC base F H v' n' m'
  ne : ∀ b, v.ownBlock = some b → v'.ownBlock ≠ some b
section
variable {base : Nat} {F H H' : HH} {v v' w : Value} {n n' q : Nat} {m m' : List (List Int)}
theorem S2.symm (s : S2 base F H v n m v' n' m') : S2 base F H v' n' m' v n m := ⟨s.y, s.x, fun b h1 h2 => s.ne b h2 h1⟩
theorem S2.more (s : S2 base F H v n m v' n' m') (X : Ext H H') : S2 base F H' v n m v' n' m' := ⟨s.x.more X, s.y.more X, s.ne⟩
theorem S2.nil (base : Nat) (H : HH) : S2 base H H (.slice none 0 0) 0 [] (.slice none 0 0) 0 [] := ⟨OwnMC.nil _ _, OwnMC.nil _ _, fun b h => by simp [Value.ownBlock] at h⟩
/-- A row of the call's own that is new since H is frozen. -/
theorem S2.freeze {T : Nat} {xs : List Value} (s : S2 base F H v n m v' n' m') (hf : Frz H H' w) (ho : Own base H' T 1 w q xs) :
    ∃ F', Ext F F' ∧ S2 base F' H' v n m v' n' m' ∧ ∃ A c, w = .slice A q c ∧ q ≤ c ∧ Rd F' A xs := by
  have s' := s.more hf.ext
  obtain ⟨h1, h2⟩ := ho
  rcases h2 with ⟨rfl, rfl⟩ | ⟨g, cap, cur, rfl, hb, hg, r1, r2, r3, r4⟩
  · exact ⟨F, .refl F, s', none, 0, rfl, Nat.le_refl _, .inl (List.eq_nil_of_length_eq_zero (by rw [h1, Nat.zero_mul]))⟩
  · have hn : H g = none := hf.off g (by simp [Value.ownBlock])
    have hn0 : F g = none := s.x.frz.ext.none hn
    have X : Ext (upd F g (.cells cur T (0, 0))) H' := fun b o h => by
      by_cases e : b = g
      · subst e; rw [upd_self] at h; cases h; exact hg
      · rw [upd_ne _ e] at h; exact hf.ext _ _ (s.x.frz.ext b o h)
    have off : ∀ {u : Value} {k : Nat} {l : List (List Int)}, OwnMC base F H u k l → Frz (upd F g (.cells cur T (0, 0))) H' u := fun h => ⟨X, fun b hbb => by
      have hne : b ≠ g := fun e => by
        obtain ⟨cu, hc⟩ := h.known hbb
        rw [e, hn] at hc; cases hc
      rw [upd_ne _ hne]
      exact h.frz.off b hbb⟩
    refine ⟨_, Ext.upd hn0 _, ⟨s'.x.froze (Ext.upd hn0 _) (off s.x), s'.y.froze (Ext.upd hn0 _) (off s.y), s.ne⟩, _, _, rfl, r1, .inr ⟨_, rfl, fun i u hu => ?_⟩⟩
    have hadd : (⟨g, 0, none⟩ : Addr).add i = ⟨g, i, none⟩ := by unfold Addr.add; split <;> simp_all
    rw [hadd, cellH_blk (upd_self _ _ _), ← Array.getElem?_toList]
    rw [← r4, List.getElem?_take] at hu
    split at hu
    · exact hu
    · cases hu
/-- A slice of one row. -/
theorem S2.lit (s : S2 base F H v n m v' n' m') {A1 : Option Addr} {n1 c1 : Nat} {C : Value → HH → Prop} (hk : ∀ F' A' H', Ext F F' → S2 base F' H' v n m v' n' m' → Rd F' A' [.slice A1 n1 c1] → C (.slice A' 1 1) H') :
    HRun Tryd.prog base (Instr.buildSlice 35 1 #[(0, .slice A1 n1 c1)]) H C := by
  have hfill : Instr.fill (fun i => some (i * 1, 1)) (madeCells (Value.slice none 0 0).cells (1 * 1)) [(0, .slice A1 n1 c1)] = some #[.slice A1 n1 c1] := by
    simp [Instr.fill, madeCells, Value.cells, show Array.range 1 = #[0] from by decide]
  refine h_lit (sz := 1) (z := .slice none 0 0) (cs := #[.slice A1 n1 c1]) un23 (by kernel_rfl) (by decide) hfill (by decide) (fun gb hgb hbase => ?_)
  obtain ⟨F', h1, h2, A', c', e, _, h3⟩ := s.freeze (H' := upd H gb (.cells #[.slice A1 n1 c1] 39)) ⟨Ext.upd hgb _, fun b hb => by
    have e : gb = b := by simpa [Value.ownBlock] using hb
    rw [← e]; exact hgb⟩ (Own.lit (H := H) (T := 39) (sz := 1) hbase #[.slice A1 n1 c1] 1 (by decide) rfl)
  cases e
  exact hk F' _ _ h1 h2 h3
/-- A row of noughts. -/
theorem S2.zeros (s : S2 base F H v n m v' n' m') {q : Nat} (hq : q ≤ 1000000) {k1 k2 : IntKind} {C : Value → HH → Prop} (hk : ∀ F' A' c' H', Ext F F' → S2 base F' H' v n m v' n' m' → Row F' A' q (List.replicate q 0) → q ≤ c' → C (.slice A' q c') H') :
    HRun Tryd.prog base (Instr.makeSlice 39 (.int k1 q) (.int k2 q)) H C :=
  h_mkW hq (fun g H' hgb o f => by
    obtain ⟨F', h1, h2, A', c', e, hc, h3⟩ := s.freeze f o
    rw [e]
    exact hk F' A' c' H' h1 h2 ⟨by simp, h3⟩ hc)
end
end Go.Proofs.YtjpaichcaaacbabDoor.HL
end
section
set_option linter.unusedVariables false
set_option linter.unusedSimpArgs false
set_option linter.unusedSectionVars false
set_option maxHeartbeats 8000000
namespace Go.Proofs.YtjpaichcaaacbabDoor.HL
open Go Go.Proofs.YtjpaichcaaacbabDoorNum Go.Proofs.YtjpaichcaaacbabDoor.FEv
section
variable {p : Nat} [NeZero p] {gs : List Gate} {a b : List (List Int)}
theorem In33.more {H H' : HH} {A A' B B' : Option Addr} {n n' m m' : Nat} {outs : List Int} (I : In33 H A n gs A' n' outs B m a) (X : Ext H H') (M : MatC H' B' m' b) (h0 : b.length ≤ 20) (h1 : ∀ l ∈ b, ∀ x ∈ l, 0 ≤ x) (h2 : ∀ l ∈ b, l.length ≤ 60) : In33 H' A n gs A' n' outs B' m' b :=
  ⟨I.G.ext X, I.T.ext X, I.g.ext X, I.o.ext X, M, I.nn, h1, I.fg, I.fo, h0, h2⟩
end
section
end
section
end
end Go.Proofs.YtjpaichcaaacbabDoor.HL
end
section
set_option linter.unusedVariables false
set_option linter.unusedSimpArgs false
set_option linter.unusedSectionVars false
set_option maxHeartbeats 8000000
namespace Go.Proofs.YtjpaichcaaacbabDoor.HL
open Go Go.Proofs.YtjpaichcaaacbabDoorNum Go.Proofs.YtjpaichcaaacbabDoor.FEv
/-- Gate j reads another party. -/
def upF (gs : List Gate) (j : Nat) (x : Int) : List Gate := gs.set j ⟨(gs.getD j gate0).kind, x, (gs.getD j gate0).a, (gs.getD j gate0).b, (gs.getD j gate0).k⟩
theorem gc_upF : ∀ (gs : List Gate) (j : Nat) (x : Int), (gc gs).set (j * 5 + 1) (.int .i64 x) = gc (upF gs j x)
  | [], j, x => by simp [gc, upF]
  | g :: gs, 0, x => rfl
  | g :: gs, j + 1, x => by
    have ih := gc_upF gs j x
    have e : upF (g :: gs) (j + 1) x = g :: upF gs j x := by simp [upF]
    rw [e]
    show (gv g ++ gc gs).set ((j + 1) * 5 + 1) _ = gv g ++ gc (upF gs j x)
    have hl : (gv g).length = 5 := rfl
    rw [List.set_append_right _ _ (by rw [hl]; omega), hl, show (j + 1) * 5 + 1 - 5 = j * 5 + 1 by omega, ih]
/-- A row of gates of the call's own. -/
structure Rl (base : Nat) (F H : HH) (A : Option Addr) (n c : Nat) (gs : List Gate) : Prop where
  ext : Ext F H
  own : Own base H tGate 5 (.slice A n c) n (gc gs)
  off : ∀ b, (Value.slice A n c).ownBlock = some b → F b = none
section
variable {base : Nat} {F H H' : HH} {K : Unit → HH → Prop} {A : Option Addr} {n c : Nat} {gs : List Gate}
theorem gc_len (gs : List Gate) : (gc gs).length = gs.length * 5 := by
  induction gs with
  | nil => rfl
  | cons g gs ih =>
    show (gv g ++ gc gs).length = _
    rw [List.length_append, ih, List.length_cons]
    show 5 + _ = _
    omega
theorem Rl.len (h : Rl base F H A n c gs) : n = gs.length := by have := h.own.1; rw [gc_len] at this; omega
theorem Rl.gates (h : Rl base F H A n c gs) : Gs H A n gs := by
  obtain ⟨A', c', e, _, h2⟩ := h.own.slice
  cases e
  exact ⟨h.len, h2⟩
theorem Rl.put (h : Rl base F H A n c gs) {j : Nat} (hj : j < n) (x : Int) (hK : ∀ H', Rl base F H' A n c (upF gs j x) → K () H') :
    ∃ a, AQ Tryd.prog (Instr.indexAt tGates (.slice A n c) (.int .i64 j)) (.pointer (some a)) ∧ ∃ a1, AQ Tryd.prog (Instr.fieldAt tGate (.pointer (some a)) 1) (.pointer (some a1)) ∧ HRun Tryd.prog base (Instr.storeAt 3 (.pointer (some a1)) (.int .i64 x)) H K := by
  obtain ⟨g, cap, cur, e1, hb, hg, r1, r2, r3⟩ := h.own.form (by omega)
  cases e1
  refine ⟨_, aq_ix (ad := ⟨g, 0, none⟩) unGates infoG (by omega) (by omega), _, fg1 _, ?_⟩
  rw [Int.toNat_natCast, show ((⟨g, 0, none⟩ : Addr).add (j * 5)).add 1 = ⟨g, j * 5 + 1, none⟩ by rw [addr_add']; unfold Addr.add; split <;> simp_all]
  refine h_st info3 rfl hg hb (by omega) (hK _ ⟨?_, ?_, h.off⟩)
  · exact ext_same h.ext (h.off g (by simp [Value.ownBlock])) (fun k hk => upd_ne _ hk)
  · have := Own.put h.own (by simp [Value.ownBlock]) hg (j * 5 + 1) (.int .i64 x)
    rwa [gc_upF] at this
theorem Rl.at (h : Rl base F H A n c gs) {j : Nat} (hj : j < n) : ∃ a, AQ Tryd.prog (Instr.indexAt tGates (.slice A n c) (.int .i64 j)) (.pointer (some a)) ∧ GAt H a (gs.getD j gate0) := h.gates.at c hj
end
section
end
section
variable {base : Nat} {H : HH} {A A' : Option Addr} {n n' c c' : Nat} {p : Int} {gs : List Gate}
/-- A circuit's variable, with its block. -/
theorem h_cvar3 {old : Value} {C : Addr → HH → Prop} (hk : ∀ b H', Ext H H' → H b = none → base ≤ b → CB H' b p A n c A' n' c' → C ⟨b, 0, none⟩ H') :
    HRun Tryd.prog base (Instr.alloc tC true old) H fun v H1 => ∃ a : Addr, v = .pointer (some a) ∧ HRun Tryd.prog base (Instr.storeAt tC (.pointer (some a)) (.agg #[.int .u64 p, .slice A n c, .slice A' n' c'])) H1 fun _ H2 => C a H2 :=
  h_var (vs := [.int .u64 p, .slice A n c, .slice A' n' c']) (z := .agg #[.int .u64 0, .slice none 0 0, .slice none 0 0]) (by kernel_rfl) rfl (by kernel_rfl) rfl (fun b H' he hbase hn hb => hk _ H' he hn hbase hb)
theorem gv_one {g : Gate} {u : Value} (h : u ∈ gv g) : u.oneCell' = true := by
  unfold gv at h
  simp only [List.mem_cons, List.not_mem_nil, or_false] at h
  rcases h with rfl | rfl | rfl | rfl | rfl <;> rfl
/-- The circuit's gates are another row. -/
theorem cb_gates {b : Nat} {A1 : Option Addr} {n1 c1 : Nat} {K : Unit → HH → Prop} (h : CB H b p A n c A' n' c') (hb : base ≤ b) (hK : ∀ H', CB H' b p A1 n1 c1 A' n' c' → (∀ k, k ≠ b → H' k = H k) → K () H') :
    HRun Tryd.prog base (Instr.storeAt tGates (.pointer (some ⟨b, 1, none⟩)) (.slice A1 n1 c1)) H K :=
  h_st (by kernel_rfl) rfl h hb (show 1 < 3 by decide) (hK _ (upd_self _ _ _) (fun k hk => upd_ne _ hk))
end
section
end
end Go.Proofs.YtjpaichcaaacbabDoor.HL
end
section
set_option linter.unusedVariables false
set_option linter.unusedSimpArgs false
set_option maxRecDepth 100000
namespace Go.Proofs.YtjpaichcaaacbabDoor.HL
open Go
def optimize_sides.ann : Ann := ⟨fun k => [], fun k => false, fun k => []⟩
def optimize_sides.sh (base : Nat) (x0 : Int) (H0 : HH) (K : Value → HH → Prop) : Prop :=
 if ((x0 : Int) == 3) = true then
 if ((x0 : Int) == 3) = true then
 K (.tuple #[(.bool true), (.bool true)]) H0
 else
 if ((x0 : Int) == 5) = true then
 K (.tuple #[(.bool true), (.bool false)]) H0
 else
 K (.tuple #[(.bool false), (.bool false)]) H0
 else
 if ((x0 : Int) == 4) = true then
 if ((x0 : Int) == 4) = true then
 K (.tuple #[(.bool true), (.bool true)]) H0
 else
 if ((x0 : Int) == 5) = true then
 K (.tuple #[(.bool true), (.bool false)]) H0
 else
 K (.tuple #[(.bool false), (.bool false)]) H0
 else
 if ((x0 : Int) == 6) = true then
 K (.tuple #[(.bool true), (.bool true)]) H0
 else
 if ((x0 : Int) == 5) = true then
 K (.tuple #[(.bool true), (.bool false)]) H0
 else
 K (.tuple #[(.bool false), (.bool false)]) H0
theorem optimize_sides.spec {base : Nat} {x0 : Int} {H0 : HH} {K : Value → HH → Prop} (h : optimize_sides.sh base x0 H0 K) : HCall Tryd.prog base 24 #[(.int .i64 x0)] H0 K := spec_of_wpC (n := 11) (ann := optimize_sides.ann) mix Tryd.func24 (by kernel_rfl) (cast (show optimize_sides.sh base x0 H0 K = wpC Tryd.prog base 11 optimize_sides.ann (bodyOf Tryd.f24) (ofL [(.int .i64 x0)]) H0 (retQ Tryd.prog 11 Tryd.f24 K) by kernel_rfl) h)
def optimize_either.ann : Ann := ⟨fun k => [], fun k => false, fun k => []⟩
def optimize_either.sh (base : Nat) (x0 : Int) (H0 : HH) (K : Value → HH → Prop) : Prop :=
 if ((x0 : Int) == 3) = false then
 K (.bool (((x0 : Int) == 6))) H0
 else
 K (.bool true) H0
theorem optimize_either.spec {base : Nat} {x0 : Int} {H0 : HH} {K : Value → HH → Prop} (h : optimize_either.sh base x0 H0 K) : HCall Tryd.prog base 30 #[(.int .i64 x0)] H0 K := spec_of_wpC (n := 9) (ann := optimize_either.ann) mix Tryd.func30 (by kernel_rfl) (cast (show optimize_either.sh base x0 H0 K = wpC Tryd.prog base 9 optimize_either.ann (bodyOf Tryd.f30) (ofL [(.int .i64 x0)]) H0 (retQ Tryd.prog 9 Tryd.f30 K) by kernel_rfl) h)
def optimize_firsts.ann : Ann := ⟨fun k => [], fun k => bif Nat.beq k 12 then true else bif Nat.beq k 14 then true else bif Nat.beq k 16 then true else bif Nat.beq k 20 then true else false, fun k => bif Nat.beq k 4 then [3, 4, 14, 15, 16] else bif Nat.beq k 12 then [3, 4, 5, 6, 7, 9, 14, 15, 16] else bif Nat.beq k 14 then [3, 4, 5, 6, 7, 14, 15, 16] else bif Nat.beq k 16 then [3, 4, 5, 7, 14, 15, 16] else bif Nat.beq k 20 then [3, 4, 10, 14, 15, 16] else []⟩
def optimize_firsts.P0 (base : Nat) (l : List Value) (H0 : HH) (K : Value → HH → Prop) : Prop := HCodeL Tryd.prog base 87 (codeAt [.r, .r, .r, .l, .r, .b] (bodyOf Tryd.f23)) [3, 4, 14, 15, 16] l H0 (qAt Tryd.prog base 87 optimize_firsts.ann [.r, .r, .r, .l, .r, .b] [] (bodyOf Tryd.f23) (retQ Tryd.prog 87 Tryd.f23 K))
def optimize_firsts.R0 (base : Nat) (N0 : Value → Value → HH → Prop) (l : List Value) (H0 : HH) (K : Value → HH → Prop) : Prop := HCodeL Tryd.prog base 87 (codeAt [.r, .r, .r, .l, .r, .b, .lp, .r, .r, .l, .b, .r, .r, .r, .r, .r] (bodyOf Tryd.f23)) [3, 4, 5, 6, 7, 9, 14, 15, 16] l H0 (qAt Tryd.prog base 87 optimize_firsts.ann [.r, .r, .r, .l, .r, .b, .lp, .r, .r, .l, .b, .r, .r, .r, .r, .r] [fun fr H => N0 (fr 4) (fr 16) H] (bodyOf Tryd.f23) (retQ Tryd.prog 87 Tryd.f23 K))
def optimize_firsts.R1 (base : Nat) (N0 : Value → Value → HH → Prop) (l : List Value) (H0 : HH) (K : Value → HH → Prop) : Prop := HCodeL Tryd.prog base 87 (codeAt [.r, .r, .r, .l, .r, .b, .lp, .r, .r, .l, .b, .r, .r, .r, .r, .r, .r] (bodyOf Tryd.f23)) [3, 4, 5, 6, 7, 14, 15, 16] l H0 (qAt Tryd.prog base 87 optimize_firsts.ann [.r, .r, .r, .l, .r, .b, .lp, .r, .r, .l, .b, .r, .r, .r, .r, .r, .r] [fun fr H => N0 (fr 4) (fr 16) H] (bodyOf Tryd.f23) (retQ Tryd.prog 87 Tryd.f23 K))
def optimize_firsts.R2 (base : Nat) (N0 : Value → Value → HH → Prop) (l : List Value) (H0 : HH) (K : Value → HH → Prop) : Prop := HCodeL Tryd.prog base 87 (codeAt [.r, .r, .r, .l, .r, .b, .lp, .r, .r, .l, .b, .r, .r, .r, .r, .r, .r, .r] (bodyOf Tryd.f23)) [3, 4, 5, 7, 14, 15, 16] l H0 (qAt Tryd.prog base 87 optimize_firsts.ann [.r, .r, .r, .l, .r, .b, .lp, .r, .r, .l, .b, .r, .r, .r, .r, .r, .r, .r] [fun fr H => N0 (fr 4) (fr 16) H] (bodyOf Tryd.f23) (retQ Tryd.prog 87 Tryd.f23 K))
def optimize_firsts.R3 (base : Nat) (N0 : Value → Value → HH → Prop) (l : List Value) (H0 : HH) (K : Value → HH → Prop) : Prop := HCodeL Tryd.prog base 87 (codeAt [.r, .r, .r, .l, .r, .b, .lp, .r, .r, .l, .b, .r, .r, .r, .r, .r, .r, .r, .r, .r] (bodyOf Tryd.f23)) [3, 4, 10, 14, 15, 16] l H0 (qAt Tryd.prog base 87 optimize_firsts.ann [.r, .r, .r, .l, .r, .b, .lp, .r, .r, .l, .b, .r, .r, .r, .r, .r, .r, .r, .r, .r] [fun fr H => N0 (fr 4) (fr 16) H] (bodyOf Tryd.f23) (retQ Tryd.prog 87 Tryd.f23 K))
def optimize_firsts.S0 (base : Nat) (N0 : Value → Value → HH → Prop) (x3 : Option Nat) (Ax4 : Option Addr) (lx4 cx4 : Nat) (x5 : Int) (x6 x7 : Addr) (x9 : Bool) (Ax14 : Option Addr) (lx14 cx14 : Nat) (x15 x16 : Int) (H0 : HH) (K : Value → HH → Prop) : Prop :=
 if x9 = true then
 ∃ a51 : Addr, AQ Tryd.prog (Instr.fieldAt 50 (.pointer ((some x6))) 3) (.pointer ((some a51))) ∧
 ∃ n52 : Int, QRun Tryd.prog (Instr.loadAt 3 (.pointer ((some a51)))) H0 (.int .i64 n52) ∧
 ∃ a53 : Addr, AQ Tryd.prog (Instr.indexAt 24 (.slice Ax4 lx4 cx4) (.int .i64 n52)) (.pointer ((some a53))) ∧
 ∃ n54 : Int, QRun Tryd.prog (Instr.loadAt 3 (.pointer ((some a53)))) H0 (.int .i64 n54) ∧
 ∃ a55 : Addr, AQ Tryd.prog (Instr.fieldAt 73 (.pointer ((some x7))) 2) (.pointer ((some a55))) ∧
 HRun Tryd.prog base (Instr.storeAt 3 (.pointer ((some a55))) (.int .i64 n54)) H0 fun _ H56 =>
 optimize_firsts.R1 base N0 [(.map x3), (.slice Ax4 lx4 cx4), (.int .i64 x5), (.pointer ((some x6))), (.pointer ((some x7))), (.slice Ax14 lx14 cx14), (.int .i64 x15), (.int .i64 x16)] H56 K
 else
 optimize_firsts.R1 base N0 [(.map x3), (.slice Ax4 lx4 cx4), (.int .i64 x5), (.pointer ((some x6))), (.pointer ((some x7))), (.slice Ax14 lx14 cx14), (.int .i64 x15), (.int .i64 x16)] H0 K
def optimize_firsts.T0 (base : Nat) (N0 : Value → Value → HH → Prop) (x3 : Option Nat) (Ax4 : Option Addr) (lx4 cx4 : Nat) (x5 : Int) (x6 x7 : Addr) (x9 : Bool) (Ax14 : Option Addr) (lx14 cx14 : Nat) (x15 x16 : Int) (H0 : HH) (K : Value → HH → Prop) : Prop := optimize_firsts.S0 base N0 x3 Ax4 lx4 cx4 x5 x6 x7 x9 Ax14 lx14 cx14 x15 x16 H0 K
theorem optimize_firsts.rest0 {base : Nat} {N0 : Value → Value → HH → Prop} {x3 : Option Nat} {Ax4 : Option Addr} {lx4 cx4 : Nat} {x5 : Int} {x6 x7 : Addr} {x9 : Bool} {Ax14 : Option Addr} {lx14 cx14 : Nat} {x15 x16 : Int} {H0 : HH} {K : Value → HH → Prop} (h : optimize_firsts.S0 base N0 x3 Ax4 lx4 cx4 x5 x6 x7 x9 Ax14 lx14 cx14 x15 x16 H0 K) : optimize_firsts.R0 base N0 [(.map x3), (.slice Ax4 lx4 cx4), (.int .i64 x5), (.pointer ((some x6))), (.pointer ((some x7))), (.bool x9), (.slice Ax14 lx14 cx14), (.int .i64 x15), (.int .i64 x16)] H0 K := by
  refine wpCL_sound (ann := optimize_firsts.ann) mix (fun fr ⟨e3, e4, e5, e6, e7, e9, e14, e15, e16, _⟩ => ?_)
  rw [← ov_eq (g := fr) [(3, (.map x3)), (4, (.slice Ax4 lx4 cx4)), (5, (.int .i64 x5)), (6, (.pointer ((some x6)))), (7, (.pointer ((some x7)))), (9, (.bool x9)), (14, (.slice Ax14 lx14 cx14)), (15, (.int .i64 x15)), (16, (.int .i64 x16))] (by simp only [List.mem_cons, List.not_mem_nil, or_false, forall_eq_or_imp, forall_eq, false_implies, implies_true]; exact ⟨e3, e4, e5, e6, e7, e9, e14, e15, e16⟩)]
  exact cast (show optimize_firsts.S0 base N0 x3 Ax4 lx4 cx4 x5 x6 x7 x9 Ax14 lx14 cx14 x15 x16 H0 K = wpC Tryd.prog base 87 optimize_firsts.ann (codeAt [.r, .r, .r, .l, .r, .b, .lp, .r, .r, .l, .b, .r, .r, .r, .r, .r] (bodyOf Tryd.f23)) (ov fr [(3, (.map x3)), (4, (.slice Ax4 lx4 cx4)), (5, (.int .i64 x5)), (6, (.pointer ((some x6)))), (7, (.pointer ((some x7)))), (9, (.bool x9)), (14, (.slice Ax14 lx14 cx14)), (15, (.int .i64 x15)), (16, (.int .i64 x16))]) H0 (qAt Tryd.prog base 87 optimize_firsts.ann [.r, .r, .r, .l, .r, .b, .lp, .r, .r, .l, .b, .r, .r, .r, .r, .r] [fun fr H => N0 (fr 4) (fr 16) H] (bodyOf Tryd.f23) (retQ Tryd.prog 87 Tryd.f23 K)) by kernel_rfl) h
theorem optimize_firsts.cut0 {base : Nat} {N0 : Value → Value → HH → Prop} {x3 : Option Nat} {Ax4 : Option Addr} {lx4 cx4 : Nat} {x5 : Int} {x6 x7 : Addr} {x9 : Bool} {Ax14 : Option Addr} {lx14 cx14 : Nat} {x15 x16 : Int} {H0 : HH} {K : Value → HH → Prop} (h : optimize_firsts.T0 base N0 x3 Ax4 lx4 cx4 x5 x6 x7 x9 Ax14 lx14 cx14 x15 x16 H0 K) : optimize_firsts.R0 base N0 [(.map x3), (.slice Ax4 lx4 cx4), (.int .i64 x5), (.pointer ((some x6))), (.pointer ((some x7))), (.bool x9), (.slice Ax14 lx14 cx14), (.int .i64 x15), (.int .i64 x16)] H0 K := optimize_firsts.rest0 h
def optimize_firsts.S1 (base : Nat) (N0 : Value → Value → HH → Prop) (x3 : Option Nat) (Ax4 : Option Addr) (lx4 cx4 : Nat) (x5 : Int) (x6 x7 : Addr) (Ax14 : Option Addr) (lx14 cx14 : Nat) (x15 x16 : Int) (H0 : HH) (K : Value → HH → Prop) : Prop :=
 ∃ a57 : Addr, AQ Tryd.prog (Instr.fieldAt 50 (.pointer ((some x6))) 0) (.pointer ((some a57))) ∧
 ∃ n58 : Int, QRun Tryd.prog (Instr.loadAt 3 (.pointer ((some a57)))) H0 (.int .i64 n58) ∧
 HCall Tryd.prog base 30 #[(.int .i64 n58)] H0 fun v59 H60 =>
 ∃ b61 : Bool, v59 = (.bool b61) ∧ if b61 = true then
 ∃ a62 : Addr, AQ Tryd.prog (Instr.fieldAt 73 (.pointer ((some x7))) 1) (.pointer ((some a62))) ∧
 ∃ n63 : Int, QRun Tryd.prog (Instr.loadAt 3 (.pointer ((some a62)))) H60 (.int .i64 n63) ∧
 ∃ a64 : Addr, AQ Tryd.prog (Instr.fieldAt 73 (.pointer ((some x7))) 2) (.pointer ((some a64))) ∧
 ∃ n65 : Int, QRun Tryd.prog (Instr.loadAt 3 (.pointer ((some a64)))) H60 (.int .i64 n65) ∧
 if (decide ((n63 : Int) > n65)) = true then
 ∃ a66 : Addr, AQ Tryd.prog (Instr.fieldAt 73 (.pointer ((some x7))) 2) (.pointer ((some a66))) ∧
 ∃ n67 : Int, QRun Tryd.prog (Instr.loadAt 3 (.pointer ((some a66)))) H60 (.int .i64 n67) ∧
 ∃ a68 : Addr, AQ Tryd.prog (Instr.fieldAt 73 (.pointer ((some x7))) 1) (.pointer ((some a68))) ∧
 ∃ n69 : Int, QRun Tryd.prog (Instr.loadAt 3 (.pointer ((some a68)))) H60 (.int .i64 n69) ∧
 ∃ a70 : Addr, AQ Tryd.prog (Instr.fieldAt 73 (.pointer ((some x7))) 1) (.pointer ((some a70))) ∧
 HRun Tryd.prog base (Instr.storeAt 3 (.pointer ((some a70))) (.int .i64 n67)) H60 fun _ H71 =>
 ∃ a72 : Addr, AQ Tryd.prog (Instr.fieldAt 73 (.pointer ((some x7))) 2) (.pointer ((some a72))) ∧
 HRun Tryd.prog base (Instr.storeAt 3 (.pointer ((some a72))) (.int .i64 n69)) H71 fun _ H73 =>
 optimize_firsts.R2 base N0 [(.map x3), (.slice Ax4 lx4 cx4), (.int .i64 x5), (.pointer ((some x7))), (.slice Ax14 lx14 cx14), (.int .i64 x15), (.int .i64 x16)] H73 K
 else
 optimize_firsts.R2 base N0 [(.map x3), (.slice Ax4 lx4 cx4), (.int .i64 x5), (.pointer ((some x7))), (.slice Ax14 lx14 cx14), (.int .i64 x15), (.int .i64 x16)] H60 K
 else
 optimize_firsts.R2 base N0 [(.map x3), (.slice Ax4 lx4 cx4), (.int .i64 x5), (.pointer ((some x7))), (.slice Ax14 lx14 cx14), (.int .i64 x15), (.int .i64 x16)] H60 K
def optimize_firsts.T1 (base : Nat) (N0 : Value → Value → HH → Prop) (x3 : Option Nat) (Ax4 : Option Addr) (lx4 cx4 : Nat) (x5 : Int) (x6 x7 : Addr) (Ax14 : Option Addr) (lx14 cx14 : Nat) (x15 x16 : Int) (H0 : HH) (K : Value → HH → Prop) : Prop := optimize_firsts.S1 base N0 x3 Ax4 lx4 cx4 x5 x6 x7 Ax14 lx14 cx14 x15 x16 H0 K
theorem optimize_firsts.rest1 {base : Nat} {N0 : Value → Value → HH → Prop} {x3 : Option Nat} {Ax4 : Option Addr} {lx4 cx4 : Nat} {x5 : Int} {x6 x7 : Addr} {Ax14 : Option Addr} {lx14 cx14 : Nat} {x15 x16 : Int} {H0 : HH} {K : Value → HH → Prop} (h : optimize_firsts.S1 base N0 x3 Ax4 lx4 cx4 x5 x6 x7 Ax14 lx14 cx14 x15 x16 H0 K) : optimize_firsts.R1 base N0 [(.map x3), (.slice Ax4 lx4 cx4), (.int .i64 x5), (.pointer ((some x6))), (.pointer ((some x7))), (.slice Ax14 lx14 cx14), (.int .i64 x15), (.int .i64 x16)] H0 K := by
  refine wpCL_sound (ann := optimize_firsts.ann) mix (fun fr ⟨e3, e4, e5, e6, e7, e14, e15, e16, _⟩ => ?_)
  rw [← ov_eq (g := fr) [(3, (.map x3)), (4, (.slice Ax4 lx4 cx4)), (5, (.int .i64 x5)), (6, (.pointer ((some x6)))), (7, (.pointer ((some x7)))), (14, (.slice Ax14 lx14 cx14)), (15, (.int .i64 x15)), (16, (.int .i64 x16))] (by simp only [List.mem_cons, List.not_mem_nil, or_false, forall_eq_or_imp, forall_eq, false_implies, implies_true]; exact ⟨e3, e4, e5, e6, e7, e14, e15, e16⟩)]
  exact cast (show optimize_firsts.S1 base N0 x3 Ax4 lx4 cx4 x5 x6 x7 Ax14 lx14 cx14 x15 x16 H0 K = wpC Tryd.prog base 87 optimize_firsts.ann (codeAt [.r, .r, .r, .l, .r, .b, .lp, .r, .r, .l, .b, .r, .r, .r, .r, .r, .r] (bodyOf Tryd.f23)) (ov fr [(3, (.map x3)), (4, (.slice Ax4 lx4 cx4)), (5, (.int .i64 x5)), (6, (.pointer ((some x6)))), (7, (.pointer ((some x7)))), (14, (.slice Ax14 lx14 cx14)), (15, (.int .i64 x15)), (16, (.int .i64 x16))]) H0 (qAt Tryd.prog base 87 optimize_firsts.ann [.r, .r, .r, .l, .r, .b, .lp, .r, .r, .l, .b, .r, .r, .r, .r, .r, .r] [fun fr H => N0 (fr 4) (fr 16) H] (bodyOf Tryd.f23) (retQ Tryd.prog 87 Tryd.f23 K)) by kernel_rfl) h
theorem optimize_firsts.cut1 {base : Nat} {N0 : Value → Value → HH → Prop} {x3 : Option Nat} {Ax4 : Option Addr} {lx4 cx4 : Nat} {x5 : Int} {x6 x7 : Addr} {Ax14 : Option Addr} {lx14 cx14 : Nat} {x15 x16 : Int} {H0 : HH} {K : Value → HH → Prop} (h : optimize_firsts.T1 base N0 x3 Ax4 lx4 cx4 x5 x6 x7 Ax14 lx14 cx14 x15 x16 H0 K) : optimize_firsts.R1 base N0 [(.map x3), (.slice Ax4 lx4 cx4), (.int .i64 x5), (.pointer ((some x6))), (.pointer ((some x7))), (.slice Ax14 lx14 cx14), (.int .i64 x15), (.int .i64 x16)] H0 K := optimize_firsts.rest1 h
def optimize_firsts.S2 (base : Nat) (N0 : Value → Value → HH → Prop) (x3 : Option Nat) (Ax4 : Option Addr) (lx4 cx4 : Nat) (x5 : Int) (x7 : Addr) (Ax14 : Option Addr) (lx14 cx14 : Nat) (x15 x16 : Int) (H0 : HH) (K : Value → HH → Prop) : Prop :=
 ∃ n74 : Int, ∃ n75 : Int, ∃ n76 : Int, ∃ n77 : Int, QRun Tryd.prog (Instr.loadAt 73 (.pointer ((some x7)))) H0 (.agg #[(.int .i64 n74), (.int .i64 n75), (.int .i64 n76), (.int .u64 n77)]) ∧
 ∃ n78 : Int, ∃ b79 : Bool, QRun Tryd.prog (Instr.lookup 71 (.map x3) (.agg #[(.int .i64 n74), (.int .i64 n75), (.int .i64 n76), (.int .u64 n77)]) true) H0 (.tuple #[(.int .i64 n78), (.bool b79)]) ∧
 if (!b79) = true then
 ∃ n80 : Int, ∃ n81 : Int, ∃ n82 : Int, ∃ n83 : Int, QRun Tryd.prog (Instr.loadAt 73 (.pointer ((some x7)))) H0 (.agg #[(.int .i64 n80), (.int .i64 n81), (.int .i64 n82), (.int .u64 n83)]) ∧
 HRun Tryd.prog base (Instr.mapUpdate 71 (.map x3) (.agg #[(.int .i64 n80), (.int .i64 n81), (.int .i64 n82), (.int .u64 n83)]) (.int .i64 x5)) H0 fun _ H84 =>
 optimize_firsts.R3 base N0 [(.map x3), (.slice Ax4 lx4 cx4), (.int .i64 x5), (.slice Ax14 lx14 cx14), (.int .i64 x15), (.int .i64 x16)] H84 K
 else
 optimize_firsts.R3 base N0 [(.map x3), (.slice Ax4 lx4 cx4), (.int .i64 n78), (.slice Ax14 lx14 cx14), (.int .i64 x15), (.int .i64 x16)] H0 K
def optimize_firsts.T2 (base : Nat) (N0 : Value → Value → HH → Prop) (x3 : Option Nat) (Ax4 : Option Addr) (lx4 cx4 : Nat) (x5 : Int) (x7 : Addr) (Ax14 : Option Addr) (lx14 cx14 : Nat) (x15 x16 : Int) (H0 : HH) (K : Value → HH → Prop) : Prop := optimize_firsts.S2 base N0 x3 Ax4 lx4 cx4 x5 x7 Ax14 lx14 cx14 x15 x16 H0 K
theorem optimize_firsts.rest2 {base : Nat} {N0 : Value → Value → HH → Prop} {x3 : Option Nat} {Ax4 : Option Addr} {lx4 cx4 : Nat} {x5 : Int} {x7 : Addr} {Ax14 : Option Addr} {lx14 cx14 : Nat} {x15 x16 : Int} {H0 : HH} {K : Value → HH → Prop} (h : optimize_firsts.S2 base N0 x3 Ax4 lx4 cx4 x5 x7 Ax14 lx14 cx14 x15 x16 H0 K) : optimize_firsts.R2 base N0 [(.map x3), (.slice Ax4 lx4 cx4), (.int .i64 x5), (.pointer ((some x7))), (.slice Ax14 lx14 cx14), (.int .i64 x15), (.int .i64 x16)] H0 K := by
  refine wpCL_sound (ann := optimize_firsts.ann) mix (fun fr ⟨e3, e4, e5, e7, e14, e15, e16, _⟩ => ?_)
  rw [← ov_eq (g := fr) [(3, (.map x3)), (4, (.slice Ax4 lx4 cx4)), (5, (.int .i64 x5)), (7, (.pointer ((some x7)))), (14, (.slice Ax14 lx14 cx14)), (15, (.int .i64 x15)), (16, (.int .i64 x16))] (by simp only [List.mem_cons, List.not_mem_nil, or_false, forall_eq_or_imp, forall_eq, false_implies, implies_true]; exact ⟨e3, e4, e5, e7, e14, e15, e16⟩)]
  exact cast (show optimize_firsts.S2 base N0 x3 Ax4 lx4 cx4 x5 x7 Ax14 lx14 cx14 x15 x16 H0 K = wpC Tryd.prog base 87 optimize_firsts.ann (codeAt [.r, .r, .r, .l, .r, .b, .lp, .r, .r, .l, .b, .r, .r, .r, .r, .r, .r, .r] (bodyOf Tryd.f23)) (ov fr [(3, (.map x3)), (4, (.slice Ax4 lx4 cx4)), (5, (.int .i64 x5)), (7, (.pointer ((some x7)))), (14, (.slice Ax14 lx14 cx14)), (15, (.int .i64 x15)), (16, (.int .i64 x16))]) H0 (qAt Tryd.prog base 87 optimize_firsts.ann [.r, .r, .r, .l, .r, .b, .lp, .r, .r, .l, .b, .r, .r, .r, .r, .r, .r, .r] [fun fr H => N0 (fr 4) (fr 16) H] (bodyOf Tryd.f23) (retQ Tryd.prog 87 Tryd.f23 K)) by kernel_rfl) h
theorem optimize_firsts.cut2 {base : Nat} {N0 : Value → Value → HH → Prop} {x3 : Option Nat} {Ax4 : Option Addr} {lx4 cx4 : Nat} {x5 : Int} {x7 : Addr} {Ax14 : Option Addr} {lx14 cx14 : Nat} {x15 x16 : Int} {H0 : HH} {K : Value → HH → Prop} (h : optimize_firsts.T2 base N0 x3 Ax4 lx4 cx4 x5 x7 Ax14 lx14 cx14 x15 x16 H0 K) : optimize_firsts.R2 base N0 [(.map x3), (.slice Ax4 lx4 cx4), (.int .i64 x5), (.pointer ((some x7))), (.slice Ax14 lx14 cx14), (.int .i64 x15), (.int .i64 x16)] H0 K := optimize_firsts.rest2 h
def optimize_firsts.S3 (base : Nat) (N0 : Value → Value → HH → Prop) (x3 : Option Nat) (Ax4 : Option Addr) (lx4 cx4 : Nat) (x10 : Int) (Ax14 : Option Addr) (lx14 cx14 : Nat) (x15 x16 : Int) (H0 : HH) (K : Value → HH → Prop) : Prop :=
 HRun Tryd.prog base (Instr.buildSlice 24 1 #[(0, (.int .i64 x10))]) H0 fun v85 H86 =>
 ∃ (A87 : Option Addr) (l87 c87 : Nat), v85 = (.slice A87 l87 c87) ∧ HRun Tryd.prog base (Builtin.append_ #[24, 24] 24 #[(.slice Ax4 lx4 cx4), (.slice A87 l87 c87)]) H86 fun v88 H89 =>
 ∃ (A90 : Option Addr) (l90 c90 : Nat), v88 = (.slice A90 l90 c90) ∧ N0 (.slice A90 l90 c90) (.int .i64 ((IntKind.i64.wrap (x16 + 1)))) H89
def optimize_firsts.T3 (base : Nat) (N0 : Value → Value → HH → Prop) (x3 : Option Nat) (Ax4 : Option Addr) (lx4 cx4 : Nat) (x10 : Int) (Ax14 : Option Addr) (lx14 cx14 : Nat) (x15 x16 : Int) (H0 : HH) (K : Value → HH → Prop) : Prop := optimize_firsts.S3 base N0 x3 Ax4 lx4 cx4 x10 Ax14 lx14 cx14 x15 x16 H0 K
theorem optimize_firsts.rest3 {base : Nat} {N0 : Value → Value → HH → Prop} {x3 : Option Nat} {Ax4 : Option Addr} {lx4 cx4 : Nat} {x10 : Int} {Ax14 : Option Addr} {lx14 cx14 : Nat} {x15 x16 : Int} {H0 : HH} {K : Value → HH → Prop} (h : optimize_firsts.S3 base N0 x3 Ax4 lx4 cx4 x10 Ax14 lx14 cx14 x15 x16 H0 K) : optimize_firsts.R3 base N0 [(.map x3), (.slice Ax4 lx4 cx4), (.int .i64 x10), (.slice Ax14 lx14 cx14), (.int .i64 x15), (.int .i64 x16)] H0 K := by
  refine wpCL_sound (ann := optimize_firsts.ann) mix (fun fr ⟨e3, e4, e10, e14, e15, e16, _⟩ => ?_)
  rw [← ov_eq (g := fr) [(3, (.map x3)), (4, (.slice Ax4 lx4 cx4)), (10, (.int .i64 x10)), (14, (.slice Ax14 lx14 cx14)), (15, (.int .i64 x15)), (16, (.int .i64 x16))] (by simp only [List.mem_cons, List.not_mem_nil, or_false, forall_eq_or_imp, forall_eq, false_implies, implies_true]; exact ⟨e3, e4, e10, e14, e15, e16⟩)]
  exact cast (show optimize_firsts.S3 base N0 x3 Ax4 lx4 cx4 x10 Ax14 lx14 cx14 x15 x16 H0 K = wpC Tryd.prog base 87 optimize_firsts.ann (codeAt [.r, .r, .r, .l, .r, .b, .lp, .r, .r, .l, .b, .r, .r, .r, .r, .r, .r, .r, .r, .r] (bodyOf Tryd.f23)) (ov fr [(3, (.map x3)), (4, (.slice Ax4 lx4 cx4)), (10, (.int .i64 x10)), (14, (.slice Ax14 lx14 cx14)), (15, (.int .i64 x15)), (16, (.int .i64 x16))]) H0 (qAt Tryd.prog base 87 optimize_firsts.ann [.r, .r, .r, .l, .r, .b, .lp, .r, .r, .l, .b, .r, .r, .r, .r, .r, .r, .r, .r, .r] [fun fr H => N0 (fr 4) (fr 16) H] (bodyOf Tryd.f23) (retQ Tryd.prog 87 Tryd.f23 K)) by kernel_rfl) h
theorem optimize_firsts.cut3 {base : Nat} {N0 : Value → Value → HH → Prop} {x3 : Option Nat} {Ax4 : Option Addr} {lx4 cx4 : Nat} {x10 : Int} {Ax14 : Option Addr} {lx14 cx14 : Nat} {x15 x16 : Int} {H0 : HH} {K : Value → HH → Prop} (h : optimize_firsts.T3 base N0 x3 Ax4 lx4 cx4 x10 Ax14 lx14 cx14 x15 x16 H0 K) : optimize_firsts.R3 base N0 [(.map x3), (.slice Ax4 lx4 cx4), (.int .i64 x10), (.slice Ax14 lx14 cx14), (.int .i64 x15), (.int .i64 x16)] H0 K := optimize_firsts.rest3 h
def optimize_firsts.sh (base : Nat) (x0_0 : Int) (Ax0_1 : Option Addr) (lx0_1 cx0_1 : Nat) (Ax0_2 : Option Addr) (lx0_2 cx0_2 : Nat) (H0 : HH) (K : Value → HH → Prop) : Prop :=
 HRun Tryd.prog base (Instr.box 26 (.agg #[(.int .u64 x0_0), (.slice Ax0_1 lx0_1 cx0_1), (.slice Ax0_2 lx0_2 cx0_2)])) H0 fun v1 H2 =>
 ∃ a3 : Addr, v1 = (.pointer ((some a3))) ∧ HRun Tryd.prog base (Instr.makeMap 71 none) H2 fun v4 H5 =>
 ∃ r6 : Option Nat, v4 = (.map r6) ∧ ∃ a7 : Addr, AQ Tryd.prog (Instr.fieldAt 26 (.pointer ((some a3))) 1) (.pointer ((some a7))) ∧
 ∃ (A8 : Option Addr) (l8 c8 : Nat), QRun Tryd.prog (Instr.loadAt 23 (.pointer ((some a7)))) H5 (.slice A8 l8 c8) ∧
 optimize_firsts.P0 base [(.map r6), (.slice none 0 0), (.slice A8 l8 c8), (.int .i64 (((l8 : Nat) : Int))), (.int .i64 0)] H5 K
theorem optimize_firsts.spec {base : Nat} {x0_0 : Int} {Ax0_1 : Option Addr} {lx0_1 cx0_1 : Nat} {Ax0_2 : Option Addr} {lx0_2 cx0_2 : Nat} {H0 : HH} {K : Value → HH → Prop} (h : optimize_firsts.sh base x0_0 Ax0_1 lx0_1 cx0_1 Ax0_2 lx0_2 cx0_2 H0 K) : HCall Tryd.prog base 23 #[(.agg #[(.int .u64 x0_0), (.slice Ax0_1 lx0_1 cx0_1), (.slice Ax0_2 lx0_2 cx0_2)])] H0 K := spec_of_wpC (n := 87) (ann := optimize_firsts.ann) mix Tryd.func23 (by kernel_rfl) (cast (show optimize_firsts.sh base x0_0 Ax0_1 lx0_1 cx0_1 Ax0_2 lx0_2 cx0_2 H0 K = wpC Tryd.prog base 87 optimize_firsts.ann (bodyOf Tryd.f23) (ofL [(.agg #[(.int .u64 x0_0), (.slice Ax0_1 lx0_1 cx0_1), (.slice Ax0_2 lx0_2 cx0_2)])]) H0 (retQ Tryd.prog 87 Tryd.f23 K) by kernel_rfl) h)
def optimize_firsts.B0 (base : Nat) (x3 : Option Nat) (Ax14 : Option Addr) (lx14 cx14 : Nat) (x15 : Int) (Ay4 : Option Addr) (ly4 cy4 : Nat) (y16 : Int) (g : Fr) (N0 : Value → Value → HH → Prop) (H0 : HH) (K : Value → HH → Prop) : Prop :=
 if (decide ((y16 : Int) < x15)) = true then
 ∃ a9 : Addr, AQ Tryd.prog (Instr.indexAt 23 (.slice Ax14 lx14 cx14) (.int .i64 y16)) (.pointer ((some a9))) ∧
 ∃ n10 : Int, ∃ n11 : Int, ∃ n12 : Int, ∃ n13 : Int, ∃ n14 : Int, QRun Tryd.prog (Instr.loadAt 50 (.pointer ((some a9)))) H0 (.agg #[(.int .i64 n10), (.int .i64 n11), (.int .i64 n12), (.int .i64 n13), (.int .u64 n14)]) ∧
 HRun Tryd.prog base (Instr.alloc 50 true (.tuple #[])) H0 fun v15 H16 =>
 ∃ a17 : Addr, v15 = (.pointer ((some a17))) ∧ HRun Tryd.prog base (Instr.storeAt 50 (.pointer ((some a17))) (.agg #[(.int .i64 n10), (.int .i64 n11), (.int .i64 n12), (.int .i64 n13), (.int .u64 n14)])) H16 fun _ H18 =>
 ∃ a19 : Addr, AQ Tryd.prog (Instr.fieldAt 50 (.pointer ((some a17))) 0) (.pointer ((some a19))) ∧
 ∃ n20 : Int, QRun Tryd.prog (Instr.loadAt 3 (.pointer ((some a19)))) H18 (.int .i64 n20) ∧
 if ((n20 : Int) == 1) = true then
 HRun Tryd.prog base (Instr.buildSlice 24 1 #[(0, (.int .i64 y16))]) H18 fun v21 H22 =>
 ∃ (A23 : Option Addr) (l23 c23 : Nat), v21 = (.slice A23 l23 c23) ∧ HRun Tryd.prog base (Builtin.append_ #[24, 24] 24 #[(.slice Ay4 ly4 cy4), (.slice A23 l23 c23)]) H22 fun v24 H25 =>
 ∃ (A26 : Option Addr) (l26 c26 : Nat), v24 = (.slice A26 l26 c26) ∧ N0 (.slice A26 l26 c26) (.int .i64 ((IntKind.i64.wrap (y16 + 1)))) H25
 else
 ∃ a27 : Addr, AQ Tryd.prog (Instr.fieldAt 50 (.pointer ((some a17))) 0) (.pointer ((some a27))) ∧
 ∃ n28 : Int, QRun Tryd.prog (Instr.loadAt 3 (.pointer ((some a27)))) H18 (.int .i64 n28) ∧
 ∃ a29 : Addr, AQ Tryd.prog (Instr.fieldAt 50 (.pointer ((some a17))) 4) (.pointer ((some a29))) ∧
 ∃ n30 : Int, QRun Tryd.prog (Instr.loadAt 22 (.pointer ((some a29)))) H18 (.int .u64 n30) ∧
 ∃ n31 : Int, ∃ n32 : Int, ∃ n33 : Int, ∃ n34 : Int, AQ Tryd.prog (Instr.build 73 #[(0, (.int .i64 n28)), (3, (.int .u64 n30))]) (.agg #[(.int .i64 n31), (.int .i64 n32), (.int .i64 n33), (.int .u64 n34)]) ∧
 HRun Tryd.prog base (Instr.alloc 73 true (.tuple #[])) H18 fun v35 H36 =>
 ∃ a37 : Addr, v35 = (.pointer ((some a37))) ∧ HRun Tryd.prog base (Instr.storeAt 73 (.pointer ((some a37))) (.agg #[(.int .i64 n31), (.int .i64 n32), (.int .i64 n33), (.int .u64 n34)])) H36 fun _ H38 =>
 ∃ a39 : Addr, AQ Tryd.prog (Instr.fieldAt 50 (.pointer ((some a17))) 0) (.pointer ((some a39))) ∧
 ∃ n40 : Int, QRun Tryd.prog (Instr.loadAt 3 (.pointer ((some a39)))) H38 (.int .i64 n40) ∧
 HCall Tryd.prog base 24 #[(.int .i64 n40)] H38 fun v41 H42 =>
 ∃ b43 : Bool, ∃ b44 : Bool, v41 = (.tuple #[(.bool b43), (.bool b44)]) ∧ if b43 = true then
 ∃ a45 : Addr, AQ Tryd.prog (Instr.fieldAt 50 (.pointer ((some a17))) 2) (.pointer ((some a45))) ∧
 ∃ n46 : Int, QRun Tryd.prog (Instr.loadAt 3 (.pointer ((some a45)))) H42 (.int .i64 n46) ∧
 ∃ a47 : Addr, AQ Tryd.prog (Instr.indexAt 24 (.slice Ay4 ly4 cy4) (.int .i64 n46)) (.pointer ((some a47))) ∧
 ∃ n48 : Int, QRun Tryd.prog (Instr.loadAt 3 (.pointer ((some a47)))) H42 (.int .i64 n48) ∧
 ∃ a49 : Addr, AQ Tryd.prog (Instr.fieldAt 73 (.pointer ((some a37))) 1) (.pointer ((some a49))) ∧
 HRun Tryd.prog base (Instr.storeAt 3 (.pointer ((some a49))) (.int .i64 n48)) H42 fun _ H50 =>
 optimize_firsts.R0 base N0 [(.map x3), (.slice Ay4 ly4 cy4), (.int .i64 y16), (.pointer ((some a17))), (.pointer ((some a37))), (.bool b44), (.slice Ax14 lx14 cx14), (.int .i64 x15), (.int .i64 y16)] H50 K
 else
 optimize_firsts.R0 base N0 [(.map x3), (.slice Ay4 ly4 cy4), (.int .i64 y16), (.pointer ((some a17))), (.pointer ((some a37))), (.bool b44), (.slice Ax14 lx14 cx14), (.int .i64 x15), (.int .i64 y16)] H42 K
 else
 K (.slice Ay4 ly4 cy4) H0
theorem optimize_firsts.loop0 {base : Nat} {x3 : Option Nat} {Ax14 : Option Addr} {lx14 cx14 : Nat} {x15 : Int} {Ay4_i : Option Addr} {ly4_i cy4_i : Nat} {y16_i : Int} {H0 : HH} {K : Value → HH → Prop} (J : Nat → Option Addr → Nat → Nat → Int → HH → Prop) (n : Nat) (h0 : J n Ay4_i ly4_i cy4_i y16_i H0)
    (hs : ∀ (n : Nat) (Ay4 : Option Addr) (ly4 cy4 : Nat) (y16 : Int) (g : Fr) (H0 : HH), J n Ay4 ly4 cy4 y16 H0 → optimize_firsts.B0 base x3 Ax14 lx14 cx14 x15 Ay4 ly4 cy4 y16 g (fun w4 w16 H => ∃ n', n' < n ∧ ∃ (Ay4' : Option Addr) (ly4' cy4' : Nat) (y16' : Int), w4 = (.slice Ay4' ly4' cy4') ∧ w16 = (.int .i64 y16') ∧ J n' Ay4' ly4' cy4' y16' H) H0 K) : optimize_firsts.P0 base [(.map x3), (.slice Ay4_i ly4_i cy4_i), (.slice Ax14 lx14 cx14), (.int .i64 x15), (.int .i64 y16_i)] H0 K := by
  refine loop_rule (ann := optimize_firsts.ann) (body := codeAt [.r, .r, .r, .l, .r, .b, .lp] (bodyOf Tryd.f23)) mix (by kernel_rfl) 77371252455336267181133808 (by kernel_rfl) [3, 14, 15] [(.map x3), (.slice Ax14 lx14 cx14), (.int .i64 x15)] (by kernel_rfl) (fun fr ⟨e3, e4, e14, e15, e16, _⟩ => ⟨e3, e14, e15, trivial⟩) (fun n g H => ∃ (Ay4 : Option Addr) (ly4 cy4 : Nat) (y16 : Int), g 4 = (.slice Ay4 ly4 cy4) ∧ g 16 = (.int .i64 y16) ∧ J n Ay4 ly4 cy4 y16 H) n (fun fr ⟨e3, e4, e14, e15, e16, _⟩ => ⟨Ay4_i, ly4_i, cy4_i, y16_i, e4, e16, h0⟩) ?_
  rintro n g H0 ⟨e3, e14, e15, _⟩ ⟨Ay4, ly4, cy4, y16, e4, e16, hJ⟩
  rw [← ov_eq (g := g) [(3, (.map x3)), (4, (.slice Ay4 ly4 cy4)), (14, (.slice Ax14 lx14 cx14)), (15, (.int .i64 x15)), (16, (.int .i64 y16))] (by simp only [List.mem_cons, List.not_mem_nil, or_false, forall_eq_or_imp, forall_eq, false_implies, implies_true]; exact ⟨e3, e4, e14, e15, e16⟩)]
  have key : ∀ NN : Value → Value → HH → Prop, optimize_firsts.B0 base x3 Ax14 lx14 cx14 x15 Ay4 ly4 cy4 y16 g NN H0 K = wpC Tryd.prog base 87 optimize_firsts.ann (codeAt [.r, .r, .r, .l, .r, .b, .lp] (bodyOf Tryd.f23)) (ov g [(3, (.map x3)), (4, (.slice Ay4 ly4 cy4)), (14, (.slice Ax14 lx14 cx14)), (15, (.int .i64 x15)), (16, (.int .i64 y16))]) H0 (thenQ (fun fr H => NN (fr 4) (fr 16) H) (qAt Tryd.prog base 87 optimize_firsts.ann [.r, .r, .r, .l, .r, .b] [] (bodyOf Tryd.f23) (retQ Tryd.prog 87 Tryd.f23 K))) := fun NN => by kernel_rfl
  refine cast ?_ (hs n Ay4 ly4 cy4 y16 g H0 hJ)
  refine (key (fun w4 w16 H => ∃ n', n' < n ∧ ∃ (Ay4' : Option Addr) (ly4' cy4' : Nat) (y16' : Int), w4 = (.slice Ay4' ly4' cy4') ∧ w16 = (.int .i64 y16') ∧ J n' Ay4' ly4' cy4' y16' H)).trans ?_
  kernel_rfl
def optimize_Optimize.ann : Ann := ⟨fun k => bif Nat.beq k 28 then [12] else bif Nat.beq k 31 then [10] else bif Nat.beq k 33 then [10] else bif Nat.beq k 40 then [7, 8, 10] else bif Nat.beq k 42 then [2, 3] else [], fun k => bif Nat.beq k 14 then true else bif Nat.beq k 18 then true else bif Nat.beq k 32 then true else bif Nat.beq k 34 then true else false, fun k => bif Nat.beq k 4 then [1, 2, 3, 4, 5, 27, 28, 29] else bif Nat.beq k 9 then [1, 2, 3, 4, 5, 8] else bif Nat.beq k 14 then [1, 2, 3, 4, 5, 8, 9] else bif Nat.beq k 18 then [1, 2, 3, 4, 5, 8, 9, 11] else bif Nat.beq k 23 then [1, 2, 3, 4, 5, 12, 13, 95, 96, 97] else bif Nat.beq k 32 then [1, 2, 3, 4, 5, 12, 13, 14, 15, 17, 95, 96, 97] else bif Nat.beq k 34 then [1, 2, 3, 4, 5, 12, 13, 14, 15, 95, 96, 97] else bif Nat.beq k 38 then [2, 3, 12, 13, 175, 176, 177] else []⟩
def optimize_Optimize.P0 (base : Nat) (l : List Value) (H0 : HH) (K : Value → HH → Prop) : Prop := HCodeL Tryd.prog base 194 (codeAt [.r, .r, .r, .l, .r, .b] (bodyOf Tryd.f11)) [1, 2, 3, 4, 5, 27, 28, 29] l H0 (qAt Tryd.prog base 194 optimize_Optimize.ann [.r, .r, .r, .l, .r, .b] [] (bodyOf Tryd.f11) (retQ Tryd.prog 194 Tryd.f11 K))
def optimize_Optimize.P1 (base : Nat) (l : List Value) (H0 : HH) (K : Value → HH → Prop) : Prop := HCodeL Tryd.prog base 194 (codeAt [.r, .r, .r, .r, .l, .r, .b] (bodyOf Tryd.f11)) [1, 2, 3, 4, 5, 8] l H0 (qAt Tryd.prog base 194 optimize_Optimize.ann [.r, .r, .r, .r, .l, .r, .b] [] (bodyOf Tryd.f11) (retQ Tryd.prog 194 Tryd.f11 K))
def optimize_Optimize.P2 (base : Nat) (l : List Value) (H0 : HH) (K : Value → HH → Prop) : Prop := HCodeL Tryd.prog base 194 (codeAt [.r, .r, .r, .r, .r, .r, .r, .l, .r, .b] (bodyOf Tryd.f11)) [1, 2, 3, 4, 5, 12, 13, 95, 96, 97] l H0 (qAt Tryd.prog base 194 optimize_Optimize.ann [.r, .r, .r, .r, .r, .r, .r, .l, .r, .b] [] (bodyOf Tryd.f11) (retQ Tryd.prog 194 Tryd.f11 K))
def optimize_Optimize.P3 (base : Nat) (l : List Value) (H0 : HH) (K : Value → HH → Prop) : Prop := HCodeL Tryd.prog base 194 (codeAt [.r, .r, .r, .r, .r, .r, .r, .r, .l, .r, .b] (bodyOf Tryd.f11)) [2, 3, 12, 13, 175, 176, 177] l H0 (qAt Tryd.prog base 194 optimize_Optimize.ann [.r, .r, .r, .r, .r, .r, .r, .r, .l, .r, .b] [] (bodyOf Tryd.f11) (retQ Tryd.prog 194 Tryd.f11 K))
def optimize_Optimize.R0 (base : Nat) (N1 : Value → HH → Prop) (l : List Value) (H0 : HH) (K : Value → HH → Prop) : Prop := HCodeL Tryd.prog base 194 (codeAt [.r, .r, .r, .r, .l, .r, .b, .lp, .r, .l, .b, .r, .r] (bodyOf Tryd.f11)) [1, 2, 3, 4, 5, 8, 9] l H0 (qAt Tryd.prog base 194 optimize_Optimize.ann [.r, .r, .r, .r, .l, .r, .b, .lp, .r, .l, .b, .r, .r] [fun fr H => N1 (fr 8) H] (bodyOf Tryd.f11) (retQ Tryd.prog 194 Tryd.f11 K))
def optimize_Optimize.R1 (base : Nat) (N1 : Value → HH → Prop) (l : List Value) (H0 : HH) (K : Value → HH → Prop) : Prop := HCodeL Tryd.prog base 194 (codeAt [.r, .r, .r, .r, .l, .r, .b, .lp, .r, .l, .b, .r, .r, .r, .r, .r] (bodyOf Tryd.f11)) [1, 2, 3, 4, 5, 8, 9, 11] l H0 (qAt Tryd.prog base 194 optimize_Optimize.ann [.r, .r, .r, .r, .l, .r, .b, .lp, .r, .l, .b, .r, .r, .r, .r, .r] [fun fr H => N1 (fr 8) H] (bodyOf Tryd.f11) (retQ Tryd.prog 194 Tryd.f11 K))
def optimize_Optimize.R2 (base : Nat) (N2 : Value → HH → Prop) (l : List Value) (H0 : HH) (K : Value → HH → Prop) : Prop := HCodeL Tryd.prog base 194 (codeAt [.r, .r, .r, .r, .r, .r, .r, .l, .r, .b, .lp, .r, .r, .l, .b, .r, .r, .r, .r, .r, .r] (bodyOf Tryd.f11)) [1, 2, 3, 4, 5, 12, 13, 14, 15, 17, 95, 96, 97] l H0 (qAt Tryd.prog base 194 optimize_Optimize.ann [.r, .r, .r, .r, .r, .r, .r, .l, .r, .b, .lp, .r, .r, .l, .b, .r, .r, .r, .r, .r, .r] [fun fr H => N2 (fr 97) H] (bodyOf Tryd.f11) (retQ Tryd.prog 194 Tryd.f11 K))
def optimize_Optimize.R3 (base : Nat) (N2 : Value → HH → Prop) (l : List Value) (H0 : HH) (K : Value → HH → Prop) : Prop := HCodeL Tryd.prog base 194 (codeAt [.r, .r, .r, .r, .r, .r, .r, .l, .r, .b, .lp, .r, .r, .l, .b, .r, .r, .r, .r, .r, .r, .r] (bodyOf Tryd.f11)) [1, 2, 3, 4, 5, 12, 13, 14, 15, 95, 96, 97] l H0 (qAt Tryd.prog base 194 optimize_Optimize.ann [.r, .r, .r, .r, .r, .r, .r, .l, .r, .b, .lp, .r, .r, .l, .b, .r, .r, .r, .r, .r, .r, .r] [fun fr H => N2 (fr 97) H] (bodyOf Tryd.f11) (retQ Tryd.prog 194 Tryd.f11 K))
def optimize_Optimize.S0 (base : Nat) (N1 : Value → HH → Prop) (x1 x2 x3 : Addr) (Ax4 : Option Addr) (lx4 cx4 : Nat) (Ax5 : Option Addr) (lx5 cx5 : Nat) (x8 : Int) (x9 : Addr) (H0 : HH) (K : Value → HH → Prop) : Prop :=
 ∃ a138 : Addr, AQ Tryd.prog (Instr.indexAt 57 (.slice Ax5 lx5 cx5) (.int .i64 x8)) (.pointer ((some a138))) ∧
 ∃ b139 : Bool, QRun Tryd.prog (Instr.loadAt 4 (.pointer ((some a138)))) H0 (.bool b139) ∧
 if (!b139) = true then
 N1 (.int .i64 ((IntKind.i64.wrap (x8 - 1)))) H0
 else
 ∃ a140 : Addr, AQ Tryd.prog (Instr.fieldAt 50 (.pointer ((some x9))) 0) (.pointer ((some a140))) ∧
 ∃ n141 : Int, QRun Tryd.prog (Instr.loadAt 3 (.pointer ((some a140)))) H0 (.int .i64 n141) ∧
 HCall Tryd.prog base 24 #[(.int .i64 n141)] H0 fun v142 H143 =>
 ∃ b144 : Bool, ∃ b145 : Bool, v142 = (.tuple #[(.bool b144), (.bool b145)]) ∧ if b144 = true then
 ∃ a146 : Addr, AQ Tryd.prog (Instr.fieldAt 50 (.pointer ((some x9))) 2) (.pointer ((some a146))) ∧
 ∃ n147 : Int, QRun Tryd.prog (Instr.loadAt 3 (.pointer ((some a146)))) H143 (.int .i64 n147) ∧
 ∃ a148 : Addr, AQ Tryd.prog (Instr.indexAt 24 (.slice Ax4 lx4 cx4) (.int .i64 n147)) (.pointer ((some a148))) ∧
 ∃ n149 : Int, QRun Tryd.prog (Instr.loadAt 3 (.pointer ((some a148)))) H143 (.int .i64 n149) ∧
 ∃ a150 : Addr, AQ Tryd.prog (Instr.indexAt 57 (.slice Ax5 lx5 cx5) (.int .i64 n149)) (.pointer ((some a150))) ∧
 HRun Tryd.prog base (Instr.storeAt 4 (.pointer ((some a150))) (.bool true)) H143 fun _ H151 =>
 optimize_Optimize.R1 base N1 [(.pointer ((some x1))), (.pointer ((some x2))), (.pointer ((some x3))), (.slice Ax4 lx4 cx4), (.slice Ax5 lx5 cx5), (.int .i64 x8), (.pointer ((some x9))), (.bool b145)] H151 K
 else
 optimize_Optimize.R1 base N1 [(.pointer ((some x1))), (.pointer ((some x2))), (.pointer ((some x3))), (.slice Ax4 lx4 cx4), (.slice Ax5 lx5 cx5), (.int .i64 x8), (.pointer ((some x9))), (.bool b145)] H143 K
def optimize_Optimize.T0 (base : Nat) (N1 : Value → HH → Prop) (x1 x2 x3 : Addr) (Ax4 : Option Addr) (lx4 cx4 : Nat) (Ax5 : Option Addr) (lx5 cx5 : Nat) (x8 : Int) (x9 : Addr) (H0 : HH) (K : Value → HH → Prop) : Prop := optimize_Optimize.S0 base N1 x1 x2 x3 Ax4 lx4 cx4 Ax5 lx5 cx5 x8 x9 H0 K
theorem optimize_Optimize.rest0 {base : Nat} {N1 : Value → HH → Prop} {x1 x2 x3 : Addr} {Ax4 : Option Addr} {lx4 cx4 : Nat} {Ax5 : Option Addr} {lx5 cx5 : Nat} {x8 : Int} {x9 : Addr} {H0 : HH} {K : Value → HH → Prop} (h : optimize_Optimize.S0 base N1 x1 x2 x3 Ax4 lx4 cx4 Ax5 lx5 cx5 x8 x9 H0 K) : optimize_Optimize.R0 base N1 [(.pointer ((some x1))), (.pointer ((some x2))), (.pointer ((some x3))), (.slice Ax4 lx4 cx4), (.slice Ax5 lx5 cx5), (.int .i64 x8), (.pointer ((some x9)))] H0 K := by
  refine wpCL_sound (ann := optimize_Optimize.ann) mix (fun fr ⟨e1, e2, e3, e4, e5, e8, e9, _⟩ => ?_)
  rw [← ov_eq (g := fr) [(1, (.pointer ((some x1)))), (2, (.pointer ((some x2)))), (3, (.pointer ((some x3)))), (4, (.slice Ax4 lx4 cx4)), (5, (.slice Ax5 lx5 cx5)), (8, (.int .i64 x8)), (9, (.pointer ((some x9))))] (by simp only [List.mem_cons, List.not_mem_nil, or_false, forall_eq_or_imp, forall_eq, false_implies, implies_true]; exact ⟨e1, e2, e3, e4, e5, e8, e9⟩)]
  exact cast (show optimize_Optimize.S0 base N1 x1 x2 x3 Ax4 lx4 cx4 Ax5 lx5 cx5 x8 x9 H0 K = wpC Tryd.prog base 194 optimize_Optimize.ann (codeAt [.r, .r, .r, .r, .l, .r, .b, .lp, .r, .l, .b, .r, .r] (bodyOf Tryd.f11)) (ov fr [(1, (.pointer ((some x1)))), (2, (.pointer ((some x2)))), (3, (.pointer ((some x3)))), (4, (.slice Ax4 lx4 cx4)), (5, (.slice Ax5 lx5 cx5)), (8, (.int .i64 x8)), (9, (.pointer ((some x9))))]) H0 (qAt Tryd.prog base 194 optimize_Optimize.ann [.r, .r, .r, .r, .l, .r, .b, .lp, .r, .l, .b, .r, .r] [fun fr H => N1 (fr 8) H] (bodyOf Tryd.f11) (retQ Tryd.prog 194 Tryd.f11 K)) by kernel_rfl) h
theorem optimize_Optimize.cut0 {base : Nat} {N1 : Value → HH → Prop} {x1 x2 x3 : Addr} {Ax4 : Option Addr} {lx4 cx4 : Nat} {Ax5 : Option Addr} {lx5 cx5 : Nat} {x8 : Int} {x9 : Addr} {H0 : HH} {K : Value → HH → Prop} (h : optimize_Optimize.T0 base N1 x1 x2 x3 Ax4 lx4 cx4 Ax5 lx5 cx5 x8 x9 H0 K) : optimize_Optimize.R0 base N1 [(.pointer ((some x1))), (.pointer ((some x2))), (.pointer ((some x3))), (.slice Ax4 lx4 cx4), (.slice Ax5 lx5 cx5), (.int .i64 x8), (.pointer ((some x9)))] H0 K := optimize_Optimize.rest0 h
def optimize_Optimize.S1 (base : Nat) (N1 : Value → HH → Prop) (x1 x2 x3 : Addr) (Ax4 : Option Addr) (lx4 cx4 : Nat) (Ax5 : Option Addr) (lx5 cx5 : Nat) (x8 : Int) (x9 : Addr) (x11 : Bool) (H0 : HH) (K : Value → HH → Prop) : Prop :=
 if x11 = true then
 ∃ a152 : Addr, AQ Tryd.prog (Instr.fieldAt 50 (.pointer ((some x9))) 3) (.pointer ((some a152))) ∧
 ∃ n153 : Int, QRun Tryd.prog (Instr.loadAt 3 (.pointer ((some a152)))) H0 (.int .i64 n153) ∧
 ∃ a154 : Addr, AQ Tryd.prog (Instr.indexAt 24 (.slice Ax4 lx4 cx4) (.int .i64 n153)) (.pointer ((some a154))) ∧
 ∃ n155 : Int, QRun Tryd.prog (Instr.loadAt 3 (.pointer ((some a154)))) H0 (.int .i64 n155) ∧
 ∃ a156 : Addr, AQ Tryd.prog (Instr.indexAt 57 (.slice Ax5 lx5 cx5) (.int .i64 n155)) (.pointer ((some a156))) ∧
 HRun Tryd.prog base (Instr.storeAt 4 (.pointer ((some a156))) (.bool true)) H0 fun _ H157 =>
 N1 (.int .i64 ((IntKind.i64.wrap (x8 - 1)))) H157
 else
 N1 (.int .i64 ((IntKind.i64.wrap (x8 - 1)))) H0
def optimize_Optimize.T1 (base : Nat) (N1 : Value → HH → Prop) (x1 x2 x3 : Addr) (Ax4 : Option Addr) (lx4 cx4 : Nat) (Ax5 : Option Addr) (lx5 cx5 : Nat) (x8 : Int) (x9 : Addr) (x11 : Bool) (H0 : HH) (K : Value → HH → Prop) : Prop := optimize_Optimize.S1 base N1 x1 x2 x3 Ax4 lx4 cx4 Ax5 lx5 cx5 x8 x9 x11 H0 K
theorem optimize_Optimize.rest1 {base : Nat} {N1 : Value → HH → Prop} {x1 x2 x3 : Addr} {Ax4 : Option Addr} {lx4 cx4 : Nat} {Ax5 : Option Addr} {lx5 cx5 : Nat} {x8 : Int} {x9 : Addr} {x11 : Bool} {H0 : HH} {K : Value → HH → Prop} (h : optimize_Optimize.S1 base N1 x1 x2 x3 Ax4 lx4 cx4 Ax5 lx5 cx5 x8 x9 x11 H0 K) : optimize_Optimize.R1 base N1 [(.pointer ((some x1))), (.pointer ((some x2))), (.pointer ((some x3))), (.slice Ax4 lx4 cx4), (.slice Ax5 lx5 cx5), (.int .i64 x8), (.pointer ((some x9))), (.bool x11)] H0 K := by
  refine wpCL_sound (ann := optimize_Optimize.ann) mix (fun fr ⟨e1, e2, e3, e4, e5, e8, e9, e11, _⟩ => ?_)
  rw [← ov_eq (g := fr) [(1, (.pointer ((some x1)))), (2, (.pointer ((some x2)))), (3, (.pointer ((some x3)))), (4, (.slice Ax4 lx4 cx4)), (5, (.slice Ax5 lx5 cx5)), (8, (.int .i64 x8)), (9, (.pointer ((some x9)))), (11, (.bool x11))] (by simp only [List.mem_cons, List.not_mem_nil, or_false, forall_eq_or_imp, forall_eq, false_implies, implies_true]; exact ⟨e1, e2, e3, e4, e5, e8, e9, e11⟩)]
  exact cast (show optimize_Optimize.S1 base N1 x1 x2 x3 Ax4 lx4 cx4 Ax5 lx5 cx5 x8 x9 x11 H0 K = wpC Tryd.prog base 194 optimize_Optimize.ann (codeAt [.r, .r, .r, .r, .l, .r, .b, .lp, .r, .l, .b, .r, .r, .r, .r, .r] (bodyOf Tryd.f11)) (ov fr [(1, (.pointer ((some x1)))), (2, (.pointer ((some x2)))), (3, (.pointer ((some x3)))), (4, (.slice Ax4 lx4 cx4)), (5, (.slice Ax5 lx5 cx5)), (8, (.int .i64 x8)), (9, (.pointer ((some x9)))), (11, (.bool x11))]) H0 (qAt Tryd.prog base 194 optimize_Optimize.ann [.r, .r, .r, .r, .l, .r, .b, .lp, .r, .l, .b, .r, .r, .r, .r, .r] [fun fr H => N1 (fr 8) H] (bodyOf Tryd.f11) (retQ Tryd.prog 194 Tryd.f11 K)) by kernel_rfl) h
theorem optimize_Optimize.cut1 {base : Nat} {N1 : Value → HH → Prop} {x1 x2 x3 : Addr} {Ax4 : Option Addr} {lx4 cx4 : Nat} {Ax5 : Option Addr} {lx5 cx5 : Nat} {x8 : Int} {x9 : Addr} {x11 : Bool} {H0 : HH} {K : Value → HH → Prop} (h : optimize_Optimize.T1 base N1 x1 x2 x3 Ax4 lx4 cx4 Ax5 lx5 cx5 x8 x9 x11 H0 K) : optimize_Optimize.R1 base N1 [(.pointer ((some x1))), (.pointer ((some x2))), (.pointer ((some x3))), (.slice Ax4 lx4 cx4), (.slice Ax5 lx5 cx5), (.int .i64 x8), (.pointer ((some x9))), (.bool x11)] H0 K := optimize_Optimize.rest1 h
def optimize_Optimize.S2 (base : Nat) (N2 : Value → HH → Prop) (x1 x2 x3 : Addr) (Ax4 : Option Addr) (lx4 cx4 : Nat) (Ax5 : Option Addr) (lx5 cx5 : Nat) (x12 x13 : Addr) (x14 : Int) (x15 : Addr) (x17 : Bool) (Ax95 : Option Addr) (lx95 cx95 : Nat) (x96 x97 : Int) (H0 : HH) (K : Value → HH → Prop) : Prop :=
 if x17 = true then
 ∃ a158 : Addr, AQ Tryd.prog (Instr.fieldAt 28 (.pointer ((some x13))) 0) (.pointer ((some a158))) ∧
 ∃ (A159 : Option Addr) (l159 c159 : Nat), QRun Tryd.prog (Instr.loadAt 24 (.pointer ((some a158)))) H0 (.slice A159 l159 c159) ∧
 ∃ a160 : Addr, AQ Tryd.prog (Instr.fieldAt 50 (.pointer ((some x15))) 3) (.pointer ((some a160))) ∧
 ∃ n161 : Int, QRun Tryd.prog (Instr.loadAt 3 (.pointer ((some a160)))) H0 (.int .i64 n161) ∧
 ∃ a162 : Addr, AQ Tryd.prog (Instr.indexAt 24 (.slice Ax4 lx4 cx4) (.int .i64 n161)) (.pointer ((some a162))) ∧
 ∃ n163 : Int, QRun Tryd.prog (Instr.loadAt 3 (.pointer ((some a162)))) H0 (.int .i64 n163) ∧
 ∃ a164 : Addr, AQ Tryd.prog (Instr.indexAt 24 (.slice A159 l159 c159) (.int .i64 n163)) (.pointer ((some a164))) ∧
 ∃ n165 : Int, QRun Tryd.prog (Instr.loadAt 3 (.pointer ((some a164)))) H0 (.int .i64 n165) ∧
 ∃ a166 : Addr, AQ Tryd.prog (Instr.fieldAt 50 (.pointer ((some x15))) 3) (.pointer ((some a166))) ∧
 HRun Tryd.prog base (Instr.storeAt 3 (.pointer ((some a166))) (.int .i64 n165)) H0 fun _ H167 =>
 optimize_Optimize.R3 base N2 [(.pointer ((some x1))), (.pointer ((some x2))), (.pointer ((some x3))), (.slice Ax4 lx4 cx4), (.slice Ax5 lx5 cx5), (.pointer ((some x12))), (.pointer ((some x13))), (.int .i64 x14), (.pointer ((some x15))), (.slice Ax95 lx95 cx95), (.int .i64 x96), (.int .i64 x97)] H167 K
 else
 optimize_Optimize.R3 base N2 [(.pointer ((some x1))), (.pointer ((some x2))), (.pointer ((some x3))), (.slice Ax4 lx4 cx4), (.slice Ax5 lx5 cx5), (.pointer ((some x12))), (.pointer ((some x13))), (.int .i64 x14), (.pointer ((some x15))), (.slice Ax95 lx95 cx95), (.int .i64 x96), (.int .i64 x97)] H0 K
def optimize_Optimize.T2 (base : Nat) (N2 : Value → HH → Prop) (x1 x2 x3 : Addr) (Ax4 : Option Addr) (lx4 cx4 : Nat) (Ax5 : Option Addr) (lx5 cx5 : Nat) (x12 x13 : Addr) (x14 : Int) (x15 : Addr) (x17 : Bool) (Ax95 : Option Addr) (lx95 cx95 : Nat) (x96 x97 : Int) (H0 : HH) (K : Value → HH → Prop) : Prop := optimize_Optimize.S2 base N2 x1 x2 x3 Ax4 lx4 cx4 Ax5 lx5 cx5 x12 x13 x14 x15 x17 Ax95 lx95 cx95 x96 x97 H0 K
theorem optimize_Optimize.rest2 {base : Nat} {N2 : Value → HH → Prop} {x1 x2 x3 : Addr} {Ax4 : Option Addr} {lx4 cx4 : Nat} {Ax5 : Option Addr} {lx5 cx5 : Nat} {x12 x13 : Addr} {x14 : Int} {x15 : Addr} {x17 : Bool} {Ax95 : Option Addr} {lx95 cx95 : Nat} {x96 x97 : Int} {H0 : HH} {K : Value → HH → Prop} (h : optimize_Optimize.S2 base N2 x1 x2 x3 Ax4 lx4 cx4 Ax5 lx5 cx5 x12 x13 x14 x15 x17 Ax95 lx95 cx95 x96 x97 H0 K) : optimize_Optimize.R2 base N2 [(.pointer ((some x1))), (.pointer ((some x2))), (.pointer ((some x3))), (.slice Ax4 lx4 cx4), (.slice Ax5 lx5 cx5), (.pointer ((some x12))), (.pointer ((some x13))), (.int .i64 x14), (.pointer ((some x15))), (.bool x17), (.slice Ax95 lx95 cx95), (.int .i64 x96), (.int .i64 x97)] H0 K := by
  refine wpCL_sound (ann := optimize_Optimize.ann) mix (fun fr ⟨e1, e2, e3, e4, e5, e12, e13, e14, e15, e17, e95, e96, e97, _⟩ => ?_)
  rw [← ov_eq (g := fr) [(1, (.pointer ((some x1)))), (2, (.pointer ((some x2)))), (3, (.pointer ((some x3)))), (4, (.slice Ax4 lx4 cx4)), (5, (.slice Ax5 lx5 cx5)), (12, (.pointer ((some x12)))), (13, (.pointer ((some x13)))), (14, (.int .i64 x14)), (15, (.pointer ((some x15)))), (17, (.bool x17)), (95, (.slice Ax95 lx95 cx95)), (96, (.int .i64 x96)), (97, (.int .i64 x97))] (by simp only [List.mem_cons, List.not_mem_nil, or_false, forall_eq_or_imp, forall_eq, false_implies, implies_true]; exact ⟨e1, e2, e3, e4, e5, e12, e13, e14, e15, e17, e95, e96, e97⟩)]
  exact cast (show optimize_Optimize.S2 base N2 x1 x2 x3 Ax4 lx4 cx4 Ax5 lx5 cx5 x12 x13 x14 x15 x17 Ax95 lx95 cx95 x96 x97 H0 K = wpC Tryd.prog base 194 optimize_Optimize.ann (codeAt [.r, .r, .r, .r, .r, .r, .r, .l, .r, .b, .lp, .r, .r, .l, .b, .r, .r, .r, .r, .r, .r] (bodyOf Tryd.f11)) (ov fr [(1, (.pointer ((some x1)))), (2, (.pointer ((some x2)))), (3, (.pointer ((some x3)))), (4, (.slice Ax4 lx4 cx4)), (5, (.slice Ax5 lx5 cx5)), (12, (.pointer ((some x12)))), (13, (.pointer ((some x13)))), (14, (.int .i64 x14)), (15, (.pointer ((some x15)))), (17, (.bool x17)), (95, (.slice Ax95 lx95 cx95)), (96, (.int .i64 x96)), (97, (.int .i64 x97))]) H0 (qAt Tryd.prog base 194 optimize_Optimize.ann [.r, .r, .r, .r, .r, .r, .r, .l, .r, .b, .lp, .r, .r, .l, .b, .r, .r, .r, .r, .r, .r] [fun fr H => N2 (fr 97) H] (bodyOf Tryd.f11) (retQ Tryd.prog 194 Tryd.f11 K)) by kernel_rfl) h
theorem optimize_Optimize.cut2 {base : Nat} {N2 : Value → HH → Prop} {x1 x2 x3 : Addr} {Ax4 : Option Addr} {lx4 cx4 : Nat} {Ax5 : Option Addr} {lx5 cx5 : Nat} {x12 x13 : Addr} {x14 : Int} {x15 : Addr} {x17 : Bool} {Ax95 : Option Addr} {lx95 cx95 : Nat} {x96 x97 : Int} {H0 : HH} {K : Value → HH → Prop} (h : optimize_Optimize.T2 base N2 x1 x2 x3 Ax4 lx4 cx4 Ax5 lx5 cx5 x12 x13 x14 x15 x17 Ax95 lx95 cx95 x96 x97 H0 K) : optimize_Optimize.R2 base N2 [(.pointer ((some x1))), (.pointer ((some x2))), (.pointer ((some x3))), (.slice Ax4 lx4 cx4), (.slice Ax5 lx5 cx5), (.pointer ((some x12))), (.pointer ((some x13))), (.int .i64 x14), (.pointer ((some x15))), (.bool x17), (.slice Ax95 lx95 cx95), (.int .i64 x96), (.int .i64 x97)] H0 K := optimize_Optimize.rest2 h
def optimize_Optimize.S3 (base : Nat) (N2 : Value → HH → Prop) (x1 x2 x3 : Addr) (Ax4 : Option Addr) (lx4 cx4 : Nat) (Ax5 : Option Addr) (lx5 cx5 : Nat) (x12 x13 : Addr) (x14 : Int) (x15 : Addr) (Ax95 : Option Addr) (lx95 cx95 : Nat) (x96 x97 : Int) (H0 : HH) (K : Value → HH → Prop) : Prop :=
 ∃ a168 : Addr, AQ Tryd.prog (Instr.fieldAt 28 (.pointer ((some x13))) 0) (.pointer ((some a168))) ∧
 ∃ (A169 : Option Addr) (l169 c169 : Nat), QRun Tryd.prog (Instr.loadAt 24 (.pointer ((some a168)))) H0 (.slice A169 l169 c169) ∧
 ∃ a170 : Addr, AQ Tryd.prog (Instr.fieldAt 26 (.pointer ((some x12))) 1) (.pointer ((some a170))) ∧
 ∃ (A171 : Option Addr) (l171 c171 : Nat), QRun Tryd.prog (Instr.loadAt 23 (.pointer ((some a170)))) H0 (.slice A171 l171 c171) ∧
 ∃ a172 : Addr, AQ Tryd.prog (Instr.indexAt 24 (.slice A169 l169 c169) (.int .i64 x14)) (.pointer ((some a172))) ∧
 HRun Tryd.prog base (Instr.storeAt 3 (.pointer ((some a172))) (.int .i64 (((l171 : Nat) : Int)))) H0 fun _ H173 =>
 ∃ a174 : Addr, AQ Tryd.prog (Instr.fieldAt 26 (.pointer ((some x12))) 1) (.pointer ((some a174))) ∧
 ∃ (A175 : Option Addr) (l175 c175 : Nat), QRun Tryd.prog (Instr.loadAt 23 (.pointer ((some a174)))) H173 (.slice A175 l175 c175) ∧
 ∃ n176 : Int, ∃ n177 : Int, ∃ n178 : Int, ∃ n179 : Int, ∃ n180 : Int, QRun Tryd.prog (Instr.loadAt 50 (.pointer ((some x15)))) H173 (.agg #[(.int .i64 n176), (.int .i64 n177), (.int .i64 n178), (.int .i64 n179), (.int .u64 n180)]) ∧
 HRun Tryd.prog base (Instr.buildSlice 23 1 #[(0, (.agg #[(.int .i64 n176), (.int .i64 n177), (.int .i64 n178), (.int .i64 n179), (.int .u64 n180)]))]) H173 fun v181 H182 =>
 ∃ (A183 : Option Addr) (l183 c183 : Nat), v181 = (.slice A183 l183 c183) ∧ HRun Tryd.prog base (Builtin.append_ #[23, 23] 23 #[(.slice A175 l175 c175), (.slice A183 l183 c183)]) H182 fun v184 H185 =>
 ∃ (A186 : Option Addr) (l186 c186 : Nat), v184 = (.slice A186 l186 c186) ∧ ∃ a187 : Addr, AQ Tryd.prog (Instr.fieldAt 26 (.pointer ((some x12))) 1) (.pointer ((some a187))) ∧
 HRun Tryd.prog base (Instr.storeAt 23 (.pointer ((some a187))) (.slice A186 l186 c186)) H185 fun _ H188 =>
 N2 (.int .i64 ((IntKind.i64.wrap (x97 + 1)))) H188
def optimize_Optimize.T3 (base : Nat) (N2 : Value → HH → Prop) (x1 x2 x3 : Addr) (Ax4 : Option Addr) (lx4 cx4 : Nat) (Ax5 : Option Addr) (lx5 cx5 : Nat) (x12 x13 : Addr) (x14 : Int) (x15 : Addr) (Ax95 : Option Addr) (lx95 cx95 : Nat) (x96 x97 : Int) (H0 : HH) (K : Value → HH → Prop) : Prop := optimize_Optimize.S3 base N2 x1 x2 x3 Ax4 lx4 cx4 Ax5 lx5 cx5 x12 x13 x14 x15 Ax95 lx95 cx95 x96 x97 H0 K
theorem optimize_Optimize.rest3 {base : Nat} {N2 : Value → HH → Prop} {x1 x2 x3 : Addr} {Ax4 : Option Addr} {lx4 cx4 : Nat} {Ax5 : Option Addr} {lx5 cx5 : Nat} {x12 x13 : Addr} {x14 : Int} {x15 : Addr} {Ax95 : Option Addr} {lx95 cx95 : Nat} {x96 x97 : Int} {H0 : HH} {K : Value → HH → Prop} (h : optimize_Optimize.S3 base N2 x1 x2 x3 Ax4 lx4 cx4 Ax5 lx5 cx5 x12 x13 x14 x15 Ax95 lx95 cx95 x96 x97 H0 K) : optimize_Optimize.R3 base N2 [(.pointer ((some x1))), (.pointer ((some x2))), (.pointer ((some x3))), (.slice Ax4 lx4 cx4), (.slice Ax5 lx5 cx5), (.pointer ((some x12))), (.pointer ((some x13))), (.int .i64 x14), (.pointer ((some x15))), (.slice Ax95 lx95 cx95), (.int .i64 x96), (.int .i64 x97)] H0 K := by
  refine wpCL_sound (ann := optimize_Optimize.ann) mix (fun fr ⟨e1, e2, e3, e4, e5, e12, e13, e14, e15, e95, e96, e97, _⟩ => ?_)
  rw [← ov_eq (g := fr) [(1, (.pointer ((some x1)))), (2, (.pointer ((some x2)))), (3, (.pointer ((some x3)))), (4, (.slice Ax4 lx4 cx4)), (5, (.slice Ax5 lx5 cx5)), (12, (.pointer ((some x12)))), (13, (.pointer ((some x13)))), (14, (.int .i64 x14)), (15, (.pointer ((some x15)))), (95, (.slice Ax95 lx95 cx95)), (96, (.int .i64 x96)), (97, (.int .i64 x97))] (by simp only [List.mem_cons, List.not_mem_nil, or_false, forall_eq_or_imp, forall_eq, false_implies, implies_true]; exact ⟨e1, e2, e3, e4, e5, e12, e13, e14, e15, e95, e96, e97⟩)]
  exact cast (show optimize_Optimize.S3 base N2 x1 x2 x3 Ax4 lx4 cx4 Ax5 lx5 cx5 x12 x13 x14 x15 Ax95 lx95 cx95 x96 x97 H0 K = wpC Tryd.prog base 194 optimize_Optimize.ann (codeAt [.r, .r, .r, .r, .r, .r, .r, .l, .r, .b, .lp, .r, .r, .l, .b, .r, .r, .r, .r, .r, .r, .r] (bodyOf Tryd.f11)) (ov fr [(1, (.pointer ((some x1)))), (2, (.pointer ((some x2)))), (3, (.pointer ((some x3)))), (4, (.slice Ax4 lx4 cx4)), (5, (.slice Ax5 lx5 cx5)), (12, (.pointer ((some x12)))), (13, (.pointer ((some x13)))), (14, (.int .i64 x14)), (15, (.pointer ((some x15)))), (95, (.slice Ax95 lx95 cx95)), (96, (.int .i64 x96)), (97, (.int .i64 x97))]) H0 (qAt Tryd.prog base 194 optimize_Optimize.ann [.r, .r, .r, .r, .r, .r, .r, .l, .r, .b, .lp, .r, .r, .l, .b, .r, .r, .r, .r, .r, .r, .r] [fun fr H => N2 (fr 97) H] (bodyOf Tryd.f11) (retQ Tryd.prog 194 Tryd.f11 K)) by kernel_rfl) h
theorem optimize_Optimize.cut3 {base : Nat} {N2 : Value → HH → Prop} {x1 x2 x3 : Addr} {Ax4 : Option Addr} {lx4 cx4 : Nat} {Ax5 : Option Addr} {lx5 cx5 : Nat} {x12 x13 : Addr} {x14 : Int} {x15 : Addr} {Ax95 : Option Addr} {lx95 cx95 : Nat} {x96 x97 : Int} {H0 : HH} {K : Value → HH → Prop} (h : optimize_Optimize.T3 base N2 x1 x2 x3 Ax4 lx4 cx4 Ax5 lx5 cx5 x12 x13 x14 x15 Ax95 lx95 cx95 x96 x97 H0 K) : optimize_Optimize.R3 base N2 [(.pointer ((some x1))), (.pointer ((some x2))), (.pointer ((some x3))), (.slice Ax4 lx4 cx4), (.slice Ax5 lx5 cx5), (.pointer ((some x12))), (.pointer ((some x13))), (.int .i64 x14), (.pointer ((some x15))), (.slice Ax95 lx95 cx95), (.int .i64 x96), (.int .i64 x97)] H0 K := optimize_Optimize.rest3 h
def optimize_Optimize.sh (base : Nat) (x0_0 : Int) (Ax0_1 : Option Addr) (lx0_1 cx0_1 : Nat) (Ax0_2 : Option Addr) (lx0_2 cx0_2 : Nat) (H0 : HH) (K : Value → HH → Prop) : Prop :=
 HRun Tryd.prog base (Instr.box 26 (.agg #[(.int .u64 x0_0), (.slice Ax0_1 lx0_1 cx0_1), (.slice Ax0_2 lx0_2 cx0_2)])) H0 fun v1 H2 =>
 ∃ a3 : Addr, v1 = (.pointer ((some a3))) ∧ HRun Tryd.prog base (Instr.alloc 26 true (.tuple #[])) H2 fun v4 H5 =>
 ∃ a6 : Addr, v4 = (.pointer ((some a6))) ∧ HRun Tryd.prog base (Instr.alloc 28 true (.tuple #[])) H5 fun v7 H8 =>
 ∃ a9 : Addr, v7 = (.pointer ((some a9))) ∧ ∃ n10 : Int, ∃ (A11 : Option Addr) (l11 c11 : Nat), ∃ (A12 : Option Addr) (l12 c12 : Nat), QRun Tryd.prog (Instr.loadAt 26 (.pointer ((some a3)))) H8 (.agg #[(.int .u64 n10), (.slice A11 l11 c11), (.slice A12 l12 c12)]) ∧
 HCall Tryd.prog base 23 #[(.agg #[(.int .u64 n10), (.slice A11 l11 c11), (.slice A12 l12 c12)])] H8 fun v13 H14 =>
 ∃ (A15 : Option Addr) (l15 c15 : Nat), v13 = (.slice A15 l15 c15) ∧ ∃ a16 : Addr, AQ Tryd.prog (Instr.fieldAt 26 (.pointer ((some a3))) 1) (.pointer ((some a16))) ∧
 ∃ (A17 : Option Addr) (l17 c17 : Nat), QRun Tryd.prog (Instr.loadAt 23 (.pointer ((some a16)))) H14 (.slice A17 l17 c17) ∧
 HRun Tryd.prog base (Instr.makeSlice 57 (.int .i64 (((l17 : Nat) : Int))) (.int .i64 (((l17 : Nat) : Int)))) H14 fun v18 H19 =>
 ∃ (A20 : Option Addr) (l20 c20 : Nat), v18 = (.slice A20 l20 c20) ∧ ∃ a21 : Addr, AQ Tryd.prog (Instr.fieldAt 26 (.pointer ((some a3))) 2) (.pointer ((some a21))) ∧
 ∃ (A22 : Option Addr) (l22 c22 : Nat), QRun Tryd.prog (Instr.loadAt 24 (.pointer ((some a21)))) H19 (.slice A22 l22 c22) ∧
 optimize_Optimize.P0 base [(.pointer ((some a3))), (.pointer ((some a6))), (.pointer ((some a9))), (.slice A15 l15 c15), (.slice A20 l20 c20), (.slice A22 l22 c22), (.int .i64 (((l22 : Nat) : Int))), (.int .i64 0)] H19 K
theorem optimize_Optimize.spec {base : Nat} {x0_0 : Int} {Ax0_1 : Option Addr} {lx0_1 cx0_1 : Nat} {Ax0_2 : Option Addr} {lx0_2 cx0_2 : Nat} {H0 : HH} {K : Value → HH → Prop} (h : optimize_Optimize.sh base x0_0 Ax0_1 lx0_1 cx0_1 Ax0_2 lx0_2 cx0_2 H0 K) : HCall Tryd.prog base 11 #[(.agg #[(.int .u64 x0_0), (.slice Ax0_1 lx0_1 cx0_1), (.slice Ax0_2 lx0_2 cx0_2)])] H0 K := spec_of_wpC (n := 194) (ann := optimize_Optimize.ann) mix Tryd.func11 (by kernel_rfl) (cast (show optimize_Optimize.sh base x0_0 Ax0_1 lx0_1 cx0_1 Ax0_2 lx0_2 cx0_2 H0 K = wpC Tryd.prog base 194 optimize_Optimize.ann (bodyOf Tryd.f11) (ofL [(.agg #[(.int .u64 x0_0), (.slice Ax0_1 lx0_1 cx0_1), (.slice Ax0_2 lx0_2 cx0_2)])]) H0 (retQ Tryd.prog 194 Tryd.f11 K) by kernel_rfl) h)
def optimize_Optimize.B0 (base : Nat) (x1 x2 x3 : Addr) (Ax4 : Option Addr) (lx4 cx4 : Nat) (Ax5 : Option Addr) (lx5 cx5 : Nat) (Ax27 : Option Addr) (lx27 cx27 : Nat) (x28 : Int) (y29 : Int) (g : Fr) (N0 : Value → HH → Prop) (H0 : HH) (K : Value → HH → Prop) : Prop :=
 if (decide ((y29 : Int) < x28)) = true then
 ∃ a23 : Addr, AQ Tryd.prog (Instr.indexAt 24 (.slice Ax27 lx27 cx27) (.int .i64 y29)) (.pointer ((some a23))) ∧
 ∃ n24 : Int, QRun Tryd.prog (Instr.loadAt 3 (.pointer ((some a23)))) H0 (.int .i64 n24) ∧
 ∃ a25 : Addr, AQ Tryd.prog (Instr.indexAt 24 (.slice Ax4 lx4 cx4) (.int .i64 n24)) (.pointer ((some a25))) ∧
 ∃ n26 : Int, QRun Tryd.prog (Instr.loadAt 3 (.pointer ((some a25)))) H0 (.int .i64 n26) ∧
 ∃ a27 : Addr, AQ Tryd.prog (Instr.indexAt 57 (.slice Ax5 lx5 cx5) (.int .i64 n26)) (.pointer ((some a27))) ∧
 HRun Tryd.prog base (Instr.storeAt 4 (.pointer ((some a27))) (.bool true)) H0 fun _ H28 =>
 N0 (.int .i64 ((IntKind.i64.wrap (y29 + 1)))) H28
 else
 ∃ a29 : Addr, AQ Tryd.prog (Instr.fieldAt 26 (.pointer ((some x1))) 1) (.pointer ((some a29))) ∧
 ∃ (A30 : Option Addr) (l30 c30 : Nat), QRun Tryd.prog (Instr.loadAt 23 (.pointer ((some a29)))) H0 (.slice A30 l30 c30) ∧
 optimize_Optimize.P1 base [(.pointer ((some x1))), (.pointer ((some x2))), (.pointer ((some x3))), (.slice Ax4 lx4 cx4), (.slice Ax5 lx5 cx5), (.int .i64 ((IntKind.i64.wrap ((((l30 : Nat) : Int)) - 1))))] H0 K
theorem optimize_Optimize.loop0 {base : Nat} {x1 x2 x3 : Addr} {Ax4 : Option Addr} {lx4 cx4 : Nat} {Ax5 : Option Addr} {lx5 cx5 : Nat} {Ax27 : Option Addr} {lx27 cx27 : Nat} {x28 y29_i : Int} {H0 : HH} {K : Value → HH → Prop} (J : Nat → Int → HH → Prop) (n : Nat) (h0 : J n y29_i H0)
    (hs : ∀ (n : Nat) (y29 : Int) (g : Fr) (H0 : HH), J n y29 H0 → optimize_Optimize.B0 base x1 x2 x3 Ax4 lx4 cx4 Ax5 lx5 cx5 Ax27 lx27 cx27 x28 y29 g (fun w29 H => ∃ n', n' < n ∧ ∃ (y29' : Int), w29 = (.int .i64 y29') ∧ J n' y29' H) H0 K) : optimize_Optimize.P0 base [(.pointer ((some x1))), (.pointer ((some x2))), (.pointer ((some x3))), (.slice Ax4 lx4 cx4), (.slice Ax5 lx5 cx5), (.slice Ax27 lx27 cx27), (.int .i64 x28), (.int .i64 y29_i)] H0 K := by
  refine loop_rule (ann := optimize_Optimize.ann) (body := codeAt [.r, .r, .r, .l, .r, .b, .lp] (bodyOf Tryd.f11)) mix (by kernel_rfl) 1098974756992 (by kernel_rfl) [1, 2, 3, 4, 5, 27, 28] [(.pointer ((some x1))), (.pointer ((some x2))), (.pointer ((some x3))), (.slice Ax4 lx4 cx4), (.slice Ax5 lx5 cx5), (.slice Ax27 lx27 cx27), (.int .i64 x28)] (by kernel_rfl) (fun fr ⟨e1, e2, e3, e4, e5, e27, e28, e29, _⟩ => ⟨e1, e2, e3, e4, e5, e27, e28, trivial⟩) (fun n g H => ∃ (y29 : Int), g 29 = (.int .i64 y29) ∧ J n y29 H) n (fun fr ⟨e1, e2, e3, e4, e5, e27, e28, e29, _⟩ => ⟨y29_i, e29, h0⟩) ?_
  rintro n g H0 ⟨e1, e2, e3, e4, e5, e27, e28, _⟩ ⟨y29, e29, hJ⟩
  rw [← ov_eq (g := g) [(1, (.pointer ((some x1)))), (2, (.pointer ((some x2)))), (3, (.pointer ((some x3)))), (4, (.slice Ax4 lx4 cx4)), (5, (.slice Ax5 lx5 cx5)), (27, (.slice Ax27 lx27 cx27)), (28, (.int .i64 x28)), (29, (.int .i64 y29))] (by simp only [List.mem_cons, List.not_mem_nil, or_false, forall_eq_or_imp, forall_eq, false_implies, implies_true]; exact ⟨e1, e2, e3, e4, e5, e27, e28, e29⟩)]
  have key : ∀ NN : Value → HH → Prop, optimize_Optimize.B0 base x1 x2 x3 Ax4 lx4 cx4 Ax5 lx5 cx5 Ax27 lx27 cx27 x28 y29 g NN H0 K = wpC Tryd.prog base 194 optimize_Optimize.ann (codeAt [.r, .r, .r, .l, .r, .b, .lp] (bodyOf Tryd.f11)) (ov g [(1, (.pointer ((some x1)))), (2, (.pointer ((some x2)))), (3, (.pointer ((some x3)))), (4, (.slice Ax4 lx4 cx4)), (5, (.slice Ax5 lx5 cx5)), (27, (.slice Ax27 lx27 cx27)), (28, (.int .i64 x28)), (29, (.int .i64 y29))]) H0 (thenQ (fun fr H => NN (fr 29) H) (qAt Tryd.prog base 194 optimize_Optimize.ann [.r, .r, .r, .l, .r, .b] [] (bodyOf Tryd.f11) (retQ Tryd.prog 194 Tryd.f11 K))) := fun NN => by kernel_rfl
  refine cast ?_ (hs n y29 g H0 hJ)
  refine (key (fun w29 H => ∃ n', n' < n ∧ ∃ (y29' : Int), w29 = (.int .i64 y29') ∧ J n' y29' H)).trans ?_
  kernel_rfl
def optimize_Optimize.B1 (base : Nat) (x1 x2 x3 : Addr) (Ax4 : Option Addr) (lx4 cx4 : Nat) (Ax5 : Option Addr) (lx5 cx5 : Nat) (y8 : Int) (g : Fr) (N1 : Value → HH → Prop) (H0 : HH) (K : Value → HH → Prop) : Prop :=
 if (decide ((y8 : Int) ≥ 0)) = true then
 ∃ a31 : Addr, AQ Tryd.prog (Instr.fieldAt 26 (.pointer ((some x1))) 1) (.pointer ((some a31))) ∧
 ∃ (A32 : Option Addr) (l32 c32 : Nat), QRun Tryd.prog (Instr.loadAt 23 (.pointer ((some a31)))) H0 (.slice A32 l32 c32) ∧
 ∃ a33 : Addr, AQ Tryd.prog (Instr.indexAt 23 (.slice A32 l32 c32) (.int .i64 y8)) (.pointer ((some a33))) ∧
 ∃ n34 : Int, ∃ n35 : Int, ∃ n36 : Int, ∃ n37 : Int, ∃ n38 : Int, QRun Tryd.prog (Instr.loadAt 50 (.pointer ((some a33)))) H0 (.agg #[(.int .i64 n34), (.int .i64 n35), (.int .i64 n36), (.int .i64 n37), (.int .u64 n38)]) ∧
 HRun Tryd.prog base (Instr.alloc 50 true (.tuple #[])) H0 fun v39 H40 =>
 ∃ a41 : Addr, v39 = (.pointer ((some a41))) ∧ HRun Tryd.prog base (Instr.storeAt 50 (.pointer ((some a41))) (.agg #[(.int .i64 n34), (.int .i64 n35), (.int .i64 n36), (.int .i64 n37), (.int .u64 n38)])) H40 fun _ H42 =>
 ∃ a43 : Addr, AQ Tryd.prog (Instr.fieldAt 50 (.pointer ((some a41))) 0) (.pointer ((some a43))) ∧
 ∃ n44 : Int, QRun Tryd.prog (Instr.loadAt 3 (.pointer ((some a43)))) H42 (.int .i64 n44) ∧
 if ((n44 : Int) == 1) = true then
 ∃ a45 : Addr, AQ Tryd.prog (Instr.indexAt 57 (.slice Ax5 lx5 cx5) (.int .i64 y8)) (.pointer ((some a45))) ∧
 HRun Tryd.prog base (Instr.storeAt 4 (.pointer ((some a45))) (.bool true)) H42 fun _ H46 =>
 optimize_Optimize.R0 base N1 [(.pointer ((some x1))), (.pointer ((some x2))), (.pointer ((some x3))), (.slice Ax4 lx4 cx4), (.slice Ax5 lx5 cx5), (.int .i64 y8), (.pointer ((some a41)))] H46 K
 else
 optimize_Optimize.R0 base N1 [(.pointer ((some x1))), (.pointer ((some x2))), (.pointer ((some x3))), (.slice Ax4 lx4 cx4), (.slice Ax5 lx5 cx5), (.int .i64 y8), (.pointer ((some a41)))] H42 K
 else
 ∃ a47 : Addr, AQ Tryd.prog (Instr.fieldAt 26 (.pointer ((some x1))) 0) (.pointer ((some a47))) ∧
 ∃ n48 : Int, QRun Tryd.prog (Instr.loadAt 22 (.pointer ((some a47)))) H0 (.int .u64 n48) ∧
 ∃ n49 : Int, ∃ (A50 : Option Addr) (l50 c50 : Nat), ∃ (A51 : Option Addr) (l51 c51 : Nat), AQ Tryd.prog (Instr.build 26 #[(0, (.int .u64 n48))]) (.agg #[(.int .u64 n49), (.slice A50 l50 c50), (.slice A51 l51 c51)]) ∧
 HRun Tryd.prog base (Instr.alloc 26 true (.tuple #[])) H0 fun v52 H53 =>
 ∃ a54 : Addr, v52 = (.pointer ((some a54))) ∧ HRun Tryd.prog base (Instr.storeAt 26 (.pointer ((some a54))) (.agg #[(.int .u64 n49), (.slice A50 l50 c50), (.slice A51 l51 c51)])) H53 fun _ H55 =>
 ∃ a56 : Addr, AQ Tryd.prog (Instr.fieldAt 26 (.pointer ((some x1))) 1) (.pointer ((some a56))) ∧
 ∃ (A57 : Option Addr) (l57 c57 : Nat), QRun Tryd.prog (Instr.loadAt 23 (.pointer ((some a56)))) H55 (.slice A57 l57 c57) ∧
 HRun Tryd.prog base (Instr.makeSlice 24 (.int .i64 (((l57 : Nat) : Int))) (.int .i64 (((l57 : Nat) : Int)))) H55 fun v58 H59 =>
 ∃ (A60 : Option Addr) (l60 c60 : Nat), v58 = (.slice A60 l60 c60) ∧ ∃ (A61 : Option Addr) (l61 c61 : Nat), AQ Tryd.prog (Instr.build 28 #[(0, (.slice A60 l60 c60))]) (.agg #[(.slice A61 l61 c61)]) ∧
 HRun Tryd.prog base (Instr.alloc 28 true (.tuple #[])) H59 fun v62 H63 =>
 ∃ a64 : Addr, v62 = (.pointer ((some a64))) ∧ HRun Tryd.prog base (Instr.storeAt 28 (.pointer ((some a64))) (.agg #[(.slice A61 l61 c61)])) H63 fun _ H65 =>
 ∃ a66 : Addr, AQ Tryd.prog (Instr.fieldAt 26 (.pointer ((some x1))) 1) (.pointer ((some a66))) ∧
 ∃ (A67 : Option Addr) (l67 c67 : Nat), QRun Tryd.prog (Instr.loadAt 23 (.pointer ((some a66)))) H65 (.slice A67 l67 c67) ∧
 optimize_Optimize.P2 base [(.pointer ((some x1))), (.pointer ((some x2))), (.pointer ((some x3))), (.slice Ax4 lx4 cx4), (.slice Ax5 lx5 cx5), (.pointer ((some a54))), (.pointer ((some a64))), (.slice A67 l67 c67), (.int .i64 (((l67 : Nat) : Int))), (.int .i64 0)] H65 K
theorem optimize_Optimize.loop1 {base : Nat} {x1 x2 x3 : Addr} {Ax4 : Option Addr} {lx4 cx4 : Nat} {Ax5 : Option Addr} {lx5 cx5 : Nat} {y8_i : Int} {H0 : HH} {K : Value → HH → Prop} (J : Nat → Int → HH → Prop) (n : Nat) (h0 : J n y8_i H0)
    (hs : ∀ (n : Nat) (y8 : Int) (g : Fr) (H0 : HH), J n y8 H0 → optimize_Optimize.B1 base x1 x2 x3 Ax4 lx4 cx4 Ax5 lx5 cx5 y8 g (fun w8 H => ∃ n', n' < n ∧ ∃ (y8' : Int), w8 = (.int .i64 y8') ∧ J n' y8' H) H0 K) : optimize_Optimize.P1 base [(.pointer ((some x1))), (.pointer ((some x2))), (.pointer ((some x3))), (.slice Ax4 lx4 cx4), (.slice Ax5 lx5 cx5), (.int .i64 y8_i)] H0 K := by
  refine loop_rule (ann := optimize_Optimize.ann) (body := codeAt [.r, .r, .r, .r, .l, .r, .b, .lp] (bodyOf Tryd.f11)) mix (by kernel_rfl) 77371252455318674995154688 (by kernel_rfl) [1, 2, 3, 4, 5] [(.pointer ((some x1))), (.pointer ((some x2))), (.pointer ((some x3))), (.slice Ax4 lx4 cx4), (.slice Ax5 lx5 cx5)] (by kernel_rfl) (fun fr ⟨e1, e2, e3, e4, e5, e8, _⟩ => ⟨e1, e2, e3, e4, e5, trivial⟩) (fun n g H => ∃ (y8 : Int), g 8 = (.int .i64 y8) ∧ J n y8 H) n (fun fr ⟨e1, e2, e3, e4, e5, e8, _⟩ => ⟨y8_i, e8, h0⟩) ?_
  rintro n g H0 ⟨e1, e2, e3, e4, e5, _⟩ ⟨y8, e8, hJ⟩
  rw [← ov_eq (g := g) [(1, (.pointer ((some x1)))), (2, (.pointer ((some x2)))), (3, (.pointer ((some x3)))), (4, (.slice Ax4 lx4 cx4)), (5, (.slice Ax5 lx5 cx5)), (8, (.int .i64 y8))] (by simp only [List.mem_cons, List.not_mem_nil, or_false, forall_eq_or_imp, forall_eq, false_implies, implies_true]; exact ⟨e1, e2, e3, e4, e5, e8⟩)]
  have key : ∀ NN : Value → HH → Prop, optimize_Optimize.B1 base x1 x2 x3 Ax4 lx4 cx4 Ax5 lx5 cx5 y8 g NN H0 K = wpC Tryd.prog base 194 optimize_Optimize.ann (codeAt [.r, .r, .r, .r, .l, .r, .b, .lp] (bodyOf Tryd.f11)) (ov g [(1, (.pointer ((some x1)))), (2, (.pointer ((some x2)))), (3, (.pointer ((some x3)))), (4, (.slice Ax4 lx4 cx4)), (5, (.slice Ax5 lx5 cx5)), (8, (.int .i64 y8))]) H0 (thenQ (fun fr H => NN (fr 8) H) (qAt Tryd.prog base 194 optimize_Optimize.ann [.r, .r, .r, .r, .l, .r, .b] [] (bodyOf Tryd.f11) (retQ Tryd.prog 194 Tryd.f11 K))) := fun NN => by kernel_rfl
  refine cast ?_ (hs n y8 g H0 hJ)
  refine (key (fun w8 H => ∃ n', n' < n ∧ ∃ (y8' : Int), w8 = (.int .i64 y8') ∧ J n' y8' H)).trans ?_
  kernel_rfl
def optimize_Optimize.B2 (base : Nat) (x1 x2 x3 : Addr) (Ax4 : Option Addr) (lx4 cx4 : Nat) (Ax5 : Option Addr) (lx5 cx5 : Nat) (x12 x13 : Addr) (Ax95 : Option Addr) (lx95 cx95 : Nat) (x96 : Int) (y97 : Int) (g : Fr) (N2 : Value → HH → Prop) (H0 : HH) (K : Value → HH → Prop) : Prop :=
 if (decide ((y97 : Int) < x96)) = true then
 ∃ a68 : Addr, AQ Tryd.prog (Instr.indexAt 23 (.slice Ax95 lx95 cx95) (.int .i64 y97)) (.pointer ((some a68))) ∧
 ∃ n69 : Int, ∃ n70 : Int, ∃ n71 : Int, ∃ n72 : Int, ∃ n73 : Int, QRun Tryd.prog (Instr.loadAt 50 (.pointer ((some a68)))) H0 (.agg #[(.int .i64 n69), (.int .i64 n70), (.int .i64 n71), (.int .i64 n72), (.int .u64 n73)]) ∧
 HRun Tryd.prog base (Instr.alloc 50 true (.tuple #[])) H0 fun v74 H75 =>
 ∃ a76 : Addr, v74 = (.pointer ((some a76))) ∧ HRun Tryd.prog base (Instr.storeAt 50 (.pointer ((some a76))) (.agg #[(.int .i64 n69), (.int .i64 n70), (.int .i64 n71), (.int .i64 n72), (.int .u64 n73)])) H75 fun _ H77 =>
 ∃ a78 : Addr, AQ Tryd.prog (Instr.fieldAt 28 (.pointer ((some x13))) 0) (.pointer ((some a78))) ∧
 ∃ (A79 : Option Addr) (l79 c79 : Nat), QRun Tryd.prog (Instr.loadAt 24 (.pointer ((some a78)))) H77 (.slice A79 l79 c79) ∧
 ∃ a80 : Addr, AQ Tryd.prog (Instr.indexAt 24 (.slice A79 l79 c79) (.int .i64 y97)) (.pointer ((some a80))) ∧
 HRun Tryd.prog base (Instr.storeAt 3 (.pointer ((some a80))) (.int .i64 ((-1)))) H77 fun _ H81 =>
 ∃ a82 : Addr, AQ Tryd.prog (Instr.indexAt 24 (.slice Ax4 lx4 cx4) (.int .i64 y97)) (.pointer ((some a82))) ∧
 ∃ n83 : Int, QRun Tryd.prog (Instr.loadAt 3 (.pointer ((some a82)))) H81 (.int .i64 n83) ∧
 ∃ a84 : Addr, AQ Tryd.prog (Instr.indexAt 57 (.slice Ax5 lx5 cx5) (.int .i64 n83)) (.pointer ((some a84))) ∧
 ∃ b85 : Bool, QRun Tryd.prog (Instr.loadAt 4 (.pointer ((some a84)))) H81 (.bool b85) ∧
 if (!b85) = true then
 N2 (.int .i64 ((IntKind.i64.wrap (y97 + 1)))) H81
 else
 ∃ a86 : Addr, AQ Tryd.prog (Instr.indexAt 24 (.slice Ax4 lx4 cx4) (.int .i64 y97)) (.pointer ((some a86))) ∧
 ∃ n87 : Int, QRun Tryd.prog (Instr.loadAt 3 (.pointer ((some a86)))) H81 (.int .i64 n87) ∧
 if ((n87 : Int) != y97) = true then
 ∃ a88 : Addr, AQ Tryd.prog (Instr.fieldAt 28 (.pointer ((some x13))) 0) (.pointer ((some a88))) ∧
 ∃ (A89 : Option Addr) (l89 c89 : Nat), QRun Tryd.prog (Instr.loadAt 24 (.pointer ((some a88)))) H81 (.slice A89 l89 c89) ∧
 ∃ a90 : Addr, AQ Tryd.prog (Instr.fieldAt 28 (.pointer ((some x13))) 0) (.pointer ((some a90))) ∧
 ∃ (A91 : Option Addr) (l91 c91 : Nat), QRun Tryd.prog (Instr.loadAt 24 (.pointer ((some a90)))) H81 (.slice A91 l91 c91) ∧
 ∃ a92 : Addr, AQ Tryd.prog (Instr.indexAt 24 (.slice Ax4 lx4 cx4) (.int .i64 y97)) (.pointer ((some a92))) ∧
 ∃ n93 : Int, QRun Tryd.prog (Instr.loadAt 3 (.pointer ((some a92)))) H81 (.int .i64 n93) ∧
 ∃ a94 : Addr, AQ Tryd.prog (Instr.indexAt 24 (.slice A91 l91 c91) (.int .i64 n93)) (.pointer ((some a94))) ∧
 ∃ n95 : Int, QRun Tryd.prog (Instr.loadAt 3 (.pointer ((some a94)))) H81 (.int .i64 n95) ∧
 ∃ a96 : Addr, AQ Tryd.prog (Instr.indexAt 24 (.slice A89 l89 c89) (.int .i64 y97)) (.pointer ((some a96))) ∧
 HRun Tryd.prog base (Instr.storeAt 3 (.pointer ((some a96))) (.int .i64 n95)) H81 fun _ H97 =>
 N2 (.int .i64 ((IntKind.i64.wrap (y97 + 1)))) H97
 else
 ∃ a98 : Addr, AQ Tryd.prog (Instr.fieldAt 50 (.pointer ((some a76))) 0) (.pointer ((some a98))) ∧
 ∃ n99 : Int, QRun Tryd.prog (Instr.loadAt 3 (.pointer ((some a98)))) H81 (.int .i64 n99) ∧
 HCall Tryd.prog base 24 #[(.int .i64 n99)] H81 fun v100 H101 =>
 ∃ b102 : Bool, ∃ b103 : Bool, v100 = (.tuple #[(.bool b102), (.bool b103)]) ∧ if b102 = true then
 ∃ a104 : Addr, AQ Tryd.prog (Instr.fieldAt 28 (.pointer ((some x13))) 0) (.pointer ((some a104))) ∧
 ∃ (A105 : Option Addr) (l105 c105 : Nat), QRun Tryd.prog (Instr.loadAt 24 (.pointer ((some a104)))) H101 (.slice A105 l105 c105) ∧
 ∃ a106 : Addr, AQ Tryd.prog (Instr.fieldAt 50 (.pointer ((some a76))) 2) (.pointer ((some a106))) ∧
 ∃ n107 : Int, QRun Tryd.prog (Instr.loadAt 3 (.pointer ((some a106)))) H101 (.int .i64 n107) ∧
 ∃ a108 : Addr, AQ Tryd.prog (Instr.indexAt 24 (.slice Ax4 lx4 cx4) (.int .i64 n107)) (.pointer ((some a108))) ∧
 ∃ n109 : Int, QRun Tryd.prog (Instr.loadAt 3 (.pointer ((some a108)))) H101 (.int .i64 n109) ∧
 ∃ a110 : Addr, AQ Tryd.prog (Instr.indexAt 24 (.slice A105 l105 c105) (.int .i64 n109)) (.pointer ((some a110))) ∧
 ∃ n111 : Int, QRun Tryd.prog (Instr.loadAt 3 (.pointer ((some a110)))) H101 (.int .i64 n111) ∧
 ∃ a112 : Addr, AQ Tryd.prog (Instr.fieldAt 50 (.pointer ((some a76))) 2) (.pointer ((some a112))) ∧
 HRun Tryd.prog base (Instr.storeAt 3 (.pointer ((some a112))) (.int .i64 n111)) H101 fun _ H113 =>
 optimize_Optimize.R2 base N2 [(.pointer ((some x1))), (.pointer ((some x2))), (.pointer ((some x3))), (.slice Ax4 lx4 cx4), (.slice Ax5 lx5 cx5), (.pointer ((some x12))), (.pointer ((some x13))), (.int .i64 y97), (.pointer ((some a76))), (.bool b103), (.slice Ax95 lx95 cx95), (.int .i64 x96), (.int .i64 y97)] H113 K
 else
 optimize_Optimize.R2 base N2 [(.pointer ((some x1))), (.pointer ((some x2))), (.pointer ((some x3))), (.slice Ax4 lx4 cx4), (.slice Ax5 lx5 cx5), (.pointer ((some x12))), (.pointer ((some x13))), (.int .i64 y97), (.pointer ((some a76))), (.bool b103), (.slice Ax95 lx95 cx95), (.int .i64 x96), (.int .i64 y97)] H101 K
 else
 ∃ a114 : Addr, AQ Tryd.prog (Instr.fieldAt 26 (.pointer ((some x1))) 2) (.pointer ((some a114))) ∧
 ∃ (A115 : Option Addr) (l115 c115 : Nat), QRun Tryd.prog (Instr.loadAt 24 (.pointer ((some a114)))) H0 (.slice A115 l115 c115) ∧
 optimize_Optimize.P3 base [(.pointer ((some x2))), (.pointer ((some x3))), (.pointer ((some x12))), (.pointer ((some x13))), (.slice A115 l115 c115), (.int .i64 (((l115 : Nat) : Int))), (.int .i64 0)] H0 K
theorem optimize_Optimize.loop2 {base : Nat} {x1 x2 x3 : Addr} {Ax4 : Option Addr} {lx4 cx4 : Nat} {Ax5 : Option Addr} {lx5 cx5 : Nat} {x12 x13 : Addr} {Ax95 : Option Addr} {lx95 cx95 : Nat} {x96 y97_i : Int} {H0 : HH} {K : Value → HH → Prop} (J : Nat → Int → HH → Prop) (n : Nat) (h0 : J n y97_i H0)
    (hs : ∀ (n : Nat) (y97 : Int) (g : Fr) (H0 : HH), J n y97 H0 → optimize_Optimize.B2 base x1 x2 x3 Ax4 lx4 cx4 Ax5 lx5 cx5 x12 x13 Ax95 lx95 cx95 x96 y97 g (fun w97 H => ∃ n', n' < n ∧ ∃ (y97' : Int), w97 = (.int .i64 y97') ∧ J n' y97' H) H0 K) : optimize_Optimize.P2 base [(.pointer ((some x1))), (.pointer ((some x2))), (.pointer ((some x3))), (.slice Ax4 lx4 cx4), (.slice Ax5 lx5 cx5), (.pointer ((some x12))), (.pointer ((some x13))), (.slice Ax95 lx95 cx95), (.int .i64 x96), (.int .i64 y97_i)] H0 K := by
  refine loop_rule (ann := optimize_Optimize.ann) (body := codeAt [.r, .r, .r, .r, .r, .r, .r, .l, .r, .b, .lp] (bodyOf Tryd.f11)) mix (by kernel_rfl) 23945242826029513411849013842898552465367611696463872 (by kernel_rfl) [1, 2, 3, 4, 5, 12, 13, 95, 96] [(.pointer ((some x1))), (.pointer ((some x2))), (.pointer ((some x3))), (.slice Ax4 lx4 cx4), (.slice Ax5 lx5 cx5), (.pointer ((some x12))), (.pointer ((some x13))), (.slice Ax95 lx95 cx95), (.int .i64 x96)] (by kernel_rfl) (fun fr ⟨e1, e2, e3, e4, e5, e12, e13, e95, e96, e97, _⟩ => ⟨e1, e2, e3, e4, e5, e12, e13, e95, e96, trivial⟩) (fun n g H => ∃ (y97 : Int), g 97 = (.int .i64 y97) ∧ J n y97 H) n (fun fr ⟨e1, e2, e3, e4, e5, e12, e13, e95, e96, e97, _⟩ => ⟨y97_i, e97, h0⟩) ?_
  rintro n g H0 ⟨e1, e2, e3, e4, e5, e12, e13, e95, e96, _⟩ ⟨y97, e97, hJ⟩
  rw [← ov_eq (g := g) [(1, (.pointer ((some x1)))), (2, (.pointer ((some x2)))), (3, (.pointer ((some x3)))), (4, (.slice Ax4 lx4 cx4)), (5, (.slice Ax5 lx5 cx5)), (12, (.pointer ((some x12)))), (13, (.pointer ((some x13)))), (95, (.slice Ax95 lx95 cx95)), (96, (.int .i64 x96)), (97, (.int .i64 y97))] (by simp only [List.mem_cons, List.not_mem_nil, or_false, forall_eq_or_imp, forall_eq, false_implies, implies_true]; exact ⟨e1, e2, e3, e4, e5, e12, e13, e95, e96, e97⟩)]
  have key : ∀ NN : Value → HH → Prop, optimize_Optimize.B2 base x1 x2 x3 Ax4 lx4 cx4 Ax5 lx5 cx5 x12 x13 Ax95 lx95 cx95 x96 y97 g NN H0 K = wpC Tryd.prog base 194 optimize_Optimize.ann (codeAt [.r, .r, .r, .r, .r, .r, .r, .l, .r, .b, .lp] (bodyOf Tryd.f11)) (ov g [(1, (.pointer ((some x1)))), (2, (.pointer ((some x2)))), (3, (.pointer ((some x3)))), (4, (.slice Ax4 lx4 cx4)), (5, (.slice Ax5 lx5 cx5)), (12, (.pointer ((some x12)))), (13, (.pointer ((some x13)))), (95, (.slice Ax95 lx95 cx95)), (96, (.int .i64 x96)), (97, (.int .i64 y97))]) H0 (thenQ (fun fr H => NN (fr 97) H) (qAt Tryd.prog base 194 optimize_Optimize.ann [.r, .r, .r, .r, .r, .r, .r, .l, .r, .b] [] (bodyOf Tryd.f11) (retQ Tryd.prog 194 Tryd.f11 K))) := fun NN => by kernel_rfl
  refine cast ?_ (hs n y97 g H0 hJ)
  refine (key (fun w97 H => ∃ n', n' < n ∧ ∃ (y97' : Int), w97 = (.int .i64 y97') ∧ J n' y97' H)).trans ?_
  kernel_rfl
def optimize_Optimize.B3 (base : Nat) (x2 x3 x12 x13 : Addr) (Ax175 : Option Addr) (lx175 cx175 : Nat) (x176 : Int) (y177 : Int) (g : Fr) (N3 : Value → HH → Prop) (H0 : HH) (K : Value → HH → Prop) : Prop :=
 if (decide ((y177 : Int) < x176)) = true then
 ∃ a116 : Addr, AQ Tryd.prog (Instr.indexAt 24 (.slice Ax175 lx175 cx175) (.int .i64 y177)) (.pointer ((some a116))) ∧
 ∃ n117 : Int, QRun Tryd.prog (Instr.loadAt 3 (.pointer ((some a116)))) H0 (.int .i64 n117) ∧
 ∃ a118 : Addr, AQ Tryd.prog (Instr.fieldAt 26 (.pointer ((some x12))) 2) (.pointer ((some a118))) ∧
 ∃ (A119 : Option Addr) (l119 c119 : Nat), QRun Tryd.prog (Instr.loadAt 24 (.pointer ((some a118)))) H0 (.slice A119 l119 c119) ∧
 ∃ a120 : Addr, AQ Tryd.prog (Instr.fieldAt 28 (.pointer ((some x13))) 0) (.pointer ((some a120))) ∧
 ∃ (A121 : Option Addr) (l121 c121 : Nat), QRun Tryd.prog (Instr.loadAt 24 (.pointer ((some a120)))) H0 (.slice A121 l121 c121) ∧
 ∃ a122 : Addr, AQ Tryd.prog (Instr.indexAt 24 (.slice A121 l121 c121) (.int .i64 n117)) (.pointer ((some a122))) ∧
 ∃ n123 : Int, QRun Tryd.prog (Instr.loadAt 3 (.pointer ((some a122)))) H0 (.int .i64 n123) ∧
 HRun Tryd.prog base (Instr.buildSlice 24 1 #[(0, (.int .i64 n123))]) H0 fun v124 H125 =>
 ∃ (A126 : Option Addr) (l126 c126 : Nat), v124 = (.slice A126 l126 c126) ∧ QRun Tryd.prog (Instr.loadAt 24 (.pointer ((some a118)))) H125 (.slice A119 l119 c119) ∧
 HRun Tryd.prog base (Builtin.append_ #[24, 24] 24 #[(.slice A119 l119 c119), (.slice A126 l126 c126)]) H125 fun v127 H128 =>
 ∃ (A129 : Option Addr) (l129 c129 : Nat), v127 = (.slice A129 l129 c129) ∧ ∃ a130 : Addr, AQ Tryd.prog (Instr.fieldAt 26 (.pointer ((some x12))) 2) (.pointer ((some a130))) ∧
 HRun Tryd.prog base (Instr.storeAt 24 (.pointer ((some a130))) (.slice A129 l129 c129)) H128 fun _ H131 =>
 N3 (.int .i64 ((IntKind.i64.wrap (y177 + 1)))) H131
 else
 ∃ n132 : Int, ∃ (A133 : Option Addr) (l133 c133 : Nat), ∃ (A134 : Option Addr) (l134 c134 : Nat), QRun Tryd.prog (Instr.loadAt 26 (.pointer ((some x12)))) H0 (.agg #[(.int .u64 n132), (.slice A133 l133 c133), (.slice A134 l134 c134)]) ∧
 ∃ (A135 : Option Addr) (l135 c135 : Nat), QRun Tryd.prog (Instr.loadAt 28 (.pointer ((some x13)))) H0 (.agg #[(.slice A135 l135 c135)]) ∧
 HRun Tryd.prog base (Instr.storeAt 26 (.pointer ((some x2))) (.agg #[(.int .u64 n132), (.slice A133 l133 c133), (.slice A134 l134 c134)])) H0 fun _ H136 =>
 QRun Tryd.prog (Instr.loadAt 28 (.pointer ((some x13)))) H136 (.agg #[(.slice A135 l135 c135)]) ∧
 HRun Tryd.prog base (Instr.storeAt 28 (.pointer ((some x3))) (.agg #[(.slice A135 l135 c135)])) H136 fun _ H137 =>
 ∃ r_, QRun Tryd.prog (results Tryd.f11 (List.toArray [(g 0), (g 1), (.pointer ((some x2))), (.pointer ((some x3))), (g 4), (g 5), (g 6), (g 7), (g 8), (g 9), (g 10), (g 11), (.pointer ((some x12))), (.pointer ((some x13))), (g 14), (g 15), (g 16), (g 17), (g 18), (g 19), (g 20), (g 21), (g 22), (g 23), (g 24), (g 25), (g 26), (g 27), (g 28), (g 29), (g 30), (g 31), (g 32), (g 33), (g 34), (g 35), (g 36), (g 37), (g 38), (g 39), (g 40), (g 41), (g 42), (g 43), (g 44), (g 45), (g 46), (g 47), (g 48), (g 49), (g 50), (g 51), (g 52), (g 53), (g 54), (g 55), (g 56), (g 57), (g 58), (g 59), (g 60), (g 61), (g 62), (g 63), (g 64), (g 65), (g 66), (g 67), (g 68), (g 69), (g 70), (g 71), (g 72), (g 73), (g 74), (g 75), (g 76), (g 77), (g 78), (g 79), (g 80), (g 81), (g 82), (g 83), (g 84), (g 85), (g 86), (g 87), (g 88), (g 89), (g 90), (g 91), (g 92), (g 93), (g 94), (g 95), (g 96), (g 97), (g 98), (g 99), (g 100), (g 101), (g 102), (g 103), (g 104), (g 105), (g 106), (g 107), (g 108), (g 109), (g 110), (g 111), (g 112), (g 113), (g 114), (g 115), (g 116), (g 117), (g 118), (g 119), (g 120), (g 121), (g 122), (g 123), (g 124), (g 125), (g 126), (g 127), (g 128), (g 129), (g 130), (g 131), (g 132), (g 133), (g 134), (g 135), (g 136), (g 137), (g 138), (g 139), (g 140), (g 141), (g 142), (g 143), (g 144), (g 145), (g 146), (g 147), (g 148), (g 149), (g 150), (g 151), (g 152), (g 153), (g 154), (g 155), (g 156), (g 157), (g 158), (g 159), (g 160), (g 161), (g 162), (g 163), (g 164), (g 165), (g 166), (g 167), (g 168), (g 169), (g 170), (g 171), (g 172), (g 173), (g 174), (.slice Ax175 lx175 cx175), (.int .i64 x176), (.int .i64 y177), (.bool ((decide ((y177 : Int) < x176)))), (g 179), (g 180), (g 181), (g 182), (g 183), (g 184), (g 185), (g 186), (g 187), (g 188), (g 189), (g 190), (g 191), (.agg #[(.int .u64 n132), (.slice A133 l133 c133), (.slice A134 l134 c134)]), (.agg #[(.slice A135 l135 c135)])])) H137 r_ ∧ K r_ H137
theorem optimize_Optimize.loop3 {base : Nat} {x2 x3 x12 x13 : Addr} {Ax175 : Option Addr} {lx175 cx175 : Nat} {x176 y177_i : Int} {H0 : HH} {K : Value → HH → Prop} (J : Nat → Int → HH → Prop) (n : Nat) (h0 : J n y177_i H0)
    (hs : ∀ (n : Nat) (y177 : Int) (g : Fr) (H0 : HH), J n y177 H0 → optimize_Optimize.B3 base x2 x3 x12 x13 Ax175 lx175 cx175 x176 y177 g (fun w177 H => ∃ n', n' < n ∧ ∃ (y177' : Int), w177 = (.int .i64 y177') ∧ J n' y177' H) H0 K) : optimize_Optimize.P3 base [(.pointer ((some x2))), (.pointer ((some x3))), (.pointer ((some x12))), (.pointer ((some x13))), (.slice Ax175 lx175 cx175), (.int .i64 x176), (.int .i64 y177_i)] H0 K := by
  refine loop_rule (ann := optimize_Optimize.ann) (body := codeAt [.r, .r, .r, .r, .r, .r, .r, .r, .l, .r, .b, .lp] (bodyOf Tryd.f11)) mix (by kernel_rfl) 6276910173444072527728494629829272627454403102073762086912 (by kernel_rfl) [2, 3, 12, 13, 175, 176] [(.pointer ((some x2))), (.pointer ((some x3))), (.pointer ((some x12))), (.pointer ((some x13))), (.slice Ax175 lx175 cx175), (.int .i64 x176)] (by kernel_rfl) (fun fr ⟨e2, e3, e12, e13, e175, e176, e177, _⟩ => ⟨e2, e3, e12, e13, e175, e176, trivial⟩) (fun n g H => ∃ (y177 : Int), g 177 = (.int .i64 y177) ∧ J n y177 H) n (fun fr ⟨e2, e3, e12, e13, e175, e176, e177, _⟩ => ⟨y177_i, e177, h0⟩) ?_
  rintro n g H0 ⟨e2, e3, e12, e13, e175, e176, _⟩ ⟨y177, e177, hJ⟩
  rw [← ov_eq (g := g) [(2, (.pointer ((some x2)))), (3, (.pointer ((some x3)))), (12, (.pointer ((some x12)))), (13, (.pointer ((some x13)))), (175, (.slice Ax175 lx175 cx175)), (176, (.int .i64 x176)), (177, (.int .i64 y177))] (by simp only [List.mem_cons, List.not_mem_nil, or_false, forall_eq_or_imp, forall_eq, false_implies, implies_true]; exact ⟨e2, e3, e12, e13, e175, e176, e177⟩)]
  have key : ∀ NN : Value → HH → Prop, optimize_Optimize.B3 base x2 x3 x12 x13 Ax175 lx175 cx175 x176 y177 g NN H0 K = wpC Tryd.prog base 194 optimize_Optimize.ann (codeAt [.r, .r, .r, .r, .r, .r, .r, .r, .l, .r, .b, .lp] (bodyOf Tryd.f11)) (ov g [(2, (.pointer ((some x2)))), (3, (.pointer ((some x3)))), (12, (.pointer ((some x12)))), (13, (.pointer ((some x13)))), (175, (.slice Ax175 lx175 cx175)), (176, (.int .i64 x176)), (177, (.int .i64 y177))]) H0 (thenQ (fun fr H => NN (fr 177) H) (qAt Tryd.prog base 194 optimize_Optimize.ann [.r, .r, .r, .r, .r, .r, .r, .r, .l, .r, .b] [] (bodyOf Tryd.f11) (retQ Tryd.prog 194 Tryd.f11 K))) := fun NN => by kernel_rfl
  refine cast ?_ (hs n y177 g H0 hJ)
  refine (key (fun w177 H => ∃ n', n' < n ∧ ∃ (y177' : Int), w177 = (.int .i64 y177') ∧ J n' y177' H)).trans ?_
  kernel_rfl
def optimize_inputs.ann : Ann := ⟨fun k => [], fun k => false, fun k => bif Nat.beq k 3 then [3, 7, 8, 9] else []⟩
def optimize_inputs.P0 (base : Nat) (l : List Value) (H0 : HH) (K : Value → HH → Prop) : Prop := HCodeL Tryd.prog base 23 (codeAt [.r, .r, .l, .r, .b] (bodyOf Tryd.f16)) [3, 7, 8, 9] l H0 (qAt Tryd.prog base 23 optimize_inputs.ann [.r, .r, .l, .r, .b] [] (bodyOf Tryd.f16) (retQ Tryd.prog 23 Tryd.f16 K))
def optimize_inputs.sh (base : Nat) (x0_0 : Int) (Ax0_1 : Option Addr) (lx0_1 cx0_1 : Nat) (Ax0_2 : Option Addr) (lx0_2 cx0_2 : Nat) (H0 : HH) (K : Value → HH → Prop) : Prop :=
 HRun Tryd.prog base (Instr.box 26 (.agg #[(.int .u64 x0_0), (.slice Ax0_1 lx0_1 cx0_1), (.slice Ax0_2 lx0_2 cx0_2)])) H0 fun v1 H2 =>
 ∃ a3 : Addr, v1 = (.pointer ((some a3))) ∧ ∃ a4 : Addr, AQ Tryd.prog (Instr.fieldAt 26 (.pointer ((some a3))) 1) (.pointer ((some a4))) ∧
 ∃ (A5 : Option Addr) (l5 c5 : Nat), QRun Tryd.prog (Instr.loadAt 23 (.pointer ((some a4)))) H2 (.slice A5 l5 c5) ∧
 optimize_inputs.P0 base [(.slice none 0 0), (.slice A5 l5 c5), (.int .i64 (((l5 : Nat) : Int))), (.int .i64 0)] H2 K
theorem optimize_inputs.spec {base : Nat} {x0_0 : Int} {Ax0_1 : Option Addr} {lx0_1 cx0_1 : Nat} {Ax0_2 : Option Addr} {lx0_2 cx0_2 : Nat} {H0 : HH} {K : Value → HH → Prop} (h : optimize_inputs.sh base x0_0 Ax0_1 lx0_1 cx0_1 Ax0_2 lx0_2 cx0_2 H0 K) : HCall Tryd.prog base 16 #[(.agg #[(.int .u64 x0_0), (.slice Ax0_1 lx0_1 cx0_1), (.slice Ax0_2 lx0_2 cx0_2)])] H0 K := spec_of_wpC (n := 23) (ann := optimize_inputs.ann) mix Tryd.func16 (by kernel_rfl) (cast (show optimize_inputs.sh base x0_0 Ax0_1 lx0_1 cx0_1 Ax0_2 lx0_2 cx0_2 H0 K = wpC Tryd.prog base 23 optimize_inputs.ann (bodyOf Tryd.f16) (ofL [(.agg #[(.int .u64 x0_0), (.slice Ax0_1 lx0_1 cx0_1), (.slice Ax0_2 lx0_2 cx0_2)])]) H0 (retQ Tryd.prog 23 Tryd.f16 K) by kernel_rfl) h)
def optimize_inputs.B0 (base : Nat) (Ax7 : Option Addr) (lx7 cx7 : Nat) (x8 : Int) (Ay3 : Option Addr) (ly3 cy3 : Nat) (y9 : Int) (g : Fr) (N0 : Value → Value → HH → Prop) (H0 : HH) (K : Value → HH → Prop) : Prop :=
 if (decide ((y9 : Int) < x8)) = true then
 ∃ a6 : Addr, AQ Tryd.prog (Instr.indexAt 23 (.slice Ax7 lx7 cx7) (.int .i64 y9)) (.pointer ((some a6))) ∧
 ∃ n7 : Int, ∃ n8 : Int, ∃ n9 : Int, ∃ n10 : Int, ∃ n11 : Int, QRun Tryd.prog (Instr.loadAt 50 (.pointer ((some a6)))) H0 (.agg #[(.int .i64 n7), (.int .i64 n8), (.int .i64 n9), (.int .i64 n10), (.int .u64 n11)]) ∧
 HRun Tryd.prog base (Instr.alloc 50 true (.tuple #[])) H0 fun v12 H13 =>
 ∃ a14 : Addr, v12 = (.pointer ((some a14))) ∧ HRun Tryd.prog base (Instr.storeAt 50 (.pointer ((some a14))) (.agg #[(.int .i64 n7), (.int .i64 n8), (.int .i64 n9), (.int .i64 n10), (.int .u64 n11)])) H13 fun _ H15 =>
 ∃ a16 : Addr, AQ Tryd.prog (Instr.fieldAt 50 (.pointer ((some a14))) 0) (.pointer ((some a16))) ∧
 ∃ n17 : Int, QRun Tryd.prog (Instr.loadAt 3 (.pointer ((some a16)))) H15 (.int .i64 n17) ∧
 if ((n17 : Int) == 1) = true then
 HRun Tryd.prog base (Instr.buildSlice 24 1 #[(0, (.int .i64 y9))]) H15 fun v18 H19 =>
 ∃ (A20 : Option Addr) (l20 c20 : Nat), v18 = (.slice A20 l20 c20) ∧ HRun Tryd.prog base (Builtin.append_ #[24, 24] 24 #[(.slice Ay3 ly3 cy3), (.slice A20 l20 c20)]) H19 fun v21 H22 =>
 ∃ (A23 : Option Addr) (l23 c23 : Nat), v21 = (.slice A23 l23 c23) ∧ N0 (.slice A23 l23 c23) (.int .i64 ((IntKind.i64.wrap (y9 + 1)))) H22
 else
 N0 (.slice Ay3 ly3 cy3) (.int .i64 ((IntKind.i64.wrap (y9 + 1)))) H15
 else
 K (.slice Ay3 ly3 cy3) H0
theorem optimize_inputs.loop0 {base : Nat} {Ax7 : Option Addr} {lx7 cx7 : Nat} {x8 : Int} {Ay3_i : Option Addr} {ly3_i cy3_i : Nat} {y9_i : Int} {H0 : HH} {K : Value → HH → Prop} (J : Nat → Option Addr → Nat → Nat → Int → HH → Prop) (n : Nat) (h0 : J n Ay3_i ly3_i cy3_i y9_i H0)
    (hs : ∀ (n : Nat) (Ay3 : Option Addr) (ly3 cy3 : Nat) (y9 : Int) (g : Fr) (H0 : HH), J n Ay3 ly3 cy3 y9 H0 → optimize_inputs.B0 base Ax7 lx7 cx7 x8 Ay3 ly3 cy3 y9 g (fun w3 w9 H => ∃ n', n' < n ∧ ∃ (Ay3' : Option Addr) (ly3' cy3' : Nat) (y9' : Int), w3 = (.slice Ay3' ly3' cy3') ∧ w9 = (.int .i64 y9') ∧ J n' Ay3' ly3' cy3' y9' H) H0 K) : optimize_inputs.P0 base [(.slice Ay3_i ly3_i cy3_i), (.slice Ax7 lx7 cx7), (.int .i64 x8), (.int .i64 y9_i)] H0 K := by
  refine loop_rule (ann := optimize_inputs.ann) (body := codeAt [.r, .r, .l, .r, .b, .lp] (bodyOf Tryd.f16)) mix (by kernel_rfl) 4193848 (by kernel_rfl) [7, 8] [(.slice Ax7 lx7 cx7), (.int .i64 x8)] (by kernel_rfl) (fun fr ⟨e3, e7, e8, e9, _⟩ => ⟨e7, e8, trivial⟩) (fun n g H => ∃ (Ay3 : Option Addr) (ly3 cy3 : Nat) (y9 : Int), g 3 = (.slice Ay3 ly3 cy3) ∧ g 9 = (.int .i64 y9) ∧ J n Ay3 ly3 cy3 y9 H) n (fun fr ⟨e3, e7, e8, e9, _⟩ => ⟨Ay3_i, ly3_i, cy3_i, y9_i, e3, e9, h0⟩) ?_
  rintro n g H0 ⟨e7, e8, _⟩ ⟨Ay3, ly3, cy3, y9, e3, e9, hJ⟩
  rw [← ov_eq (g := g) [(3, (.slice Ay3 ly3 cy3)), (7, (.slice Ax7 lx7 cx7)), (8, (.int .i64 x8)), (9, (.int .i64 y9))] (by simp only [List.mem_cons, List.not_mem_nil, or_false, forall_eq_or_imp, forall_eq, false_implies, implies_true]; exact ⟨e3, e7, e8, e9⟩)]
  have key : ∀ NN : Value → Value → HH → Prop, optimize_inputs.B0 base Ax7 lx7 cx7 x8 Ay3 ly3 cy3 y9 g NN H0 K = wpC Tryd.prog base 23 optimize_inputs.ann (codeAt [.r, .r, .l, .r, .b, .lp] (bodyOf Tryd.f16)) (ov g [(3, (.slice Ay3 ly3 cy3)), (7, (.slice Ax7 lx7 cx7)), (8, (.int .i64 x8)), (9, (.int .i64 y9))]) H0 (thenQ (fun fr H => NN (fr 3) (fr 9) H) (qAt Tryd.prog base 23 optimize_inputs.ann [.r, .r, .l, .r, .b] [] (bodyOf Tryd.f16) (retQ Tryd.prog 23 Tryd.f16 K))) := fun NN => by kernel_rfl
  refine cast ?_ (hs n Ay3 ly3 cy3 y9 g H0 hJ)
  refine (key (fun w3 w9 H => ∃ n', n' < n ∧ ∃ (Ay3' : Option Addr) (ly3' cy3' : Nat) (y9' : Int), w3 = (.slice Ay3' ly3' cy3') ∧ w9 = (.int .i64 y9') ∧ J n' Ay3' ly3' cy3' y9' H)).trans ?_
  kernel_rfl
def optimize_alike.ann : Ann := ⟨fun k => [], fun k => false, fun k => []⟩
def optimize_alike.sh (base : Nat) (x0_0 : Int) (x0_1 : Int) (x0_2 : Int) (x0_3 : Int) (x0_4 : Int) (x1_0 : Int) (x1_1 : Int) (x1_2 : Int) (x1_3 : Int) (x1_4 : Int) (Ax2 : Option Addr) (lx2 cx2 : Nat) (H0 : HH) (K : Value → HH → Prop) : Prop :=
 HRun Tryd.prog base (Instr.box 50 (.agg #[(.int .i64 x0_0), (.int .i64 x0_1), (.int .i64 x0_2), (.int .i64 x0_3), (.int .u64 x0_4)])) H0 fun v1 H2 =>
 ∃ a3 : Addr, v1 = (.pointer ((some a3))) ∧ HRun Tryd.prog base (Instr.box 50 (.agg #[(.int .i64 x1_0), (.int .i64 x1_1), (.int .i64 x1_2), (.int .i64 x1_3), (.int .u64 x1_4)])) H2 fun v4 H5 =>
 ∃ a6 : Addr, v4 = (.pointer ((some a6))) ∧ ∃ a7 : Addr, AQ Tryd.prog (Instr.fieldAt 50 (.pointer ((some a6))) 0) (.pointer ((some a7))) ∧
 ∃ n8 : Int, QRun Tryd.prog (Instr.loadAt 3 (.pointer ((some a7)))) H5 (.int .i64 n8) ∧
 ∃ a9 : Addr, AQ Tryd.prog (Instr.fieldAt 50 (.pointer ((some a3))) 0) (.pointer ((some a9))) ∧
 ∃ n10 : Int, QRun Tryd.prog (Instr.loadAt 3 (.pointer ((some a9)))) H5 (.int .i64 n10) ∧
 if ((n8 : Int) != n10) = false then
 ∃ a11 : Addr, AQ Tryd.prog (Instr.fieldAt 50 (.pointer ((some a6))) 4) (.pointer ((some a11))) ∧
 ∃ n12 : Int, QRun Tryd.prog (Instr.loadAt 22 (.pointer ((some a11)))) H5 (.int .u64 n12) ∧
 ∃ a13 : Addr, AQ Tryd.prog (Instr.fieldAt 50 (.pointer ((some a3))) 4) (.pointer ((some a13))) ∧
 ∃ n14 : Int, QRun Tryd.prog (Instr.loadAt 22 (.pointer ((some a13)))) H5 (.int .u64 n14) ∧
 if ((n12 : Int) != n14) = true then
 K (.bool false) H5
 else
 ∃ a15 : Addr, AQ Tryd.prog (Instr.fieldAt 50 (.pointer ((some a3))) 0) (.pointer ((some a15))) ∧
 ∃ n16 : Int, QRun Tryd.prog (Instr.loadAt 3 (.pointer ((some a15)))) H5 (.int .i64 n16) ∧
 HCall Tryd.prog base 24 #[(.int .i64 n16)] H5 fun v17 H18 =>
 ∃ b19 : Bool, ∃ b20 : Bool, v17 = (.tuple #[(.bool b19), (.bool b20)]) ∧ if (!b19) = true then
 K (.bool true) H18
 else
 ∃ a21 : Addr, AQ Tryd.prog (Instr.fieldAt 50 (.pointer ((some a3))) 2) (.pointer ((some a21))) ∧
 ∃ n22 : Int, QRun Tryd.prog (Instr.loadAt 3 (.pointer ((some a21)))) H18 (.int .i64 n22) ∧
 ∃ a23 : Addr, AQ Tryd.prog (Instr.indexAt 24 (.slice Ax2 lx2 cx2) (.int .i64 n22)) (.pointer ((some a23))) ∧
 ∃ n24 : Int, QRun Tryd.prog (Instr.loadAt 3 (.pointer ((some a23)))) H18 (.int .i64 n24) ∧
 if (!b20) = true then
 if (decide ((n24 : Int) ≥ 0)) = true then
 ∃ a25 : Addr, AQ Tryd.prog (Instr.fieldAt 50 (.pointer ((some a6))) 2) (.pointer ((some a25))) ∧
 ∃ n26 : Int, QRun Tryd.prog (Instr.loadAt 3 (.pointer ((some a25)))) H18 (.int .i64 n26) ∧
 K (.bool (((n26 : Int) == n24))) H18
 else
 K (.bool false) H18
 else
 ∃ a27 : Addr, AQ Tryd.prog (Instr.fieldAt 50 (.pointer ((some a3))) 3) (.pointer ((some a27))) ∧
 ∃ n28 : Int, QRun Tryd.prog (Instr.loadAt 3 (.pointer ((some a27)))) H18 (.int .i64 n28) ∧
 ∃ a29 : Addr, AQ Tryd.prog (Instr.indexAt 24 (.slice Ax2 lx2 cx2) (.int .i64 n28)) (.pointer ((some a29))) ∧
 ∃ n30 : Int, QRun Tryd.prog (Instr.loadAt 3 (.pointer ((some a29)))) H18 (.int .i64 n30) ∧
 if (decide ((n24 : Int) < 0)) = false then
 if (decide ((n30 : Int) < 0)) = true then
 K (.bool false) H18
 else
 ∃ a31 : Addr, AQ Tryd.prog (Instr.fieldAt 50 (.pointer ((some a6))) 2) (.pointer ((some a31))) ∧
 ∃ n32 : Int, QRun Tryd.prog (Instr.loadAt 3 (.pointer ((some a31)))) H18 (.int .i64 n32) ∧
 if ((n32 : Int) == n24) = true then
 ∃ a33 : Addr, AQ Tryd.prog (Instr.fieldAt 50 (.pointer ((some a6))) 3) (.pointer ((some a33))) ∧
 ∃ n34 : Int, QRun Tryd.prog (Instr.loadAt 3 (.pointer ((some a33)))) H18 (.int .i64 n34) ∧
 if ((n34 : Int) == n30) = false then
 ∃ a35 : Addr, AQ Tryd.prog (Instr.fieldAt 50 (.pointer ((some a3))) 0) (.pointer ((some a35))) ∧
 ∃ n36 : Int, QRun Tryd.prog (Instr.loadAt 3 (.pointer ((some a35)))) H18 (.int .i64 n36) ∧
 HCall Tryd.prog base 30 #[(.int .i64 n36)] H18 fun v37 H38 =>
 ∃ b39 : Bool, v37 = (.bool b39) ∧ if b39 = true then
 ∃ a40 : Addr, AQ Tryd.prog (Instr.fieldAt 50 (.pointer ((some a6))) 2) (.pointer ((some a40))) ∧
 ∃ n41 : Int, QRun Tryd.prog (Instr.loadAt 3 (.pointer ((some a40)))) H38 (.int .i64 n41) ∧
 if ((n41 : Int) == n30) = true then
 ∃ a42 : Addr, AQ Tryd.prog (Instr.fieldAt 50 (.pointer ((some a6))) 3) (.pointer ((some a42))) ∧
 ∃ n43 : Int, QRun Tryd.prog (Instr.loadAt 3 (.pointer ((some a42)))) H38 (.int .i64 n43) ∧
 K (.bool (((n43 : Int) == n24))) H38
 else
 K (.bool false) H38
 else
 K (.bool false) H38
 else
 K (.bool true) H18
 else
 ∃ a44 : Addr, AQ Tryd.prog (Instr.fieldAt 50 (.pointer ((some a3))) 0) (.pointer ((some a44))) ∧
 ∃ n45 : Int, QRun Tryd.prog (Instr.loadAt 3 (.pointer ((some a44)))) H18 (.int .i64 n45) ∧
 HCall Tryd.prog base 30 #[(.int .i64 n45)] H18 fun v46 H47 =>
 ∃ b48 : Bool, v46 = (.bool b48) ∧ if b48 = true then
 ∃ a49 : Addr, AQ Tryd.prog (Instr.fieldAt 50 (.pointer ((some a6))) 2) (.pointer ((some a49))) ∧
 ∃ n50 : Int, QRun Tryd.prog (Instr.loadAt 3 (.pointer ((some a49)))) H47 (.int .i64 n50) ∧
 if ((n50 : Int) == n30) = true then
 ∃ a51 : Addr, AQ Tryd.prog (Instr.fieldAt 50 (.pointer ((some a6))) 3) (.pointer ((some a51))) ∧
 ∃ n52 : Int, QRun Tryd.prog (Instr.loadAt 3 (.pointer ((some a51)))) H47 (.int .i64 n52) ∧
 K (.bool (((n52 : Int) == n24))) H47
 else
 K (.bool false) H47
 else
 K (.bool false) H47
 else
 K (.bool false) H18
 else
 K (.bool false) H5
theorem optimize_alike.spec {base : Nat} {x0_0 : Int} {x0_1 : Int} {x0_2 : Int} {x0_3 : Int} {x0_4 : Int} {x1_0 : Int} {x1_1 : Int} {x1_2 : Int} {x1_3 : Int} {x1_4 : Int} {Ax2 : Option Addr} {lx2 cx2 : Nat} {H0 : HH} {K : Value → HH → Prop} (h : optimize_alike.sh base x0_0 x0_1 x0_2 x0_3 x0_4 x1_0 x1_1 x1_2 x1_3 x1_4 Ax2 lx2 cx2 H0 K) : HCall Tryd.prog base 17 #[(.agg #[(.int .i64 x0_0), (.int .i64 x0_1), (.int .i64 x0_2), (.int .i64 x0_3), (.int .u64 x0_4)]), (.agg #[(.int .i64 x1_0), (.int .i64 x1_1), (.int .i64 x1_2), (.int .i64 x1_3), (.int .u64 x1_4)]), (.slice Ax2 lx2 cx2)] H0 K := spec_of_wpC (n := 84) (ann := optimize_alike.ann) mix Tryd.func17 (by kernel_rfl) (cast (show optimize_alike.sh base x0_0 x0_1 x0_2 x0_3 x0_4 x1_0 x1_1 x1_2 x1_3 x1_4 Ax2 lx2 cx2 H0 K = wpC Tryd.prog base 84 optimize_alike.ann (bodyOf Tryd.f17) (ofL [(.agg #[(.int .i64 x0_0), (.int .i64 x0_1), (.int .i64 x0_2), (.int .i64 x0_3), (.int .u64 x0_4)]), (.agg #[(.int .i64 x1_0), (.int .i64 x1_1), (.int .i64 x1_2), (.int .i64 x1_3), (.int .u64 x1_4)]), (.slice Ax2 lx2 cx2)]) H0 (retQ Tryd.prog 84 Tryd.f17 K) by kernel_rfl) h)
def optimize_CheckCertificate.ann : Ann := ⟨fun k => bif Nat.beq k 9 then [1, 3] else bif Nat.beq k 15 then [] else bif Nat.beq k 22 then [16] else bif Nat.beq k 28 then [] else [], fun k => false, fun k => bif Nat.beq k 4 then [3, 4, 5, 51, 52, 53] else bif Nat.beq k 13 then [3, 4, 5, 9, 10, 77, 78] else bif Nat.beq k 19 then [3, 4, 5, 115, 116, 117] else bif Nat.beq k 26 then [4, 5, 148, 149, 150] else []⟩
def optimize_CheckCertificate.P0 (base : Nat) (l : List Value) (H0 : HH) (K : Value → HH → Prop) : Prop := HCodeL Tryd.prog base 175 (codeAt [.r, .r, .l, .r, .b] (bodyOf Tryd.f7)) [3, 4, 5, 51, 52, 53] l H0 (qAt Tryd.prog base 175 optimize_CheckCertificate.ann [.r, .r, .l, .r, .b] [] (bodyOf Tryd.f7) (retQ Tryd.prog 175 Tryd.f7 K))
def optimize_CheckCertificate.P1 (base : Nat) (l : List Value) (H0 : HH) (K : Value → HH → Prop) : Prop := HCodeL Tryd.prog base 175 (codeAt [.r, .r, .r, .r, .r, .l, .r, .b] (bodyOf Tryd.f7)) [3, 4, 5, 9, 10, 77, 78] l H0 (qAt Tryd.prog base 175 optimize_CheckCertificate.ann [.r, .r, .r, .r, .r, .l, .r, .b] [] (bodyOf Tryd.f7) (retQ Tryd.prog 175 Tryd.f7 K))
def optimize_CheckCertificate.P2 (base : Nat) (l : List Value) (H0 : HH) (K : Value → HH → Prop) : Prop := HCodeL Tryd.prog base 175 (codeAt [.r, .r, .r, .r, .r, .r, .l, .r, .b] (bodyOf Tryd.f7)) [3, 4, 5, 115, 116, 117] l H0 (qAt Tryd.prog base 175 optimize_CheckCertificate.ann [.r, .r, .r, .r, .r, .r, .l, .r, .b] [] (bodyOf Tryd.f7) (retQ Tryd.prog 175 Tryd.f7 K))
def optimize_CheckCertificate.P3 (base : Nat) (l : List Value) (H0 : HH) (K : Value → HH → Prop) : Prop := HCodeL Tryd.prog base 175 (codeAt [.r, .r, .r, .r, .r, .r, .r, .l, .r, .b] (bodyOf Tryd.f7)) [4, 5, 148, 149, 150] l H0 (qAt Tryd.prog base 175 optimize_CheckCertificate.ann [.r, .r, .r, .r, .r, .r, .r, .l, .r, .b] [] (bodyOf Tryd.f7) (retQ Tryd.prog 175 Tryd.f7 K))
def optimize_CheckCertificate.sh (base : Nat) (x0_0 : Int) (Ax0_1 : Option Addr) (lx0_1 cx0_1 : Nat) (Ax0_2 : Option Addr) (lx0_2 cx0_2 : Nat) (x1_0 : Int) (Ax1_1 : Option Addr) (lx1_1 cx1_1 : Nat) (Ax1_2 : Option Addr) (lx1_2 cx1_2 : Nat) (Ax2_0 : Option Addr) (lx2_0 cx2_0 : Nat) (H0 : HH) (K : Value → HH → Prop) : Prop :=
 HRun Tryd.prog base (Instr.box 26 (.agg #[(.int .u64 x0_0), (.slice Ax0_1 lx0_1 cx0_1), (.slice Ax0_2 lx0_2 cx0_2)])) H0 fun v1 H2 =>
 ∃ a3 : Addr, v1 = (.pointer ((some a3))) ∧ HRun Tryd.prog base (Instr.box 26 (.agg #[(.int .u64 x1_0), (.slice Ax1_1 lx1_1 cx1_1), (.slice Ax1_2 lx1_2 cx1_2)])) H2 fun v4 H5 =>
 ∃ a6 : Addr, v4 = (.pointer ((some a6))) ∧ HRun Tryd.prog base (Instr.box 28 (.agg #[(.slice Ax2_0 lx2_0 cx2_0)])) H5 fun v7 H8 =>
 ∃ a9 : Addr, v7 = (.pointer ((some a9))) ∧ ∃ n10 : Int, ∃ (A11 : Option Addr) (l11 c11 : Nat), ∃ (A12 : Option Addr) (l12 c12 : Nat), QRun Tryd.prog (Instr.loadAt 26 (.pointer ((some a3)))) H8 (.agg #[(.int .u64 n10), (.slice A11 l11 c11), (.slice A12 l12 c12)]) ∧
 HCall Tryd.prog base 15 #[(.agg #[(.int .u64 n10), (.slice A11 l11 c11), (.slice A12 l12 c12)])] H8 fun v13 H14 =>
 ∃ b15 : Bool, v13 = (.bool b15) ∧ if (!b15) = false then
 ∃ n16 : Int, ∃ (A17 : Option Addr) (l17 c17 : Nat), ∃ (A18 : Option Addr) (l18 c18 : Nat), QRun Tryd.prog (Instr.loadAt 26 (.pointer ((some a6)))) H14 (.agg #[(.int .u64 n16), (.slice A17 l17 c17), (.slice A18 l18 c18)]) ∧
 HCall Tryd.prog base 15 #[(.agg #[(.int .u64 n16), (.slice A17 l17 c17), (.slice A18 l18 c18)])] H14 fun v19 H20 =>
 ∃ b21 : Bool, v19 = (.bool b21) ∧ if (!b21) = false then
 ∃ a22 : Addr, AQ Tryd.prog (Instr.fieldAt 26 (.pointer ((some a3))) 0) (.pointer ((some a22))) ∧
 ∃ n23 : Int, QRun Tryd.prog (Instr.loadAt 22 (.pointer ((some a22)))) H20 (.int .u64 n23) ∧
 ∃ a24 : Addr, AQ Tryd.prog (Instr.fieldAt 26 (.pointer ((some a6))) 0) (.pointer ((some a24))) ∧
 ∃ n25 : Int, QRun Tryd.prog (Instr.loadAt 22 (.pointer ((some a24)))) H20 (.int .u64 n25) ∧
 if ((n23 : Int) != n25) = false then
 ∃ a26 : Addr, AQ Tryd.prog (Instr.fieldAt 28 (.pointer ((some a9))) 0) (.pointer ((some a26))) ∧
 ∃ (A27 : Option Addr) (l27 c27 : Nat), QRun Tryd.prog (Instr.loadAt 24 (.pointer ((some a26)))) H20 (.slice A27 l27 c27) ∧
 ∃ a28 : Addr, AQ Tryd.prog (Instr.fieldAt 26 (.pointer ((some a3))) 1) (.pointer ((some a28))) ∧
 ∃ (A29 : Option Addr) (l29 c29 : Nat), QRun Tryd.prog (Instr.loadAt 23 (.pointer ((some a28)))) H20 (.slice A29 l29 c29) ∧
 if ((((l27 : Nat) : Int) : Int) != (((l29 : Nat) : Int))) = false then
 ∃ a30 : Addr, AQ Tryd.prog (Instr.fieldAt 26 (.pointer ((some a3))) 2) (.pointer ((some a30))) ∧
 ∃ (A31 : Option Addr) (l31 c31 : Nat), QRun Tryd.prog (Instr.loadAt 24 (.pointer ((some a30)))) H20 (.slice A31 l31 c31) ∧
 ∃ a32 : Addr, AQ Tryd.prog (Instr.fieldAt 26 (.pointer ((some a6))) 2) (.pointer ((some a32))) ∧
 ∃ (A33 : Option Addr) (l33 c33 : Nat), QRun Tryd.prog (Instr.loadAt 24 (.pointer ((some a32)))) H20 (.slice A33 l33 c33) ∧
 if ((((l31 : Nat) : Int) : Int) != (((l33 : Nat) : Int))) = true then
 K (.bool false) H20
 else
 ∃ a34 : Addr, AQ Tryd.prog (Instr.fieldAt 28 (.pointer ((some a9))) 0) (.pointer ((some a34))) ∧
 ∃ (A35 : Option Addr) (l35 c35 : Nat), QRun Tryd.prog (Instr.loadAt 24 (.pointer ((some a34)))) H20 (.slice A35 l35 c35) ∧
 optimize_CheckCertificate.P0 base [(.pointer ((some a3))), (.pointer ((some a6))), (.pointer ((some a9))), (.slice A35 l35 c35), (.int .i64 (((l35 : Nat) : Int))), (.int .i64 0)] H20 K
 else
 K (.bool false) H20
 else
 K (.bool false) H20
 else
 K (.bool false) H20
 else
 K (.bool false) H14
theorem optimize_CheckCertificate.spec {base : Nat} {x0_0 : Int} {Ax0_1 : Option Addr} {lx0_1 cx0_1 : Nat} {Ax0_2 : Option Addr} {lx0_2 cx0_2 : Nat} {x1_0 : Int} {Ax1_1 : Option Addr} {lx1_1 cx1_1 : Nat} {Ax1_2 : Option Addr} {lx1_2 cx1_2 : Nat} {Ax2_0 : Option Addr} {lx2_0 cx2_0 : Nat} {H0 : HH} {K : Value → HH → Prop} (h : optimize_CheckCertificate.sh base x0_0 Ax0_1 lx0_1 cx0_1 Ax0_2 lx0_2 cx0_2 x1_0 Ax1_1 lx1_1 cx1_1 Ax1_2 lx1_2 cx1_2 Ax2_0 lx2_0 cx2_0 H0 K) : HCall Tryd.prog base 7 #[(.agg #[(.int .u64 x0_0), (.slice Ax0_1 lx0_1 cx0_1), (.slice Ax0_2 lx0_2 cx0_2)]), (.agg #[(.int .u64 x1_0), (.slice Ax1_1 lx1_1 cx1_1), (.slice Ax1_2 lx1_2 cx1_2)]), (.agg #[(.slice Ax2_0 lx2_0 cx2_0)])] H0 K := spec_of_wpC (n := 175) (ann := optimize_CheckCertificate.ann) mix Tryd.func7 (by kernel_rfl) (cast (show optimize_CheckCertificate.sh base x0_0 Ax0_1 lx0_1 cx0_1 Ax0_2 lx0_2 cx0_2 x1_0 Ax1_1 lx1_1 cx1_1 Ax1_2 lx1_2 cx1_2 Ax2_0 lx2_0 cx2_0 H0 K = wpC Tryd.prog base 175 optimize_CheckCertificate.ann (bodyOf Tryd.f7) (ofL [(.agg #[(.int .u64 x0_0), (.slice Ax0_1 lx0_1 cx0_1), (.slice Ax0_2 lx0_2 cx0_2)]), (.agg #[(.int .u64 x1_0), (.slice Ax1_1 lx1_1 cx1_1), (.slice Ax1_2 lx1_2 cx1_2)]), (.agg #[(.slice Ax2_0 lx2_0 cx2_0)])]) H0 (retQ Tryd.prog 175 Tryd.f7 K) by kernel_rfl) h)
def optimize_CheckCertificate.B0 (base : Nat) (x3 x4 x5 : Addr) (Ax51 : Option Addr) (lx51 cx51 : Nat) (x52 : Int) (y53 : Int) (g : Fr) (N0 : Value → HH → Prop) (H0 : HH) (K : Value → HH → Prop) : Prop :=
 if (decide ((y53 : Int) < x52)) = true then
 ∃ a36 : Addr, AQ Tryd.prog (Instr.indexAt 24 (.slice Ax51 lx51 cx51) (.int .i64 y53)) (.pointer ((some a36))) ∧
 ∃ n37 : Int, QRun Tryd.prog (Instr.loadAt 3 (.pointer ((some a36)))) H0 (.int .i64 n37) ∧
 if (decide ((n37 : Int) < ((-1)))) = false then
 ∃ a38 : Addr, AQ Tryd.prog (Instr.fieldAt 26 (.pointer ((some x4))) 1) (.pointer ((some a38))) ∧
 ∃ (A39 : Option Addr) (l39 c39 : Nat), QRun Tryd.prog (Instr.loadAt 23 (.pointer ((some a38)))) H0 (.slice A39 l39 c39) ∧
 if (decide ((n37 : Int) ≥ (((l39 : Nat) : Int)))) = true then
 K (.bool false) H0
 else
 N0 (.int .i64 ((IntKind.i64.wrap (y53 + 1)))) H0
 else
 K (.bool false) H0
 else
 ∃ n40 : Int, ∃ (A41 : Option Addr) (l41 c41 : Nat), ∃ (A42 : Option Addr) (l42 c42 : Nat), QRun Tryd.prog (Instr.loadAt 26 (.pointer ((some x3)))) H0 (.agg #[(.int .u64 n40), (.slice A41 l41 c41), (.slice A42 l42 c42)]) ∧
 ∃ n43 : Int, ∃ (A44 : Option Addr) (l44 c44 : Nat), ∃ (A45 : Option Addr) (l45 c45 : Nat), QRun Tryd.prog (Instr.loadAt 26 (.pointer ((some x4)))) H0 (.agg #[(.int .u64 n43), (.slice A44 l44 c44), (.slice A45 l45 c45)]) ∧
 HCall Tryd.prog base 16 #[(.agg #[(.int .u64 n40), (.slice A41 l41 c41), (.slice A42 l42 c42)])] H0 fun v46 H47 =>
 ∃ (A48 : Option Addr) (l48 c48 : Nat), v46 = (.slice A48 l48 c48) ∧ QRun Tryd.prog (Instr.loadAt 26 (.pointer ((some x4)))) H47 (.agg #[(.int .u64 n43), (.slice A44 l44 c44), (.slice A45 l45 c45)]) ∧
 HCall Tryd.prog base 16 #[(.agg #[(.int .u64 n43), (.slice A44 l44 c44), (.slice A45 l45 c45)])] H47 fun v49 H50 =>
 ∃ (A51 : Option Addr) (l51 c51 : Nat), v49 = (.slice A51 l51 c51) ∧ if ((((l48 : Nat) : Int) : Int) != (((l51 : Nat) : Int))) = true then
 K (.bool false) H50
 else
 optimize_CheckCertificate.P1 base [(.pointer ((some x3))), (.pointer ((some x4))), (.pointer ((some x5))), (.slice A48 l48 c48), (.slice A51 l51 c51), (.int .i64 (((l48 : Nat) : Int))), (.int .i64 0)] H50 K
theorem optimize_CheckCertificate.loop0 {base : Nat} {x3 x4 x5 : Addr} {Ax51 : Option Addr} {lx51 cx51 : Nat} {x52 y53_i : Int} {H0 : HH} {K : Value → HH → Prop} (J : Nat → Int → HH → Prop) (n : Nat) (h0 : J n y53_i H0)
    (hs : ∀ (n : Nat) (y53 : Int) (g : Fr) (H0 : HH), J n y53 H0 → optimize_CheckCertificate.B0 base x3 x4 x5 Ax51 lx51 cx51 x52 y53 g (fun w53 H => ∃ n', n' < n ∧ ∃ (y53' : Int), w53 = (.int .i64 y53') ∧ J n' y53' H) H0 K) : optimize_CheckCertificate.P0 base [(.pointer ((some x3))), (.pointer ((some x4))), (.pointer ((some x5))), (.slice Ax51 lx51 cx51), (.int .i64 x52), (.int .i64 y53_i)] H0 K := by
  refine loop_rule (ann := optimize_CheckCertificate.ann) (body := codeAt [.r, .r, .l, .r, .b, .lp] (bodyOf Tryd.f7)) mix (by kernel_rfl) 147564945390421672256 (by kernel_rfl) [3, 4, 5, 51, 52] [(.pointer ((some x3))), (.pointer ((some x4))), (.pointer ((some x5))), (.slice Ax51 lx51 cx51), (.int .i64 x52)] (by kernel_rfl) (fun fr ⟨e3, e4, e5, e51, e52, e53, _⟩ => ⟨e3, e4, e5, e51, e52, trivial⟩) (fun n g H => ∃ (y53 : Int), g 53 = (.int .i64 y53) ∧ J n y53 H) n (fun fr ⟨e3, e4, e5, e51, e52, e53, _⟩ => ⟨y53_i, e53, h0⟩) ?_
  rintro n g H0 ⟨e3, e4, e5, e51, e52, _⟩ ⟨y53, e53, hJ⟩
  rw [← ov_eq (g := g) [(3, (.pointer ((some x3)))), (4, (.pointer ((some x4)))), (5, (.pointer ((some x5)))), (51, (.slice Ax51 lx51 cx51)), (52, (.int .i64 x52)), (53, (.int .i64 y53))] (by simp only [List.mem_cons, List.not_mem_nil, or_false, forall_eq_or_imp, forall_eq, false_implies, implies_true]; exact ⟨e3, e4, e5, e51, e52, e53⟩)]
  have key : ∀ NN : Value → HH → Prop, optimize_CheckCertificate.B0 base x3 x4 x5 Ax51 lx51 cx51 x52 y53 g NN H0 K = wpC Tryd.prog base 175 optimize_CheckCertificate.ann (codeAt [.r, .r, .l, .r, .b, .lp] (bodyOf Tryd.f7)) (ov g [(3, (.pointer ((some x3)))), (4, (.pointer ((some x4)))), (5, (.pointer ((some x5)))), (51, (.slice Ax51 lx51 cx51)), (52, (.int .i64 x52)), (53, (.int .i64 y53))]) H0 (thenQ (fun fr H => NN (fr 53) H) (qAt Tryd.prog base 175 optimize_CheckCertificate.ann [.r, .r, .l, .r, .b] [] (bodyOf Tryd.f7) (retQ Tryd.prog 175 Tryd.f7 K))) := fun NN => by kernel_rfl
  refine cast ?_ (hs n y53 g H0 hJ)
  refine (key (fun w53 H => ∃ n', n' < n ∧ ∃ (y53' : Int), w53 = (.int .i64 y53') ∧ J n' y53' H)).trans ?_
  kernel_rfl
def optimize_CheckCertificate.B1 (base : Nat) (x3 x4 x5 : Addr) (Ax9 : Option Addr) (lx9 cx9 : Nat) (Ax10 : Option Addr) (lx10 cx10 : Nat) (x77 : Int) (y78 : Int) (g : Fr) (N1 : Value → HH → Prop) (H0 : HH) (K : Value → HH → Prop) : Prop :=
 if (decide ((y78 : Int) < x77)) = true then
 ∃ a52 : Addr, AQ Tryd.prog (Instr.fieldAt 28 (.pointer ((some x5))) 0) (.pointer ((some a52))) ∧
 ∃ (A53 : Option Addr) (l53 c53 : Nat), QRun Tryd.prog (Instr.loadAt 24 (.pointer ((some a52)))) H0 (.slice A53 l53 c53) ∧
 ∃ a54 : Addr, AQ Tryd.prog (Instr.indexAt 24 (.slice Ax9 lx9 cx9) (.int .i64 y78)) (.pointer ((some a54))) ∧
 ∃ n55 : Int, QRun Tryd.prog (Instr.loadAt 3 (.pointer ((some a54)))) H0 (.int .i64 n55) ∧
 ∃ a56 : Addr, AQ Tryd.prog (Instr.indexAt 24 (.slice A53 l53 c53) (.int .i64 n55)) (.pointer ((some a56))) ∧
 ∃ n57 : Int, QRun Tryd.prog (Instr.loadAt 3 (.pointer ((some a56)))) H0 (.int .i64 n57) ∧
 ∃ a58 : Addr, AQ Tryd.prog (Instr.indexAt 24 (.slice Ax10 lx10 cx10) (.int .i64 y78)) (.pointer ((some a58))) ∧
 ∃ n59 : Int, QRun Tryd.prog (Instr.loadAt 3 (.pointer ((some a58)))) H0 (.int .i64 n59) ∧
 if ((n57 : Int) != n59) = false then
 ∃ a60 : Addr, AQ Tryd.prog (Instr.fieldAt 26 (.pointer ((some x3))) 1) (.pointer ((some a60))) ∧
 ∃ (A61 : Option Addr) (l61 c61 : Nat), QRun Tryd.prog (Instr.loadAt 23 (.pointer ((some a60)))) H0 (.slice A61 l61 c61) ∧
 ∃ a62 : Addr, AQ Tryd.prog (Instr.indexAt 24 (.slice Ax9 lx9 cx9) (.int .i64 y78)) (.pointer ((some a62))) ∧
 ∃ n63 : Int, QRun Tryd.prog (Instr.loadAt 3 (.pointer ((some a62)))) H0 (.int .i64 n63) ∧
 ∃ a64 : Addr, AQ Tryd.prog (Instr.indexAt 23 (.slice A61 l61 c61) (.int .i64 n63)) (.pointer ((some a64))) ∧
 ∃ n65 : Int, ∃ n66 : Int, ∃ n67 : Int, ∃ n68 : Int, ∃ n69 : Int, QRun Tryd.prog (Instr.loadAt 50 (.pointer ((some a64)))) H0 (.agg #[(.int .i64 n65), (.int .i64 n66), (.int .i64 n67), (.int .i64 n68), (.int .u64 n69)]) ∧
 ∃ a70 : Addr, AQ Tryd.prog (Instr.fieldAt 26 (.pointer ((some x4))) 1) (.pointer ((some a70))) ∧
 ∃ (A71 : Option Addr) (l71 c71 : Nat), QRun Tryd.prog (Instr.loadAt 23 (.pointer ((some a70)))) H0 (.slice A71 l71 c71) ∧
 ∃ a72 : Addr, AQ Tryd.prog (Instr.indexAt 24 (.slice Ax10 lx10 cx10) (.int .i64 y78)) (.pointer ((some a72))) ∧
 ∃ n73 : Int, QRun Tryd.prog (Instr.loadAt 3 (.pointer ((some a72)))) H0 (.int .i64 n73) ∧
 ∃ a74 : Addr, AQ Tryd.prog (Instr.indexAt 23 (.slice A71 l71 c71) (.int .i64 n73)) (.pointer ((some a74))) ∧
 ∃ n75 : Int, ∃ n76 : Int, ∃ n77 : Int, ∃ n78 : Int, ∃ n79 : Int, QRun Tryd.prog (Instr.loadAt 50 (.pointer ((some a74)))) H0 (.agg #[(.int .i64 n75), (.int .i64 n76), (.int .i64 n77), (.int .i64 n78), (.int .u64 n79)]) ∧
 ∃ b80 : Bool, AQ Tryd.prog (binSem .neq 50 (.tmp 102) (.tmp 110) (.agg #[(.int .i64 n65), (.int .i64 n66), (.int .i64 n67), (.int .i64 n68), (.int .u64 n69)]) (.agg #[(.int .i64 n75), (.int .i64 n76), (.int .i64 n77), (.int .i64 n78), (.int .u64 n79)])) (.bool b80) ∧
 if b80 = true then
 K (.bool false) H0
 else
 N1 (.int .i64 ((IntKind.i64.wrap (y78 + 1)))) H0
 else
 K (.bool false) H0
 else
 ∃ a81 : Addr, AQ Tryd.prog (Instr.fieldAt 26 (.pointer ((some x3))) 1) (.pointer ((some a81))) ∧
 ∃ (A82 : Option Addr) (l82 c82 : Nat), QRun Tryd.prog (Instr.loadAt 23 (.pointer ((some a81)))) H0 (.slice A82 l82 c82) ∧
 optimize_CheckCertificate.P2 base [(.pointer ((some x3))), (.pointer ((some x4))), (.pointer ((some x5))), (.slice A82 l82 c82), (.int .i64 (((l82 : Nat) : Int))), (.int .i64 0)] H0 K
theorem optimize_CheckCertificate.loop1 {base : Nat} {x3 x4 x5 : Addr} {Ax9 : Option Addr} {lx9 cx9 : Nat} {Ax10 : Option Addr} {lx10 cx10 : Nat} {x77 y78_i : Int} {H0 : HH} {K : Value → HH → Prop} (J : Nat → Int → HH → Prop) (n : Nat) (h0 : J n y78_i H0)
    (hs : ∀ (n : Nat) (y78 : Int) (g : Fr) (H0 : HH), J n y78 H0 → optimize_CheckCertificate.B1 base x3 x4 x5 Ax9 lx9 cx9 Ax10 lx10 cx10 x77 y78 g (fun w78 H => ∃ n', n' < n ∧ ∃ (y78' : Int), w78 = (.int .i64 y78') ∧ J n' y78' H) H0 K) : optimize_CheckCertificate.P1 base [(.pointer ((some x3))), (.pointer ((some x4))), (.pointer ((some x5))), (.slice Ax9 lx9 cx9), (.slice Ax10 lx10 cx10), (.int .i64 x77), (.int .i64 y78_i)] H0 K := by
  refine loop_rule (ann := optimize_CheckCertificate.ann) (body := codeAt [.r, .r, .r, .r, .r, .l, .r, .b, .lp] (bodyOf Tryd.f7)) mix (by kernel_rfl) 20769187433837079059218328023205952 (by kernel_rfl) [3, 4, 5, 9, 10, 77] [(.pointer ((some x3))), (.pointer ((some x4))), (.pointer ((some x5))), (.slice Ax9 lx9 cx9), (.slice Ax10 lx10 cx10), (.int .i64 x77)] (by kernel_rfl) (fun fr ⟨e3, e4, e5, e9, e10, e77, e78, _⟩ => ⟨e3, e4, e5, e9, e10, e77, trivial⟩) (fun n g H => ∃ (y78 : Int), g 78 = (.int .i64 y78) ∧ J n y78 H) n (fun fr ⟨e3, e4, e5, e9, e10, e77, e78, _⟩ => ⟨y78_i, e78, h0⟩) ?_
  rintro n g H0 ⟨e3, e4, e5, e9, e10, e77, _⟩ ⟨y78, e78, hJ⟩
  rw [← ov_eq (g := g) [(3, (.pointer ((some x3)))), (4, (.pointer ((some x4)))), (5, (.pointer ((some x5)))), (9, (.slice Ax9 lx9 cx9)), (10, (.slice Ax10 lx10 cx10)), (77, (.int .i64 x77)), (78, (.int .i64 y78))] (by simp only [List.mem_cons, List.not_mem_nil, or_false, forall_eq_or_imp, forall_eq, false_implies, implies_true]; exact ⟨e3, e4, e5, e9, e10, e77, e78⟩)]
  have key : ∀ NN : Value → HH → Prop, optimize_CheckCertificate.B1 base x3 x4 x5 Ax9 lx9 cx9 Ax10 lx10 cx10 x77 y78 g NN H0 K = wpC Tryd.prog base 175 optimize_CheckCertificate.ann (codeAt [.r, .r, .r, .r, .r, .l, .r, .b, .lp] (bodyOf Tryd.f7)) (ov g [(3, (.pointer ((some x3)))), (4, (.pointer ((some x4)))), (5, (.pointer ((some x5)))), (9, (.slice Ax9 lx9 cx9)), (10, (.slice Ax10 lx10 cx10)), (77, (.int .i64 x77)), (78, (.int .i64 y78))]) H0 (thenQ (fun fr H => NN (fr 78) H) (qAt Tryd.prog base 175 optimize_CheckCertificate.ann [.r, .r, .r, .r, .r, .l, .r, .b] [] (bodyOf Tryd.f7) (retQ Tryd.prog 175 Tryd.f7 K))) := fun NN => by kernel_rfl
  refine cast ?_ (hs n y78 g H0 hJ)
  refine (key (fun w78 H => ∃ n', n' < n ∧ ∃ (y78' : Int), w78 = (.int .i64 y78') ∧ J n' y78' H)).trans ?_
  kernel_rfl
def optimize_CheckCertificate.B2 (base : Nat) (x3 x4 x5 : Addr) (Ax115 : Option Addr) (lx115 cx115 : Nat) (x116 : Int) (y117 : Int) (g : Fr) (N2 : Value → HH → Prop) (H0 : HH) (K : Value → HH → Prop) : Prop :=
 if (decide ((y117 : Int) < x116)) = true then
 ∃ a83 : Addr, AQ Tryd.prog (Instr.indexAt 23 (.slice Ax115 lx115 cx115) (.int .i64 y117)) (.pointer ((some a83))) ∧
 ∃ n84 : Int, ∃ n85 : Int, ∃ n86 : Int, ∃ n87 : Int, ∃ n88 : Int, QRun Tryd.prog (Instr.loadAt 50 (.pointer ((some a83)))) H0 (.agg #[(.int .i64 n84), (.int .i64 n85), (.int .i64 n86), (.int .i64 n87), (.int .u64 n88)]) ∧
 HRun Tryd.prog base (Instr.alloc 50 true (.tuple #[])) H0 fun v89 H90 =>
 ∃ a91 : Addr, v89 = (.pointer ((some a91))) ∧ HRun Tryd.prog base (Instr.storeAt 50 (.pointer ((some a91))) (.agg #[(.int .i64 n84), (.int .i64 n85), (.int .i64 n86), (.int .i64 n87), (.int .u64 n88)])) H90 fun _ H92 =>
 ∃ a93 : Addr, AQ Tryd.prog (Instr.fieldAt 28 (.pointer ((some x5))) 0) (.pointer ((some a93))) ∧
 ∃ (A94 : Option Addr) (l94 c94 : Nat), QRun Tryd.prog (Instr.loadAt 24 (.pointer ((some a93)))) H92 (.slice A94 l94 c94) ∧
 ∃ a95 : Addr, AQ Tryd.prog (Instr.indexAt 24 (.slice A94 l94 c94) (.int .i64 y117)) (.pointer ((some a95))) ∧
 ∃ n96 : Int, QRun Tryd.prog (Instr.loadAt 3 (.pointer ((some a95)))) H92 (.int .i64 n96) ∧
 ∃ a97 : Addr, AQ Tryd.prog (Instr.fieldAt 50 (.pointer ((some a91))) 0) (.pointer ((some a97))) ∧
 ∃ n98 : Int, QRun Tryd.prog (Instr.loadAt 3 (.pointer ((some a97)))) H92 (.int .i64 n98) ∧
 if ((n98 : Int) != 1) = true then
 if (decide ((n96 : Int) ≥ 0)) = true then
 ∃ n99 : Int, ∃ n100 : Int, ∃ n101 : Int, ∃ n102 : Int, ∃ n103 : Int, QRun Tryd.prog (Instr.loadAt 50 (.pointer ((some a91)))) H92 (.agg #[(.int .i64 n99), (.int .i64 n100), (.int .i64 n101), (.int .i64 n102), (.int .u64 n103)]) ∧
 ∃ a104 : Addr, AQ Tryd.prog (Instr.fieldAt 26 (.pointer ((some x4))) 1) (.pointer ((some a104))) ∧
 ∃ (A105 : Option Addr) (l105 c105 : Nat), QRun Tryd.prog (Instr.loadAt 23 (.pointer ((some a104)))) H92 (.slice A105 l105 c105) ∧
 ∃ a106 : Addr, AQ Tryd.prog (Instr.indexAt 23 (.slice A105 l105 c105) (.int .i64 n96)) (.pointer ((some a106))) ∧
 ∃ n107 : Int, ∃ n108 : Int, ∃ n109 : Int, ∃ n110 : Int, ∃ n111 : Int, QRun Tryd.prog (Instr.loadAt 50 (.pointer ((some a106)))) H92 (.agg #[(.int .i64 n107), (.int .i64 n108), (.int .i64 n109), (.int .i64 n110), (.int .u64 n111)]) ∧
 ∃ a112 : Addr, AQ Tryd.prog (Instr.fieldAt 28 (.pointer ((some x5))) 0) (.pointer ((some a112))) ∧
 ∃ (A113 : Option Addr) (l113 c113 : Nat), QRun Tryd.prog (Instr.loadAt 24 (.pointer ((some a112)))) H92 (.slice A113 l113 c113) ∧
 HCall Tryd.prog base 17 #[(.agg #[(.int .i64 n99), (.int .i64 n100), (.int .i64 n101), (.int .i64 n102), (.int .u64 n103)]), (.agg #[(.int .i64 n107), (.int .i64 n108), (.int .i64 n109), (.int .i64 n110), (.int .u64 n111)]), (.slice A113 l113 c113)] H92 fun v114 H115 =>
 ∃ b116 : Bool, v114 = (.bool b116) ∧ if (!b116) = true then
 K (.bool false) H115
 else
 N2 (.int .i64 ((IntKind.i64.wrap (y117 + 1)))) H115
 else
 N2 (.int .i64 ((IntKind.i64.wrap (y117 + 1)))) H92
 else
 N2 (.int .i64 ((IntKind.i64.wrap (y117 + 1)))) H92
 else
 ∃ a117 : Addr, AQ Tryd.prog (Instr.fieldAt 26 (.pointer ((some x3))) 2) (.pointer ((some a117))) ∧
 ∃ (A118 : Option Addr) (l118 c118 : Nat), QRun Tryd.prog (Instr.loadAt 24 (.pointer ((some a117)))) H0 (.slice A118 l118 c118) ∧
 optimize_CheckCertificate.P3 base [(.pointer ((some x4))), (.pointer ((some x5))), (.slice A118 l118 c118), (.int .i64 (((l118 : Nat) : Int))), (.int .i64 0)] H0 K
theorem optimize_CheckCertificate.loop2 {base : Nat} {x3 x4 x5 : Addr} {Ax115 : Option Addr} {lx115 cx115 : Nat} {x116 y117_i : Int} {H0 : HH} {K : Value → HH → Prop} (J : Nat → Int → HH → Prop) (n : Nat) (h0 : J n y117_i H0)
    (hs : ∀ (n : Nat) (y117 : Int) (g : Fr) (H0 : HH), J n y117 H0 → optimize_CheckCertificate.B2 base x3 x4 x5 Ax115 lx115 cx115 x116 y117 g (fun w117 H => ∃ n', n' < n ∧ ∃ (y117' : Int), w117 = (.int .i64 y117') ∧ J n' y117' H) H0 K) : optimize_CheckCertificate.P2 base [(.pointer ((some x3))), (.pointer ((some x4))), (.pointer ((some x5))), (.slice Ax115 lx115 cx115), (.int .i64 x116), (.int .i64 y117_i)] H0 K := by
  refine loop_rule (ann := optimize_CheckCertificate.ann) (body := codeAt [.r, .r, .r, .r, .r, .r, .l, .r, .b, .lp] (bodyOf Tryd.f7)) mix (by kernel_rfl) 178405961422091485659171262068211009512828992 (by kernel_rfl) [3, 4, 5, 115, 116] [(.pointer ((some x3))), (.pointer ((some x4))), (.pointer ((some x5))), (.slice Ax115 lx115 cx115), (.int .i64 x116)] (by kernel_rfl) (fun fr ⟨e3, e4, e5, e115, e116, e117, _⟩ => ⟨e3, e4, e5, e115, e116, trivial⟩) (fun n g H => ∃ (y117 : Int), g 117 = (.int .i64 y117) ∧ J n y117 H) n (fun fr ⟨e3, e4, e5, e115, e116, e117, _⟩ => ⟨y117_i, e117, h0⟩) ?_
  rintro n g H0 ⟨e3, e4, e5, e115, e116, _⟩ ⟨y117, e117, hJ⟩
  rw [← ov_eq (g := g) [(3, (.pointer ((some x3)))), (4, (.pointer ((some x4)))), (5, (.pointer ((some x5)))), (115, (.slice Ax115 lx115 cx115)), (116, (.int .i64 x116)), (117, (.int .i64 y117))] (by simp only [List.mem_cons, List.not_mem_nil, or_false, forall_eq_or_imp, forall_eq, false_implies, implies_true]; exact ⟨e3, e4, e5, e115, e116, e117⟩)]
  have key : ∀ NN : Value → HH → Prop, optimize_CheckCertificate.B2 base x3 x4 x5 Ax115 lx115 cx115 x116 y117 g NN H0 K = wpC Tryd.prog base 175 optimize_CheckCertificate.ann (codeAt [.r, .r, .r, .r, .r, .r, .l, .r, .b, .lp] (bodyOf Tryd.f7)) (ov g [(3, (.pointer ((some x3)))), (4, (.pointer ((some x4)))), (5, (.pointer ((some x5)))), (115, (.slice Ax115 lx115 cx115)), (116, (.int .i64 x116)), (117, (.int .i64 y117))]) H0 (thenQ (fun fr H => NN (fr 117) H) (qAt Tryd.prog base 175 optimize_CheckCertificate.ann [.r, .r, .r, .r, .r, .r, .l, .r, .b] [] (bodyOf Tryd.f7) (retQ Tryd.prog 175 Tryd.f7 K))) := fun NN => by kernel_rfl
  refine cast ?_ (hs n y117 g H0 hJ)
  refine (key (fun w117 H => ∃ n', n' < n ∧ ∃ (y117' : Int), w117 = (.int .i64 y117') ∧ J n' y117' H)).trans ?_
  kernel_rfl
def optimize_CheckCertificate.B3 (base : Nat) (x4 x5 : Addr) (Ax148 : Option Addr) (lx148 cx148 : Nat) (x149 : Int) (y150 : Int) (g : Fr) (N3 : Value → HH → Prop) (H0 : HH) (K : Value → HH → Prop) : Prop :=
 if (decide ((y150 : Int) < x149)) = true then
 ∃ a119 : Addr, AQ Tryd.prog (Instr.indexAt 24 (.slice Ax148 lx148 cx148) (.int .i64 y150)) (.pointer ((some a119))) ∧
 ∃ n120 : Int, QRun Tryd.prog (Instr.loadAt 3 (.pointer ((some a119)))) H0 (.int .i64 n120) ∧
 ∃ a121 : Addr, AQ Tryd.prog (Instr.fieldAt 28 (.pointer ((some x5))) 0) (.pointer ((some a121))) ∧
 ∃ (A122 : Option Addr) (l122 c122 : Nat), QRun Tryd.prog (Instr.loadAt 24 (.pointer ((some a121)))) H0 (.slice A122 l122 c122) ∧
 ∃ a123 : Addr, AQ Tryd.prog (Instr.indexAt 24 (.slice A122 l122 c122) (.int .i64 n120)) (.pointer ((some a123))) ∧
 ∃ n124 : Int, QRun Tryd.prog (Instr.loadAt 3 (.pointer ((some a123)))) H0 (.int .i64 n124) ∧
 if (decide ((n124 : Int) < 0)) = false then
 ∃ a125 : Addr, AQ Tryd.prog (Instr.fieldAt 28 (.pointer ((some x5))) 0) (.pointer ((some a125))) ∧
 ∃ (A126 : Option Addr) (l126 c126 : Nat), QRun Tryd.prog (Instr.loadAt 24 (.pointer ((some a125)))) H0 (.slice A126 l126 c126) ∧
 ∃ a127 : Addr, AQ Tryd.prog (Instr.indexAt 24 (.slice A126 l126 c126) (.int .i64 n120)) (.pointer ((some a127))) ∧
 ∃ n128 : Int, QRun Tryd.prog (Instr.loadAt 3 (.pointer ((some a127)))) H0 (.int .i64 n128) ∧
 ∃ a129 : Addr, AQ Tryd.prog (Instr.fieldAt 26 (.pointer ((some x4))) 2) (.pointer ((some a129))) ∧
 ∃ (A130 : Option Addr) (l130 c130 : Nat), QRun Tryd.prog (Instr.loadAt 24 (.pointer ((some a129)))) H0 (.slice A130 l130 c130) ∧
 ∃ a131 : Addr, AQ Tryd.prog (Instr.indexAt 24 (.slice A130 l130 c130) (.int .i64 y150)) (.pointer ((some a131))) ∧
 ∃ n132 : Int, QRun Tryd.prog (Instr.loadAt 3 (.pointer ((some a131)))) H0 (.int .i64 n132) ∧
 if ((n128 : Int) != n132) = true then
 K (.bool false) H0
 else
 N3 (.int .i64 ((IntKind.i64.wrap (y150 + 1)))) H0
 else
 K (.bool false) H0
 else
 K (.bool true) H0
theorem optimize_CheckCertificate.loop3 {base : Nat} {x4 x5 : Addr} {Ax148 : Option Addr} {lx148 cx148 : Nat} {x149 y150_i : Int} {H0 : HH} {K : Value → HH → Prop} (J : Nat → Int → HH → Prop) (n : Nat) (h0 : J n y150_i H0)
    (hs : ∀ (n : Nat) (y150 : Int) (g : Fr) (H0 : HH), J n y150 H0 → optimize_CheckCertificate.B3 base x4 x5 Ax148 lx148 cx148 x149 y150 g (fun w150 H => ∃ n', n' < n ∧ ∃ (y150' : Int), w150 = (.int .i64 y150') ∧ J n' y150' H) H0 K) : optimize_CheckCertificate.P3 base [(.pointer ((some x4))), (.pointer ((some x5))), (.slice Ax148 lx148 cx148), (.int .i64 x149), (.int .i64 y150_i)] H0 K := by
  refine loop_rule (ann := optimize_CheckCertificate.ann) (body := codeAt [.r, .r, .r, .r, .r, .r, .r, .l, .r, .b, .lp] (bodyOf Tryd.f7)) mix (by kernel_rfl) 47890484224811334117738463540161192538590461185589312 (by kernel_rfl) [4, 5, 148, 149] [(.pointer ((some x4))), (.pointer ((some x5))), (.slice Ax148 lx148 cx148), (.int .i64 x149)] (by kernel_rfl) (fun fr ⟨e4, e5, e148, e149, e150, _⟩ => ⟨e4, e5, e148, e149, trivial⟩) (fun n g H => ∃ (y150 : Int), g 150 = (.int .i64 y150) ∧ J n y150 H) n (fun fr ⟨e4, e5, e148, e149, e150, _⟩ => ⟨y150_i, e150, h0⟩) ?_
  rintro n g H0 ⟨e4, e5, e148, e149, _⟩ ⟨y150, e150, hJ⟩
  rw [← ov_eq (g := g) [(4, (.pointer ((some x4)))), (5, (.pointer ((some x5)))), (148, (.slice Ax148 lx148 cx148)), (149, (.int .i64 x149)), (150, (.int .i64 y150))] (by simp only [List.mem_cons, List.not_mem_nil, or_false, forall_eq_or_imp, forall_eq, false_implies, implies_true]; exact ⟨e4, e5, e148, e149, e150⟩)]
  have key : ∀ NN : Value → HH → Prop, optimize_CheckCertificate.B3 base x4 x5 Ax148 lx148 cx148 x149 y150 g NN H0 K = wpC Tryd.prog base 175 optimize_CheckCertificate.ann (codeAt [.r, .r, .r, .r, .r, .r, .r, .l, .r, .b, .lp] (bodyOf Tryd.f7)) (ov g [(4, (.pointer ((some x4)))), (5, (.pointer ((some x5)))), (148, (.slice Ax148 lx148 cx148)), (149, (.int .i64 x149)), (150, (.int .i64 y150))]) H0 (thenQ (fun fr H => NN (fr 150) H) (qAt Tryd.prog base 175 optimize_CheckCertificate.ann [.r, .r, .r, .r, .r, .r, .r, .l, .r, .b] [] (bodyOf Tryd.f7) (retQ Tryd.prog 175 Tryd.f7 K))) := fun NN => by kernel_rfl
  refine cast ?_ (hs n y150 g H0 hJ)
  refine (key (fun w150 H => ∃ n', n' < n ∧ ∃ (y150' : Int), w150 = (.int .i64 y150') ∧ J n' y150' H)).trans ?_
  kernel_rfl
def privityref36_Ints.ann : Ann := ⟨fun k => bif Nat.beq k 6 then [] else [], fun k => false, fun k => bif Nat.beq k 4 then [0, 1, 5] else []⟩
def privityref36_Ints.P0 (base : Nat) (l : List Value) (H0 : HH) (K : Value → HH → Prop) : Prop := HCodeL Tryd.prog base 26 (codeAt [.r, .r, .l, .r, .b] (bodyOf Tryd.f20)) [0, 1, 5] l H0 (qAt Tryd.prog base 26 privityref36_Ints.ann [.r, .r, .l, .r, .b] [] (bodyOf Tryd.f20) (retQ Tryd.prog 26 Tryd.f20 K))
def privityref36_Ints.sh (base : Nat) (Ax0 : Option Addr) (lx0 cx0 : Nat) (Ax1 : Option Addr) (lx1 cx1 : Nat) (H0 : HH) (K : Value → HH → Prop) : Prop :=
 if ((((lx0 : Nat) : Int) : Int) != (((lx1 : Nat) : Int))) = true then
 K (.bool false) H0
 else
 privityref36_Ints.P0 base [(.slice Ax0 lx0 cx0), (.slice Ax1 lx1 cx1), (.int .i64 0)] H0 K
theorem privityref36_Ints.spec {base : Nat} {Ax0 : Option Addr} {lx0 cx0 : Nat} {Ax1 : Option Addr} {lx1 cx1 : Nat} {H0 : HH} {K : Value → HH → Prop} (h : privityref36_Ints.sh base Ax0 lx0 cx0 Ax1 lx1 cx1 H0 K) : HCall Tryd.prog base 20 #[(.slice Ax0 lx0 cx0), (.slice Ax1 lx1 cx1)] H0 K := spec_of_wpC (n := 26) (ann := privityref36_Ints.ann) mix Tryd.func20 (by kernel_rfl) (cast (show privityref36_Ints.sh base Ax0 lx0 cx0 Ax1 lx1 cx1 H0 K = wpC Tryd.prog base 26 privityref36_Ints.ann (bodyOf Tryd.f20) (ofL [(.slice Ax0 lx0 cx0), (.slice Ax1 lx1 cx1)]) H0 (retQ Tryd.prog 26 Tryd.f20 K) by kernel_rfl) h)
def privityref36_Ints.B0 (base : Nat) (Ax0 : Option Addr) (lx0 cx0 : Nat) (Ax1 : Option Addr) (lx1 cx1 : Nat) (y5 : Int) (g : Fr) (N0 : Value → HH → Prop) (H0 : HH) (K : Value → HH → Prop) : Prop :=
 if (decide ((y5 : Int) < (((lx0 : Nat) : Int)))) = true then
 ∃ a1 : Addr, AQ Tryd.prog (Instr.indexAt 24 (.slice Ax0 lx0 cx0) (.int .i64 y5)) (.pointer ((some a1))) ∧
 ∃ n2 : Int, QRun Tryd.prog (Instr.loadAt 3 (.pointer ((some a1)))) H0 (.int .i64 n2) ∧
 ∃ a3 : Addr, AQ Tryd.prog (Instr.indexAt 24 (.slice Ax1 lx1 cx1) (.int .i64 y5)) (.pointer ((some a3))) ∧
 ∃ n4 : Int, QRun Tryd.prog (Instr.loadAt 3 (.pointer ((some a3)))) H0 (.int .i64 n4) ∧
 if ((n2 : Int) != n4) = true then
 K (.bool false) H0
 else
 N0 (.int .i64 ((IntKind.i64.wrap (y5 + 1)))) H0
 else
 K (.bool true) H0
theorem privityref36_Ints.loop0 {base : Nat} {Ax0 : Option Addr} {lx0 cx0 : Nat} {Ax1 : Option Addr} {lx1 cx1 : Nat} {y5_i : Int} {H0 : HH} {K : Value → HH → Prop} (J : Nat → Int → HH → Prop) (n : Nat) (h0 : J n y5_i H0)
    (hs : ∀ (n : Nat) (y5 : Int) (g : Fr) (H0 : HH), J n y5 H0 → privityref36_Ints.B0 base Ax0 lx0 cx0 Ax1 lx1 cx1 y5 g (fun w5 H => ∃ n', n' < n ∧ ∃ (y5' : Int), w5 = (.int .i64 y5') ∧ J n' y5' H) H0 K) : privityref36_Ints.P0 base [(.slice Ax0 lx0 cx0), (.slice Ax1 lx1 cx1), (.int .i64 y5_i)] H0 K := by
  refine loop_rule (ann := privityref36_Ints.ann) (body := codeAt [.r, .r, .l, .r, .b, .lp] (bodyOf Tryd.f20)) mix (by kernel_rfl) 67106864 (by kernel_rfl) [0, 1] [(.slice Ax0 lx0 cx0), (.slice Ax1 lx1 cx1)] (by kernel_rfl) (fun fr ⟨e0, e1, e5, _⟩ => ⟨e0, e1, trivial⟩) (fun n g H => ∃ (y5 : Int), g 5 = (.int .i64 y5) ∧ J n y5 H) n (fun fr ⟨e0, e1, e5, _⟩ => ⟨y5_i, e5, h0⟩) ?_
  rintro n g H0 ⟨e0, e1, _⟩ ⟨y5, e5, hJ⟩
  rw [← ov_eq (g := g) [(0, (.slice Ax0 lx0 cx0)), (1, (.slice Ax1 lx1 cx1)), (5, (.int .i64 y5))] (by simp only [List.mem_cons, List.not_mem_nil, or_false, forall_eq_or_imp, forall_eq, false_implies, implies_true]; exact ⟨e0, e1, e5⟩)]
  have key : ∀ NN : Value → HH → Prop, privityref36_Ints.B0 base Ax0 lx0 cx0 Ax1 lx1 cx1 y5 g NN H0 K = wpC Tryd.prog base 26 privityref36_Ints.ann (codeAt [.r, .r, .l, .r, .b, .lp] (bodyOf Tryd.f20)) (ov g [(0, (.slice Ax0 lx0 cx0)), (1, (.slice Ax1 lx1 cx1)), (5, (.int .i64 y5))]) H0 (thenQ (fun fr H => NN (fr 5) H) (qAt Tryd.prog base 26 privityref36_Ints.ann [.r, .r, .l, .r, .b] [] (bodyOf Tryd.f20) (retQ Tryd.prog 26 Tryd.f20 K))) := fun NN => by kernel_rfl
  refine cast ?_ (hs n y5 g H0 hJ)
  refine (key (fun w5 H => ∃ n', n' < n ∧ ∃ (y5' : Int), w5 = (.int .i64 y5') ∧ J n' y5' H)).trans ?_
  kernel_rfl
def privityref32_Equal.ann : Ann := ⟨fun k => bif Nat.beq k 6 then [] else bif Nat.beq k 11 then [] else [], fun k => false, fun k => bif Nat.beq k 4 then [2, 3, 5] else bif Nat.beq k 9 then [2, 3, 6] else []⟩
def privityref32_Equal.P0 (base : Nat) (l : List Value) (H0 : HH) (K : Value → HH → Prop) : Prop := HCodeL Tryd.prog base 66 (codeAt [.r, .r, .l, .r, .b] (bodyOf Tryd.f19)) [2, 3, 5] l H0 (qAt Tryd.prog base 66 privityref32_Equal.ann [.r, .r, .l, .r, .b] [] (bodyOf Tryd.f19) (retQ Tryd.prog 66 Tryd.f19 K))
def privityref32_Equal.P1 (base : Nat) (l : List Value) (H0 : HH) (K : Value → HH → Prop) : Prop := HCodeL Tryd.prog base 66 (codeAt [.r, .r, .r, .l, .r, .b] (bodyOf Tryd.f19)) [2, 3, 6] l H0 (qAt Tryd.prog base 66 privityref32_Equal.ann [.r, .r, .r, .l, .r, .b] [] (bodyOf Tryd.f19) (retQ Tryd.prog 66 Tryd.f19 K))
def privityref32_Equal.sh (base : Nat) (x0_0 : Int) (Ax0_1 : Option Addr) (lx0_1 cx0_1 : Nat) (Ax0_2 : Option Addr) (lx0_2 cx0_2 : Nat) (x1_0 : Int) (Ax1_1 : Option Addr) (lx1_1 cx1_1 : Nat) (Ax1_2 : Option Addr) (lx1_2 cx1_2 : Nat) (H0 : HH) (K : Value → HH → Prop) : Prop :=
 HRun Tryd.prog base (Instr.box 26 (.agg #[(.int .u64 x0_0), (.slice Ax0_1 lx0_1 cx0_1), (.slice Ax0_2 lx0_2 cx0_2)])) H0 fun v1 H2 =>
 ∃ a3 : Addr, v1 = (.pointer ((some a3))) ∧ HRun Tryd.prog base (Instr.box 26 (.agg #[(.int .u64 x1_0), (.slice Ax1_1 lx1_1 cx1_1), (.slice Ax1_2 lx1_2 cx1_2)])) H2 fun v4 H5 =>
 ∃ a6 : Addr, v4 = (.pointer ((some a6))) ∧ ∃ a7 : Addr, AQ Tryd.prog (Instr.fieldAt 26 (.pointer ((some a3))) 0) (.pointer ((some a7))) ∧
 ∃ n8 : Int, QRun Tryd.prog (Instr.loadAt 22 (.pointer ((some a7)))) H5 (.int .u64 n8) ∧
 ∃ a9 : Addr, AQ Tryd.prog (Instr.fieldAt 26 (.pointer ((some a6))) 0) (.pointer ((some a9))) ∧
 ∃ n10 : Int, QRun Tryd.prog (Instr.loadAt 22 (.pointer ((some a9)))) H5 (.int .u64 n10) ∧
 if ((n8 : Int) != n10) = false then
 ∃ a11 : Addr, AQ Tryd.prog (Instr.fieldAt 26 (.pointer ((some a3))) 1) (.pointer ((some a11))) ∧
 ∃ (A12 : Option Addr) (l12 c12 : Nat), QRun Tryd.prog (Instr.loadAt 23 (.pointer ((some a11)))) H5 (.slice A12 l12 c12) ∧
 ∃ a13 : Addr, AQ Tryd.prog (Instr.fieldAt 26 (.pointer ((some a6))) 1) (.pointer ((some a13))) ∧
 ∃ (A14 : Option Addr) (l14 c14 : Nat), QRun Tryd.prog (Instr.loadAt 23 (.pointer ((some a13)))) H5 (.slice A14 l14 c14) ∧
 if ((((l12 : Nat) : Int) : Int) != (((l14 : Nat) : Int))) = false then
 ∃ a15 : Addr, AQ Tryd.prog (Instr.fieldAt 26 (.pointer ((some a3))) 2) (.pointer ((some a15))) ∧
 ∃ (A16 : Option Addr) (l16 c16 : Nat), QRun Tryd.prog (Instr.loadAt 24 (.pointer ((some a15)))) H5 (.slice A16 l16 c16) ∧
 ∃ a17 : Addr, AQ Tryd.prog (Instr.fieldAt 26 (.pointer ((some a6))) 2) (.pointer ((some a17))) ∧
 ∃ (A18 : Option Addr) (l18 c18 : Nat), QRun Tryd.prog (Instr.loadAt 24 (.pointer ((some a17)))) H5 (.slice A18 l18 c18) ∧
 if ((((l16 : Nat) : Int) : Int) != (((l18 : Nat) : Int))) = true then
 K (.bool false) H5
 else
 privityref32_Equal.P0 base [(.pointer ((some a3))), (.pointer ((some a6))), (.int .i64 0)] H5 K
 else
 K (.bool false) H5
 else
 K (.bool false) H5
theorem privityref32_Equal.spec {base : Nat} {x0_0 : Int} {Ax0_1 : Option Addr} {lx0_1 cx0_1 : Nat} {Ax0_2 : Option Addr} {lx0_2 cx0_2 : Nat} {x1_0 : Int} {Ax1_1 : Option Addr} {lx1_1 cx1_1 : Nat} {Ax1_2 : Option Addr} {lx1_2 cx1_2 : Nat} {H0 : HH} {K : Value → HH → Prop} (h : privityref32_Equal.sh base x0_0 Ax0_1 lx0_1 cx0_1 Ax0_2 lx0_2 cx0_2 x1_0 Ax1_1 lx1_1 cx1_1 Ax1_2 lx1_2 cx1_2 H0 K) : HCall Tryd.prog base 19 #[(.agg #[(.int .u64 x0_0), (.slice Ax0_1 lx0_1 cx0_1), (.slice Ax0_2 lx0_2 cx0_2)]), (.agg #[(.int .u64 x1_0), (.slice Ax1_1 lx1_1 cx1_1), (.slice Ax1_2 lx1_2 cx1_2)])] H0 K := spec_of_wpC (n := 66) (ann := privityref32_Equal.ann) mix Tryd.func19 (by kernel_rfl) (cast (show privityref32_Equal.sh base x0_0 Ax0_1 lx0_1 cx0_1 Ax0_2 lx0_2 cx0_2 x1_0 Ax1_1 lx1_1 cx1_1 Ax1_2 lx1_2 cx1_2 H0 K = wpC Tryd.prog base 66 privityref32_Equal.ann (bodyOf Tryd.f19) (ofL [(.agg #[(.int .u64 x0_0), (.slice Ax0_1 lx0_1 cx0_1), (.slice Ax0_2 lx0_2 cx0_2)]), (.agg #[(.int .u64 x1_0), (.slice Ax1_1 lx1_1 cx1_1), (.slice Ax1_2 lx1_2 cx1_2)])]) H0 (retQ Tryd.prog 66 Tryd.f19 K) by kernel_rfl) h)
def privityref32_Equal.B0 (base : Nat) (x2 x3 : Addr) (y5 : Int) (g : Fr) (N0 : Value → HH → Prop) (H0 : HH) (K : Value → HH → Prop) : Prop :=
 ∃ a19 : Addr, AQ Tryd.prog (Instr.fieldAt 26 (.pointer ((some x2))) 1) (.pointer ((some a19))) ∧
 ∃ (A20 : Option Addr) (l20 c20 : Nat), QRun Tryd.prog (Instr.loadAt 23 (.pointer ((some a19)))) H0 (.slice A20 l20 c20) ∧
 if (decide ((y5 : Int) < (((l20 : Nat) : Int)))) = true then
 ∃ a21 : Addr, AQ Tryd.prog (Instr.fieldAt 26 (.pointer ((some x2))) 1) (.pointer ((some a21))) ∧
 ∃ (A22 : Option Addr) (l22 c22 : Nat), QRun Tryd.prog (Instr.loadAt 23 (.pointer ((some a21)))) H0 (.slice A22 l22 c22) ∧
 ∃ a23 : Addr, AQ Tryd.prog (Instr.indexAt 23 (.slice A22 l22 c22) (.int .i64 y5)) (.pointer ((some a23))) ∧
 ∃ n24 : Int, ∃ n25 : Int, ∃ n26 : Int, ∃ n27 : Int, ∃ n28 : Int, QRun Tryd.prog (Instr.loadAt 50 (.pointer ((some a23)))) H0 (.agg #[(.int .i64 n24), (.int .i64 n25), (.int .i64 n26), (.int .i64 n27), (.int .u64 n28)]) ∧
 ∃ a29 : Addr, AQ Tryd.prog (Instr.fieldAt 26 (.pointer ((some x3))) 1) (.pointer ((some a29))) ∧
 ∃ (A30 : Option Addr) (l30 c30 : Nat), QRun Tryd.prog (Instr.loadAt 23 (.pointer ((some a29)))) H0 (.slice A30 l30 c30) ∧
 ∃ a31 : Addr, AQ Tryd.prog (Instr.indexAt 23 (.slice A30 l30 c30) (.int .i64 y5)) (.pointer ((some a31))) ∧
 ∃ n32 : Int, ∃ n33 : Int, ∃ n34 : Int, ∃ n35 : Int, ∃ n36 : Int, QRun Tryd.prog (Instr.loadAt 50 (.pointer ((some a31)))) H0 (.agg #[(.int .i64 n32), (.int .i64 n33), (.int .i64 n34), (.int .i64 n35), (.int .u64 n36)]) ∧
 ∃ b37 : Bool, AQ Tryd.prog (binSem .neq 50 (.tmp 41) (.tmp 46) (.agg #[(.int .i64 n24), (.int .i64 n25), (.int .i64 n26), (.int .i64 n27), (.int .u64 n28)]) (.agg #[(.int .i64 n32), (.int .i64 n33), (.int .i64 n34), (.int .i64 n35), (.int .u64 n36)])) (.bool b37) ∧
 if b37 = true then
 K (.bool false) H0
 else
 N0 (.int .i64 ((IntKind.i64.wrap (y5 + 1)))) H0
 else
 privityref32_Equal.P1 base [(.pointer ((some x2))), (.pointer ((some x3))), (.int .i64 0)] H0 K
theorem privityref32_Equal.loop0 {base : Nat} {x2 x3 : Addr} {y5_i : Int} {H0 : HH} {K : Value → HH → Prop} (J : Nat → Int → HH → Prop) (n : Nat) (h0 : J n y5_i H0)
    (hs : ∀ (n : Nat) (y5 : Int) (g : Fr) (H0 : HH), J n y5 H0 → privityref32_Equal.B0 base x2 x3 y5 g (fun w5 H => ∃ n', n' < n ∧ ∃ (y5' : Int), w5 = (.int .i64 y5') ∧ J n' y5' H) H0 K) : privityref32_Equal.P0 base [(.pointer ((some x2))), (.pointer ((some x3))), (.int .i64 y5_i)] H0 K := by
  refine loop_rule (ann := privityref32_Equal.ann) (body := codeAt [.r, .r, .l, .r, .b, .lp] (bodyOf Tryd.f19)) mix (by kernel_rfl) 281473902968880 (by kernel_rfl) [2, 3] [(.pointer ((some x2))), (.pointer ((some x3)))] (by kernel_rfl) (fun fr ⟨e2, e3, e5, _⟩ => ⟨e2, e3, trivial⟩) (fun n g H => ∃ (y5 : Int), g 5 = (.int .i64 y5) ∧ J n y5 H) n (fun fr ⟨e2, e3, e5, _⟩ => ⟨y5_i, e5, h0⟩) ?_
  rintro n g H0 ⟨e2, e3, _⟩ ⟨y5, e5, hJ⟩
  rw [← ov_eq (g := g) [(2, (.pointer ((some x2)))), (3, (.pointer ((some x3)))), (5, (.int .i64 y5))] (by simp only [List.mem_cons, List.not_mem_nil, or_false, forall_eq_or_imp, forall_eq, false_implies, implies_true]; exact ⟨e2, e3, e5⟩)]
  have key : ∀ NN : Value → HH → Prop, privityref32_Equal.B0 base x2 x3 y5 g NN H0 K = wpC Tryd.prog base 66 privityref32_Equal.ann (codeAt [.r, .r, .l, .r, .b, .lp] (bodyOf Tryd.f19)) (ov g [(2, (.pointer ((some x2)))), (3, (.pointer ((some x3)))), (5, (.int .i64 y5))]) H0 (thenQ (fun fr H => NN (fr 5) H) (qAt Tryd.prog base 66 privityref32_Equal.ann [.r, .r, .l, .r, .b] [] (bodyOf Tryd.f19) (retQ Tryd.prog 66 Tryd.f19 K))) := fun NN => by kernel_rfl
  refine cast ?_ (hs n y5 g H0 hJ)
  refine (key (fun w5 H => ∃ n', n' < n ∧ ∃ (y5' : Int), w5 = (.int .i64 y5') ∧ J n' y5' H)).trans ?_
  kernel_rfl
def privityref32_Equal.B1 (base : Nat) (x2 x3 : Addr) (y6 : Int) (g : Fr) (N1 : Value → HH → Prop) (H0 : HH) (K : Value → HH → Prop) : Prop :=
 ∃ a38 : Addr, AQ Tryd.prog (Instr.fieldAt 26 (.pointer ((some x2))) 2) (.pointer ((some a38))) ∧
 ∃ (A39 : Option Addr) (l39 c39 : Nat), QRun Tryd.prog (Instr.loadAt 24 (.pointer ((some a38)))) H0 (.slice A39 l39 c39) ∧
 if (decide ((y6 : Int) < (((l39 : Nat) : Int)))) = true then
 ∃ a40 : Addr, AQ Tryd.prog (Instr.fieldAt 26 (.pointer ((some x2))) 2) (.pointer ((some a40))) ∧
 ∃ (A41 : Option Addr) (l41 c41 : Nat), QRun Tryd.prog (Instr.loadAt 24 (.pointer ((some a40)))) H0 (.slice A41 l41 c41) ∧
 ∃ a42 : Addr, AQ Tryd.prog (Instr.indexAt 24 (.slice A41 l41 c41) (.int .i64 y6)) (.pointer ((some a42))) ∧
 ∃ n43 : Int, QRun Tryd.prog (Instr.loadAt 3 (.pointer ((some a42)))) H0 (.int .i64 n43) ∧
 ∃ a44 : Addr, AQ Tryd.prog (Instr.fieldAt 26 (.pointer ((some x3))) 2) (.pointer ((some a44))) ∧
 ∃ (A45 : Option Addr) (l45 c45 : Nat), QRun Tryd.prog (Instr.loadAt 24 (.pointer ((some a44)))) H0 (.slice A45 l45 c45) ∧
 ∃ a46 : Addr, AQ Tryd.prog (Instr.indexAt 24 (.slice A45 l45 c45) (.int .i64 y6)) (.pointer ((some a46))) ∧
 ∃ n47 : Int, QRun Tryd.prog (Instr.loadAt 3 (.pointer ((some a46)))) H0 (.int .i64 n47) ∧
 if ((n43 : Int) != n47) = true then
 K (.bool false) H0
 else
 N1 (.int .i64 ((IntKind.i64.wrap (y6 + 1)))) H0
 else
 K (.bool true) H0
theorem privityref32_Equal.loop1 {base : Nat} {x2 x3 : Addr} {y6_i : Int} {H0 : HH} {K : Value → HH → Prop} (J : Nat → Int → HH → Prop) (n : Nat) (h0 : J n y6_i H0)
    (hs : ∀ (n : Nat) (y6 : Int) (g : Fr) (H0 : HH), J n y6 H0 → privityref32_Equal.B1 base x2 x3 y6 g (fun w6 H => ∃ n', n' < n ∧ ∃ (y6' : Int), w6 = (.int .i64 y6') ∧ J n' y6' H) H0 K) : privityref32_Equal.P1 base [(.pointer ((some x2))), (.pointer ((some x3))), (.int .i64 y6_i)] H0 K := by
  refine loop_rule (ann := privityref32_Equal.ann) (body := codeAt [.r, .r, .r, .l, .r, .b, .lp] (bodyOf Tryd.f19)) mix (by kernel_rfl) 73786694819861495888 (by kernel_rfl) [2, 3] [(.pointer ((some x2))), (.pointer ((some x3)))] (by kernel_rfl) (fun fr ⟨e2, e3, e6, _⟩ => ⟨e2, e3, trivial⟩) (fun n g H => ∃ (y6 : Int), g 6 = (.int .i64 y6) ∧ J n y6 H) n (fun fr ⟨e2, e3, e6, _⟩ => ⟨y6_i, e6, h0⟩) ?_
  rintro n g H0 ⟨e2, e3, _⟩ ⟨y6, e6, hJ⟩
  rw [← ov_eq (g := g) [(2, (.pointer ((some x2)))), (3, (.pointer ((some x3)))), (6, (.int .i64 y6))] (by simp only [List.mem_cons, List.not_mem_nil, or_false, forall_eq_or_imp, forall_eq, false_implies, implies_true]; exact ⟨e2, e3, e6⟩)]
  have key : ∀ NN : Value → HH → Prop, privityref32_Equal.B1 base x2 x3 y6 g NN H0 K = wpC Tryd.prog base 66 privityref32_Equal.ann (codeAt [.r, .r, .r, .l, .r, .b, .lp] (bodyOf Tryd.f19)) (ov g [(2, (.pointer ((some x2)))), (3, (.pointer ((some x3)))), (6, (.int .i64 y6))]) H0 (thenQ (fun fr H => NN (fr 6) H) (qAt Tryd.prog base 66 privityref32_Equal.ann [.r, .r, .r, .l, .r, .b] [] (bodyOf Tryd.f19) (retQ Tryd.prog 66 Tryd.f19 K))) := fun NN => by kernel_rfl
  refine cast ?_ (hs n y6 g H0 hJ)
  refine (key (fun w6 H => ∃ n', n' < n ∧ ∃ (y6' : Int), w6 = (.int .i64 y6') ∧ J n' y6' H)).trans ?_
  kernel_rfl
def privitylaw36_example.ann : Ann := ⟨fun k => [], fun k => false, fun k => []⟩
def privitylaw36_example.sh (base : Nat)  (H0 : HH) (K : Value → HH → Prop) : Prop :=
 HRun Tryd.prog base (Instr.alloc 26 true (.tuple #[])) H0 fun v1 H2 =>
 ∃ a3 : Addr, v1 = (.pointer ((some a3))) ∧ ∃ n4 : Int, ∃ n5 : Int, ∃ n6 : Int, ∃ n7 : Int, ∃ n8 : Int, AQ Tryd.prog (Instr.build 50 #[(0, (.int .i64 1)), (1, (.int .i64 1))]) (.agg #[(.int .i64 n4), (.int .i64 n5), (.int .i64 n6), (.int .i64 n7), (.int .u64 n8)]) ∧
 ∃ n9 : Int, ∃ n10 : Int, ∃ n11 : Int, ∃ n12 : Int, ∃ n13 : Int, AQ Tryd.prog (Instr.build 50 #[(0, (.int .i64 1)), (1, (.int .i64 1))]) (.agg #[(.int .i64 n9), (.int .i64 n10), (.int .i64 n11), (.int .i64 n12), (.int .u64 n13)]) ∧
 ∃ n14 : Int, ∃ n15 : Int, ∃ n16 : Int, ∃ n17 : Int, ∃ n18 : Int, AQ Tryd.prog (Instr.build 50 #[(0, (.int .i64 3)), (2, (.int .i64 0)), (3, (.int .i64 1))]) (.agg #[(.int .i64 n14), (.int .i64 n15), (.int .i64 n16), (.int .i64 n17), (.int .u64 n18)]) ∧
 ∃ n19 : Int, ∃ n20 : Int, ∃ n21 : Int, ∃ n22 : Int, ∃ n23 : Int, AQ Tryd.prog (Instr.build 50 #[(0, (.int .i64 3)), (2, (.int .i64 1)), (3, (.int .i64 0))]) (.agg #[(.int .i64 n19), (.int .i64 n20), (.int .i64 n21), (.int .i64 n22), (.int .u64 n23)]) ∧
 ∃ n24 : Int, ∃ n25 : Int, ∃ n26 : Int, ∃ n27 : Int, ∃ n28 : Int, AQ Tryd.prog (Instr.build 50 #[(0, (.int .i64 6)), (2, (.int .i64 2)), (3, (.int .i64 3))]) (.agg #[(.int .i64 n24), (.int .i64 n25), (.int .i64 n26), (.int .i64 n27), (.int .u64 n28)]) ∧
 HRun Tryd.prog base (Instr.buildSlice 23 5 #[(0, (.agg #[(.int .i64 n4), (.int .i64 n5), (.int .i64 n6), (.int .i64 n7), (.int .u64 n8)])), (1, (.agg #[(.int .i64 n9), (.int .i64 n10), (.int .i64 n11), (.int .i64 n12), (.int .u64 n13)])), (2, (.agg #[(.int .i64 n14), (.int .i64 n15), (.int .i64 n16), (.int .i64 n17), (.int .u64 n18)])), (3, (.agg #[(.int .i64 n19), (.int .i64 n20), (.int .i64 n21), (.int .i64 n22), (.int .u64 n23)])), (4, (.agg #[(.int .i64 n24), (.int .i64 n25), (.int .i64 n26), (.int .i64 n27), (.int .u64 n28)]))]) H2 fun v29 H30 =>
 ∃ (A31 : Option Addr) (l31 c31 : Nat), v29 = (.slice A31 l31 c31) ∧ HRun Tryd.prog base (Instr.buildSlice 24 1 #[(0, (.int .i64 4))]) H30 fun v32 H33 =>
 ∃ (A34 : Option Addr) (l34 c34 : Nat), v32 = (.slice A34 l34 c34) ∧ ∃ n35 : Int, ∃ (A36 : Option Addr) (l36 c36 : Nat), ∃ (A37 : Option Addr) (l37 c37 : Nat), AQ Tryd.prog (Instr.build 26 #[(0, (.int .u64 31)), (1, (.slice A31 l31 c31)), (2, (.slice A34 l34 c34))]) (.agg #[(.int .u64 n35), (.slice A36 l36 c36), (.slice A37 l37 c37)]) ∧
 HRun Tryd.prog base (Instr.storeAt 26 (.pointer ((some a3))) (.agg #[(.int .u64 n35), (.slice A36 l36 c36), (.slice A37 l37 c37)])) H33 fun _ H38 =>
 ∃ r_, QRun Tryd.prog (results Tryd.f18 (List.toArray [(.pointer ((some a3))), (.agg #[(.int .i64 n4), (.int .i64 n5), (.int .i64 n6), (.int .i64 n7), (.int .u64 n8)]), (.agg #[(.int .i64 n9), (.int .i64 n10), (.int .i64 n11), (.int .i64 n12), (.int .u64 n13)]), (.agg #[(.int .i64 n14), (.int .i64 n15), (.int .i64 n16), (.int .i64 n17), (.int .u64 n18)]), (.agg #[(.int .i64 n19), (.int .i64 n20), (.int .i64 n21), (.int .i64 n22), (.int .u64 n23)]), (.agg #[(.int .i64 n24), (.int .i64 n25), (.int .i64 n26), (.int .i64 n27), (.int .u64 n28)]), (.slice A31 l31 c31), (.slice A34 l34 c34), (.agg #[(.int .u64 n35), (.slice A36 l36 c36), (.slice A37 l37 c37)])])) H38 r_ ∧ K r_ H38
theorem privitylaw36_example.spec {base : Nat}  {H0 : HH} {K : Value → HH → Prop} (h : privitylaw36_example.sh base  H0 K) : HCall Tryd.prog base 18 #[] H0 K := spec_of_wpC (n := 9) (ann := privitylaw36_example.ann) mix Tryd.func18 (by kernel_rfl) (cast (show privitylaw36_example.sh base  H0 K = wpC Tryd.prog base 9 privitylaw36_example.ann (bodyOf Tryd.f18) (ofL []) H0 (retQ Tryd.prog 9 Tryd.f18 K) by kernel_rfl) h)
def privitylaw36_awake.ann : Ann := ⟨fun k => bif Nat.beq k 3 then [2, 6, 7, 10, 13, 16, 19, 26] else [], fun k => false, fun k => []⟩
def privitylaw36_awake.sh (base : Nat)  (H0 : HH) (K : Value → HH → Prop) : Prop :=
 HCall Tryd.prog base 18 #[] H0 fun v1 H2 =>
 ∃ n3 : Int, ∃ (A4 : Option Addr) (l4 c4 : Nat), ∃ (A5 : Option Addr) (l5 c5 : Nat), v1 = (.agg #[(.int .u64 n3), (.slice A4 l4 c4), (.slice A5 l5 c5)]) ∧ HCall Tryd.prog base 11 #[(.agg #[(.int .u64 n3), (.slice A4 l4 c4), (.slice A5 l5 c5)])] H2 fun v6 H7 =>
 ∃ n8 : Int, ∃ (A9 : Option Addr) (l9 c9 : Nat), ∃ (A10 : Option Addr) (l10 c10 : Nat), ∃ (A11 : Option Addr) (l11 c11 : Nat), v6 = (.tuple #[(.agg #[(.int .u64 n8), (.slice A9 l9 c9), (.slice A10 l10 c10)]), (.agg #[(.slice A11 l11 c11)])]) ∧ HRun Tryd.prog base (Instr.alloc 26 true (.tuple #[])) H7 fun v12 H13 =>
 ∃ a14 : Addr, v12 = (.pointer ((some a14))) ∧ HRun Tryd.prog base (Instr.alloc 28 true (.tuple #[])) H13 fun v15 H16 =>
 ∃ a17 : Addr, v15 = (.pointer ((some a17))) ∧ HRun Tryd.prog base (Instr.storeAt 26 (.pointer ((some a14))) (.agg #[(.int .u64 n8), (.slice A9 l9 c9), (.slice A10 l10 c10)])) H16 fun _ H18 =>
 HRun Tryd.prog base (Instr.storeAt 28 (.pointer ((some a17))) (.agg #[(.slice A11 l11 c11)])) H18 fun _ H19 =>
 ∃ n20 : Int, ∃ n21 : Int, ∃ n22 : Int, ∃ n23 : Int, ∃ n24 : Int, AQ Tryd.prog (Instr.build 50 #[(0, (.int .i64 1)), (1, (.int .i64 1))]) (.agg #[(.int .i64 n20), (.int .i64 n21), (.int .i64 n22), (.int .i64 n23), (.int .u64 n24)]) ∧
 ∃ n25 : Int, ∃ n26 : Int, ∃ n27 : Int, ∃ n28 : Int, ∃ n29 : Int, AQ Tryd.prog (Instr.build 50 #[(0, (.int .i64 1)), (1, (.int .i64 1))]) (.agg #[(.int .i64 n25), (.int .i64 n26), (.int .i64 n27), (.int .i64 n28), (.int .u64 n29)]) ∧
 ∃ n30 : Int, ∃ n31 : Int, ∃ n32 : Int, ∃ n33 : Int, ∃ n34 : Int, AQ Tryd.prog (Instr.build 50 #[(0, (.int .i64 3)), (2, (.int .i64 0)), (3, (.int .i64 1))]) (.agg #[(.int .i64 n30), (.int .i64 n31), (.int .i64 n32), (.int .i64 n33), (.int .u64 n34)]) ∧
 ∃ n35 : Int, ∃ n36 : Int, ∃ n37 : Int, ∃ n38 : Int, ∃ n39 : Int, AQ Tryd.prog (Instr.build 50 #[(0, (.int .i64 6)), (2, (.int .i64 2)), (3, (.int .i64 2))]) (.agg #[(.int .i64 n35), (.int .i64 n36), (.int .i64 n37), (.int .i64 n38), (.int .u64 n39)]) ∧
 HRun Tryd.prog base (Instr.buildSlice 23 4 #[(0, (.agg #[(.int .i64 n20), (.int .i64 n21), (.int .i64 n22), (.int .i64 n23), (.int .u64 n24)])), (1, (.agg #[(.int .i64 n25), (.int .i64 n26), (.int .i64 n27), (.int .i64 n28), (.int .u64 n29)])), (2, (.agg #[(.int .i64 n30), (.int .i64 n31), (.int .i64 n32), (.int .i64 n33), (.int .u64 n34)])), (3, (.agg #[(.int .i64 n35), (.int .i64 n36), (.int .i64 n37), (.int .i64 n38), (.int .u64 n39)]))]) H19 fun v40 H41 =>
 ∃ (A42 : Option Addr) (l42 c42 : Nat), v40 = (.slice A42 l42 c42) ∧ HRun Tryd.prog base (Instr.buildSlice 24 1 #[(0, (.int .i64 3))]) H41 fun v43 H44 =>
 ∃ (A45 : Option Addr) (l45 c45 : Nat), v43 = (.slice A45 l45 c45) ∧ ∃ n46 : Int, ∃ (A47 : Option Addr) (l47 c47 : Nat), ∃ (A48 : Option Addr) (l48 c48 : Nat), AQ Tryd.prog (Instr.build 26 #[(0, (.int .u64 31)), (1, (.slice A42 l42 c42)), (2, (.slice A45 l45 c45))]) (.agg #[(.int .u64 n46), (.slice A47 l47 c47), (.slice A48 l48 c48)]) ∧
 HRun Tryd.prog base (Instr.alloc 26 true (.tuple #[])) H44 fun v49 H50 =>
 ∃ a51 : Addr, v49 = (.pointer ((some a51))) ∧ HRun Tryd.prog base (Instr.storeAt 26 (.pointer ((some a51))) (.agg #[(.int .u64 n46), (.slice A47 l47 c47), (.slice A48 l48 c48)])) H50 fun _ H52 =>
 ∃ n53 : Int, ∃ (A54 : Option Addr) (l54 c54 : Nat), ∃ (A55 : Option Addr) (l55 c55 : Nat), QRun Tryd.prog (Instr.loadAt 26 (.pointer ((some a14)))) H52 (.agg #[(.int .u64 n53), (.slice A54 l54 c54), (.slice A55 l55 c55)]) ∧
 ∃ n56 : Int, ∃ (A57 : Option Addr) (l57 c57 : Nat), ∃ (A58 : Option Addr) (l58 c58 : Nat), QRun Tryd.prog (Instr.loadAt 26 (.pointer ((some a51)))) H52 (.agg #[(.int .u64 n56), (.slice A57 l57 c57), (.slice A58 l58 c58)]) ∧
 HCall Tryd.prog base 19 #[(.agg #[(.int .u64 n53), (.slice A54 l54 c54), (.slice A55 l55 c55)]), (.agg #[(.int .u64 n56), (.slice A57 l57 c57), (.slice A58 l58 c58)])] H52 fun v59 H60 =>
 ∃ b61 : Bool, v59 = (.bool b61) ∧ if b61 = true then
 ∃ a62 : Addr, AQ Tryd.prog (Instr.fieldAt 28 (.pointer ((some a17))) 0) (.pointer ((some a62))) ∧
 ∃ (A63 : Option Addr) (l63 c63 : Nat), QRun Tryd.prog (Instr.loadAt 24 (.pointer ((some a62)))) H60 (.slice A63 l63 c63) ∧
 HRun Tryd.prog base (Instr.buildSlice 24 5 #[(0, (.int .i64 0)), (1, (.int .i64 1)), (2, (.int .i64 2)), (3, (.int .i64 2)), (4, (.int .i64 3))]) H60 fun v64 H65 =>
 ∃ (A66 : Option Addr) (l66 c66 : Nat), v64 = (.slice A66 l66 c66) ∧ QRun Tryd.prog (Instr.loadAt 24 (.pointer ((some a62)))) H65 (.slice A63 l63 c63) ∧
 HCall Tryd.prog base 20 #[(.slice A63 l63 c63), (.slice A66 l66 c66)] H65 fun v67 H68 =>
 ∃ b69 : Bool, v67 = (.bool b69) ∧ if b69 = true then
 ∃ n70 : Int, ∃ (A71 : Option Addr) (l71 c71 : Nat), ∃ (A72 : Option Addr) (l72 c72 : Nat), QRun Tryd.prog (Instr.loadAt 26 (.pointer ((some a14)))) H68 (.agg #[(.int .u64 n70), (.slice A71 l71 c71), (.slice A72 l72 c72)]) ∧
 ∃ (A73 : Option Addr) (l73 c73 : Nat), QRun Tryd.prog (Instr.loadAt 28 (.pointer ((some a17)))) H68 (.agg #[(.slice A73 l73 c73)]) ∧
 HCall Tryd.prog base 18 #[] H68 fun v74 H75 =>
 ∃ n76 : Int, ∃ (A77 : Option Addr) (l77 c77 : Nat), ∃ (A78 : Option Addr) (l78 c78 : Nat), v74 = (.agg #[(.int .u64 n76), (.slice A77 l77 c77), (.slice A78 l78 c78)]) ∧ QRun Tryd.prog (Instr.loadAt 28 (.pointer ((some a17)))) H75 (.agg #[(.slice A73 l73 c73)]) ∧
 QRun Tryd.prog (Instr.loadAt 26 (.pointer ((some a14)))) H75 (.agg #[(.int .u64 n70), (.slice A71 l71 c71), (.slice A72 l72 c72)]) ∧
 HCall Tryd.prog base 7 #[(.agg #[(.int .u64 n76), (.slice A77 l77 c77), (.slice A78 l78 c78)]), (.agg #[(.int .u64 n70), (.slice A71 l71 c71), (.slice A72 l72 c72)]), (.agg #[(.slice A73 l73 c73)])] H75 fun v79 H80 =>
 ∃ b81 : Bool, v79 = (.bool b81) ∧ if b81 = true then
 ∃ n82 : Int, ∃ (A83 : Option Addr) (l83 c83 : Nat), ∃ (A84 : Option Addr) (l84 c84 : Nat), QRun Tryd.prog (Instr.loadAt 26 (.pointer ((some a14)))) H80 (.agg #[(.int .u64 n82), (.slice A83 l83 c83), (.slice A84 l84 c84)]) ∧
 ∃ (A85 : Option Addr) (l85 c85 : Nat), AQ Tryd.prog (Instr.build 28 #[]) (.agg #[(.slice A85 l85 c85)]) ∧
 HCall Tryd.prog base 18 #[] H80 fun v86 H87 =>
 ∃ n88 : Int, ∃ (A89 : Option Addr) (l89 c89 : Nat), ∃ (A90 : Option Addr) (l90 c90 : Nat), v86 = (.agg #[(.int .u64 n88), (.slice A89 l89 c89), (.slice A90 l90 c90)]) ∧ QRun Tryd.prog (Instr.loadAt 26 (.pointer ((some a14)))) H87 (.agg #[(.int .u64 n82), (.slice A83 l83 c83), (.slice A84 l84 c84)]) ∧
 HCall Tryd.prog base 7 #[(.agg #[(.int .u64 n88), (.slice A89 l89 c89), (.slice A90 l90 c90)]), (.agg #[(.int .u64 n82), (.slice A83 l83 c83), (.slice A84 l84 c84)]), (.agg #[(.slice A85 l85 c85)])] H87 fun v91 H92 =>
 ∃ b93 : Bool, v91 = (.bool b93) ∧ if (!b93) = true then
 ∃ n94 : Int, ∃ (A95 : Option Addr) (l95 c95 : Nat), ∃ (A96 : Option Addr) (l96 c96 : Nat), AQ Tryd.prog (Instr.build 26 #[(0, (.int .u64 31))]) (.agg #[(.int .u64 n94), (.slice A95 l95 c95), (.slice A96 l96 c96)]) ∧
 ∃ n97 : Int, ∃ (A98 : Option Addr) (l98 c98 : Nat), ∃ (A99 : Option Addr) (l99 c99 : Nat), AQ Tryd.prog (Instr.build 26 #[(0, (.int .u64 31))]) (.agg #[(.int .u64 n97), (.slice A98 l98 c98), (.slice A99 l99 c99)]) ∧
 ∃ (A100 : Option Addr) (l100 c100 : Nat), AQ Tryd.prog (Instr.build 28 #[]) (.agg #[(.slice A100 l100 c100)]) ∧
 HCall Tryd.prog base 7 #[(.agg #[(.int .u64 n94), (.slice A95 l95 c95), (.slice A96 l96 c96)]), (.agg #[(.int .u64 n97), (.slice A98 l98 c98), (.slice A99 l99 c99)]), (.agg #[(.slice A100 l100 c100)])] H92 fun v101 H102 =>
 ∃ b103 : Bool, v101 = (.bool b103) ∧ K (.bool b103) H102
 else
 K (.bool false) H92
 else
 K (.bool false) H80
 else
 K (.bool false) H68
 else
 K (.bool false) H60
theorem privitylaw36_awake.spec {base : Nat}  {H0 : HH} {K : Value → HH → Prop} (h : privitylaw36_awake.sh base  H0 K) : HCall Tryd.prog base 8 #[] H0 K := spec_of_wpC (n := 44) (ann := privitylaw36_awake.ann) mix Tryd.func8 (by kernel_rfl) (cast (show privitylaw36_awake.sh base  H0 K = wpC Tryd.prog base 44 privitylaw36_awake.ann (bodyOf Tryd.f8) (ofL []) H0 (retQ Tryd.prog 44 Tryd.f8 K) by kernel_rfl) h)
def privitylaw36_few.ann : Ann := ⟨fun k => [], fun k => false, fun k => []⟩
def privitylaw36_few.sh (base : Nat) (x0_0 : Int) (Ax0_1 : Option Addr) (lx0_1 cx0_1 : Nat) (Ax0_2 : Option Addr) (lx0_2 cx0_2 : Nat) (H0 : HH) (K : Value → HH → Prop) : Prop :=
 HRun Tryd.prog base (Instr.box 26 (.agg #[(.int .u64 x0_0), (.slice Ax0_1 lx0_1 cx0_1), (.slice Ax0_2 lx0_2 cx0_2)])) H0 fun v1 H2 =>
 ∃ a3 : Addr, v1 = (.pointer ((some a3))) ∧ ∃ a4 : Addr, AQ Tryd.prog (Instr.fieldAt 26 (.pointer ((some a3))) 1) (.pointer ((some a4))) ∧
 ∃ (A5 : Option Addr) (l5 c5 : Nat), QRun Tryd.prog (Instr.loadAt 23 (.pointer ((some a4)))) H2 (.slice A5 l5 c5) ∧
 if (decide ((((l5 : Nat) : Int) : Int) ≤ 60)) = true then
 ∃ a6 : Addr, AQ Tryd.prog (Instr.fieldAt 26 (.pointer ((some a3))) 2) (.pointer ((some a6))) ∧
 ∃ (A7 : Option Addr) (l7 c7 : Nat), QRun Tryd.prog (Instr.loadAt 24 (.pointer ((some a6)))) H2 (.slice A7 l7 c7) ∧
 K (.bool ((decide ((((l7 : Nat) : Int) : Int) ≤ 60)))) H2
 else
 K (.bool false) H2
theorem privitylaw36_few.spec {base : Nat} {x0_0 : Int} {Ax0_1 : Option Addr} {lx0_1 cx0_1 : Nat} {Ax0_2 : Option Addr} {lx0_2 cx0_2 : Nat} {H0 : HH} {K : Value → HH → Prop} (h : privitylaw36_few.sh base x0_0 Ax0_1 lx0_1 cx0_1 Ax0_2 lx0_2 cx0_2 H0 K) : HCall Tryd.prog base 6 #[(.agg #[(.int .u64 x0_0), (.slice Ax0_1 lx0_1 cx0_1), (.slice Ax0_2 lx0_2 cx0_2)])] H0 K := spec_of_wpC (n := 13) (ann := privitylaw36_few.ann) mix Tryd.func6 (by kernel_rfl) (cast (show privitylaw36_few.sh base x0_0 Ax0_1 lx0_1 cx0_1 Ax0_2 lx0_2 cx0_2 H0 K = wpC Tryd.prog base 13 privitylaw36_few.ann (bodyOf Tryd.f6) (ofL [(.agg #[(.int .u64 x0_0), (.slice Ax0_1 lx0_1 cx0_1), (.slice Ax0_2 lx0_2 cx0_2)])]) H0 (retQ Tryd.prog 13 Tryd.f6 K) by kernel_rfl) h)
def privitylaw36_OptimizeCertificatesCompose.ann : Ann := ⟨fun k => [], fun k => bif Nat.beq k 12 then true else false, fun k => bif Nat.beq k 5 then [1, 3, 4] else bif Nat.beq k 12 then [1, 3, 4, 5] else []⟩
def privitylaw36_OptimizeCertificatesCompose.P0 (base : Nat) (l : List Value) (H0 : HH) (K : Value → HH → Prop) : Prop := HCodeL Tryd.prog base 100 (codeAt [.r, .r, .r, .l, .r, .b] (bodyOf Tryd.f3)) [1, 3, 4] l H0 (qAt Tryd.prog base 100 privitylaw36_OptimizeCertificatesCompose.ann [.r, .r, .r, .l, .r, .b] [] (bodyOf Tryd.f3) (retQ Tryd.prog 100 Tryd.f3 K))
def privitylaw36_OptimizeCertificatesCompose.R0 (base : Nat) (N0 : Value → HH → Prop) (l : List Value) (H0 : HH) (K : Value → HH → Prop) : Prop := HCodeL Tryd.prog base 100 (codeAt [.r, .r, .r, .l, .r, .b, .lp, .r, .l, .b, .r, .r, .r] (bodyOf Tryd.f3)) [1, 3, 4, 5] l H0 (qAt Tryd.prog base 100 privitylaw36_OptimizeCertificatesCompose.ann [.r, .r, .r, .l, .r, .b, .lp, .r, .l, .b, .r, .r, .r] [fun fr H => N0 (fr 4) H] (bodyOf Tryd.f3) (retQ Tryd.prog 100 Tryd.f3 K))
def privitylaw36_OptimizeCertificatesCompose.S0 (base : Nat) (N0 : Value → HH → Prop) (x1 x3 : Addr) (x4 x5 : Int) (H0 : HH) (K : Value → HH → Prop) : Prop :=
 ∃ a112 : Addr, AQ Tryd.prog (Instr.fieldAt 28 (.pointer ((some x3))) 0) (.pointer ((some a112))) ∧
 ∃ (A113 : Option Addr) (l113 c113 : Nat), QRun Tryd.prog (Instr.loadAt 24 (.pointer ((some a112)))) H0 (.slice A113 l113 c113) ∧
 HRun Tryd.prog base (Instr.buildSlice 24 1 #[(0, (.int .i64 x5))]) H0 fun v114 H115 =>
 ∃ (A116 : Option Addr) (l116 c116 : Nat), v114 = (.slice A116 l116 c116) ∧ HRun Tryd.prog base (Builtin.append_ #[24, 24] 24 #[(.slice A113 l113 c113), (.slice A116 l116 c116)]) H115 fun v117 H118 =>
 ∃ (A119 : Option Addr) (l119 c119 : Nat), v117 = (.slice A119 l119 c119) ∧ ∃ a120 : Addr, AQ Tryd.prog (Instr.fieldAt 28 (.pointer ((some x3))) 0) (.pointer ((some a120))) ∧
 HRun Tryd.prog base (Instr.storeAt 24 (.pointer ((some a120))) (.slice A119 l119 c119)) H118 fun _ H121 =>
 N0 (.int .i64 ((IntKind.i64.wrap (x4 + 1)))) H121
def privitylaw36_OptimizeCertificatesCompose.T0 (base : Nat) (N0 : Value → HH → Prop) (x1 x3 : Addr) (x4 x5 : Int) (H0 : HH) (K : Value → HH → Prop) : Prop := privitylaw36_OptimizeCertificatesCompose.S0 base N0 x1 x3 x4 x5 H0 K
theorem privitylaw36_OptimizeCertificatesCompose.rest0 {base : Nat} {N0 : Value → HH → Prop} {x1 x3 : Addr} {x4 x5 : Int} {H0 : HH} {K : Value → HH → Prop} (h : privitylaw36_OptimizeCertificatesCompose.S0 base N0 x1 x3 x4 x5 H0 K) : privitylaw36_OptimizeCertificatesCompose.R0 base N0 [(.pointer ((some x1))), (.pointer ((some x3))), (.int .i64 x4), (.int .i64 x5)] H0 K := by
  refine wpCL_sound (ann := privitylaw36_OptimizeCertificatesCompose.ann) mix (fun fr ⟨e1, e3, e4, e5, _⟩ => ?_)
  rw [← ov_eq (g := fr) [(1, (.pointer ((some x1)))), (3, (.pointer ((some x3)))), (4, (.int .i64 x4)), (5, (.int .i64 x5))] (by simp only [List.mem_cons, List.not_mem_nil, or_false, forall_eq_or_imp, forall_eq, false_implies, implies_true]; exact ⟨e1, e3, e4, e5⟩)]
  exact cast (show privitylaw36_OptimizeCertificatesCompose.S0 base N0 x1 x3 x4 x5 H0 K = wpC Tryd.prog base 100 privitylaw36_OptimizeCertificatesCompose.ann (codeAt [.r, .r, .r, .l, .r, .b, .lp, .r, .l, .b, .r, .r, .r] (bodyOf Tryd.f3)) (ov fr [(1, (.pointer ((some x1)))), (3, (.pointer ((some x3)))), (4, (.int .i64 x4)), (5, (.int .i64 x5))]) H0 (qAt Tryd.prog base 100 privitylaw36_OptimizeCertificatesCompose.ann [.r, .r, .r, .l, .r, .b, .lp, .r, .l, .b, .r, .r, .r] [fun fr H => N0 (fr 4) H] (bodyOf Tryd.f3) (retQ Tryd.prog 100 Tryd.f3 K)) by kernel_rfl) h
theorem privitylaw36_OptimizeCertificatesCompose.cut0 {base : Nat} {N0 : Value → HH → Prop} {x1 x3 : Addr} {x4 x5 : Int} {H0 : HH} {K : Value → HH → Prop} (h : privitylaw36_OptimizeCertificatesCompose.T0 base N0 x1 x3 x4 x5 H0 K) : privitylaw36_OptimizeCertificatesCompose.R0 base N0 [(.pointer ((some x1))), (.pointer ((some x3))), (.int .i64 x4), (.int .i64 x5)] H0 K := privitylaw36_OptimizeCertificatesCompose.rest0 h
def privitylaw36_OptimizeCertificatesCompose.sh (base : Nat) (x0_0 : Int) (Ax0_1 : Option Addr) (lx0_1 cx0_1 : Nat) (Ax0_2 : Option Addr) (lx0_2 cx0_2 : Nat) (x0_3 : Int) (Ax0_4 : Option Addr) (lx0_4 cx0_4 : Nat) (Ax0_5 : Option Addr) (lx0_5 cx0_5 : Nat) (x0_6 : Int) (Ax0_7 : Option Addr) (lx0_7 cx0_7 : Nat) (Ax0_8 : Option Addr) (lx0_8 cx0_8 : Nat) (Ax0_9 : Option Addr) (lx0_9 cx0_9 : Nat) (Ax0_10 : Option Addr) (lx0_10 cx0_10 : Nat) (H0 : HH) (K : Value → HH → Prop) : Prop :=
 HRun Tryd.prog base (Instr.box 30 (.agg #[(.int .u64 x0_0), (.slice Ax0_1 lx0_1 cx0_1), (.slice Ax0_2 lx0_2 cx0_2), (.int .u64 x0_3), (.slice Ax0_4 lx0_4 cx0_4), (.slice Ax0_5 lx0_5 cx0_5), (.int .u64 x0_6), (.slice Ax0_7 lx0_7 cx0_7), (.slice Ax0_8 lx0_8 cx0_8), (.slice Ax0_9 lx0_9 cx0_9), (.slice Ax0_10 lx0_10 cx0_10)])) H0 fun v1 H2 =>
 ∃ a3 : Addr, v1 = (.pointer ((some a3))) ∧ ∃ a4 : Addr, AQ Tryd.prog (Instr.fieldAt 30 (.pointer ((some a3))) 0) (.pointer ((some a4))) ∧
 ∃ n5 : Int, ∃ (A6 : Option Addr) (l6 c6 : Nat), ∃ (A7 : Option Addr) (l7 c7 : Nat), QRun Tryd.prog (Instr.loadAt 26 (.pointer ((some a4)))) H2 (.agg #[(.int .u64 n5), (.slice A6 l6 c6), (.slice A7 l7 c7)]) ∧
 HCall Tryd.prog base 6 #[(.agg #[(.int .u64 n5), (.slice A6 l6 c6), (.slice A7 l7 c7)])] H2 fun v8 H9 =>
 ∃ b10 : Bool, v8 = (.bool b10) ∧ if (!b10) = false then
 ∃ a11 : Addr, AQ Tryd.prog (Instr.fieldAt 30 (.pointer ((some a3))) 1) (.pointer ((some a11))) ∧
 ∃ n12 : Int, ∃ (A13 : Option Addr) (l13 c13 : Nat), ∃ (A14 : Option Addr) (l14 c14 : Nat), QRun Tryd.prog (Instr.loadAt 26 (.pointer ((some a11)))) H9 (.agg #[(.int .u64 n12), (.slice A13 l13 c13), (.slice A14 l14 c14)]) ∧
 HCall Tryd.prog base 6 #[(.agg #[(.int .u64 n12), (.slice A13 l13 c13), (.slice A14 l14 c14)])] H9 fun v15 H16 =>
 ∃ b17 : Bool, v15 = (.bool b17) ∧ if (!b17) = false then
 ∃ a18 : Addr, AQ Tryd.prog (Instr.fieldAt 30 (.pointer ((some a3))) 2) (.pointer ((some a18))) ∧
 ∃ n19 : Int, ∃ (A20 : Option Addr) (l20 c20 : Nat), ∃ (A21 : Option Addr) (l21 c21 : Nat), QRun Tryd.prog (Instr.loadAt 26 (.pointer ((some a18)))) H16 (.agg #[(.int .u64 n19), (.slice A20 l20 c20), (.slice A21 l21 c21)]) ∧
 HCall Tryd.prog base 6 #[(.agg #[(.int .u64 n19), (.slice A20 l20 c20), (.slice A21 l21 c21)])] H16 fun v22 H23 =>
 ∃ b24 : Bool, v22 = (.bool b24) ∧ if (!b24) = false then
 ∃ a25 : Addr, AQ Tryd.prog (Instr.fieldAt 30 (.pointer ((some a3))) 3) (.pointer ((some a25))) ∧
 ∃ a26 : Addr, AQ Tryd.prog (Instr.fieldAt 28 (.pointer ((some a25))) 0) (.pointer ((some a26))) ∧
 ∃ (A27 : Option Addr) (l27 c27 : Nat), QRun Tryd.prog (Instr.loadAt 24 (.pointer ((some a26)))) H23 (.slice A27 l27 c27) ∧
 if (decide ((((l27 : Nat) : Int) : Int) > 70)) = false then
 ∃ a28 : Addr, AQ Tryd.prog (Instr.fieldAt 30 (.pointer ((some a3))) 4) (.pointer ((some a28))) ∧
 ∃ a29 : Addr, AQ Tryd.prog (Instr.fieldAt 28 (.pointer ((some a28))) 0) (.pointer ((some a29))) ∧
 ∃ (A30 : Option Addr) (l30 c30 : Nat), QRun Tryd.prog (Instr.loadAt 24 (.pointer ((some a29)))) H23 (.slice A30 l30 c30) ∧
 if (decide ((((l30 : Nat) : Int) : Int) > 70)) = false then
 ∃ a31 : Addr, AQ Tryd.prog (Instr.fieldAt 30 (.pointer ((some a3))) 0) (.pointer ((some a31))) ∧
 ∃ n32 : Int, ∃ (A33 : Option Addr) (l33 c33 : Nat), ∃ (A34 : Option Addr) (l34 c34 : Nat), QRun Tryd.prog (Instr.loadAt 26 (.pointer ((some a31)))) H23 (.agg #[(.int .u64 n32), (.slice A33 l33 c33), (.slice A34 l34 c34)]) ∧
 ∃ a35 : Addr, AQ Tryd.prog (Instr.fieldAt 30 (.pointer ((some a3))) 1) (.pointer ((some a35))) ∧
 ∃ n36 : Int, ∃ (A37 : Option Addr) (l37 c37 : Nat), ∃ (A38 : Option Addr) (l38 c38 : Nat), QRun Tryd.prog (Instr.loadAt 26 (.pointer ((some a35)))) H23 (.agg #[(.int .u64 n36), (.slice A37 l37 c37), (.slice A38 l38 c38)]) ∧
 ∃ a39 : Addr, AQ Tryd.prog (Instr.fieldAt 30 (.pointer ((some a3))) 3) (.pointer ((some a39))) ∧
 ∃ (A40 : Option Addr) (l40 c40 : Nat), QRun Tryd.prog (Instr.loadAt 28 (.pointer ((some a39)))) H23 (.agg #[(.slice A40 l40 c40)]) ∧
 HCall Tryd.prog base 7 #[(.agg #[(.int .u64 n32), (.slice A33 l33 c33), (.slice A34 l34 c34)]), (.agg #[(.int .u64 n36), (.slice A37 l37 c37), (.slice A38 l38 c38)]), (.agg #[(.slice A40 l40 c40)])] H23 fun v41 H42 =>
 ∃ b43 : Bool, v41 = (.bool b43) ∧ if (!b43) = false then
 ∃ a44 : Addr, AQ Tryd.prog (Instr.fieldAt 30 (.pointer ((some a3))) 1) (.pointer ((some a44))) ∧
 ∃ n45 : Int, ∃ (A46 : Option Addr) (l46 c46 : Nat), ∃ (A47 : Option Addr) (l47 c47 : Nat), QRun Tryd.prog (Instr.loadAt 26 (.pointer ((some a44)))) H42 (.agg #[(.int .u64 n45), (.slice A46 l46 c46), (.slice A47 l47 c47)]) ∧
 ∃ a48 : Addr, AQ Tryd.prog (Instr.fieldAt 30 (.pointer ((some a3))) 2) (.pointer ((some a48))) ∧
 ∃ n49 : Int, ∃ (A50 : Option Addr) (l50 c50 : Nat), ∃ (A51 : Option Addr) (l51 c51 : Nat), QRun Tryd.prog (Instr.loadAt 26 (.pointer ((some a48)))) H42 (.agg #[(.int .u64 n49), (.slice A50 l50 c50), (.slice A51 l51 c51)]) ∧
 ∃ a52 : Addr, AQ Tryd.prog (Instr.fieldAt 30 (.pointer ((some a3))) 4) (.pointer ((some a52))) ∧
 ∃ (A53 : Option Addr) (l53 c53 : Nat), QRun Tryd.prog (Instr.loadAt 28 (.pointer ((some a52)))) H42 (.agg #[(.slice A53 l53 c53)]) ∧
 HCall Tryd.prog base 7 #[(.agg #[(.int .u64 n45), (.slice A46 l46 c46), (.slice A47 l47 c47)]), (.agg #[(.int .u64 n49), (.slice A50 l50 c50), (.slice A51 l51 c51)]), (.agg #[(.slice A53 l53 c53)])] H42 fun v54 H55 =>
 ∃ b56 : Bool, v54 = (.bool b56) ∧ if (!b56) = true then
 HCall Tryd.prog base 8 #[] H55 fun v57 H58 =>
 ∃ b59 : Bool, v57 = (.bool b59) ∧ K (.bool b59) H58
 else
 HRun Tryd.prog base (Instr.alloc 28 true (.tuple #[])) H55 fun v60 H61 =>
 ∃ a62 : Addr, v60 = (.pointer ((some a62))) ∧ privitylaw36_OptimizeCertificatesCompose.P0 base [(.pointer ((some a3))), (.pointer ((some a62))), (.int .i64 0)] H61 K
 else
 HCall Tryd.prog base 8 #[] H42 fun v63 H64 =>
 ∃ b65 : Bool, v63 = (.bool b65) ∧ K (.bool b65) H64
 else
 HCall Tryd.prog base 8 #[] H23 fun v66 H67 =>
 ∃ b68 : Bool, v66 = (.bool b68) ∧ K (.bool b68) H67
 else
 HCall Tryd.prog base 8 #[] H23 fun v69 H70 =>
 ∃ b71 : Bool, v69 = (.bool b71) ∧ K (.bool b71) H70
 else
 HCall Tryd.prog base 8 #[] H23 fun v72 H73 =>
 ∃ b74 : Bool, v72 = (.bool b74) ∧ K (.bool b74) H73
 else
 HCall Tryd.prog base 8 #[] H16 fun v75 H76 =>
 ∃ b77 : Bool, v75 = (.bool b77) ∧ K (.bool b77) H76
 else
 HCall Tryd.prog base 8 #[] H9 fun v78 H79 =>
 ∃ b80 : Bool, v78 = (.bool b80) ∧ K (.bool b80) H79
theorem privitylaw36_OptimizeCertificatesCompose.spec {base : Nat} {x0_0 : Int} {Ax0_1 : Option Addr} {lx0_1 cx0_1 : Nat} {Ax0_2 : Option Addr} {lx0_2 cx0_2 : Nat} {x0_3 : Int} {Ax0_4 : Option Addr} {lx0_4 cx0_4 : Nat} {Ax0_5 : Option Addr} {lx0_5 cx0_5 : Nat} {x0_6 : Int} {Ax0_7 : Option Addr} {lx0_7 cx0_7 : Nat} {Ax0_8 : Option Addr} {lx0_8 cx0_8 : Nat} {Ax0_9 : Option Addr} {lx0_9 cx0_9 : Nat} {Ax0_10 : Option Addr} {lx0_10 cx0_10 : Nat} {H0 : HH} {K : Value → HH → Prop} (h : privitylaw36_OptimizeCertificatesCompose.sh base x0_0 Ax0_1 lx0_1 cx0_1 Ax0_2 lx0_2 cx0_2 x0_3 Ax0_4 lx0_4 cx0_4 Ax0_5 lx0_5 cx0_5 x0_6 Ax0_7 lx0_7 cx0_7 Ax0_8 lx0_8 cx0_8 Ax0_9 lx0_9 cx0_9 Ax0_10 lx0_10 cx0_10 H0 K) : HCall Tryd.prog base 3 #[(.agg #[(.int .u64 x0_0), (.slice Ax0_1 lx0_1 cx0_1), (.slice Ax0_2 lx0_2 cx0_2), (.int .u64 x0_3), (.slice Ax0_4 lx0_4 cx0_4), (.slice Ax0_5 lx0_5 cx0_5), (.int .u64 x0_6), (.slice Ax0_7 lx0_7 cx0_7), (.slice Ax0_8 lx0_8 cx0_8), (.slice Ax0_9 lx0_9 cx0_9), (.slice Ax0_10 lx0_10 cx0_10)])] H0 K := spec_of_wpC (n := 100) (ann := privitylaw36_OptimizeCertificatesCompose.ann) mix Tryd.func3 (by kernel_rfl) (cast (show privitylaw36_OptimizeCertificatesCompose.sh base x0_0 Ax0_1 lx0_1 cx0_1 Ax0_2 lx0_2 cx0_2 x0_3 Ax0_4 lx0_4 cx0_4 Ax0_5 lx0_5 cx0_5 x0_6 Ax0_7 lx0_7 cx0_7 Ax0_8 lx0_8 cx0_8 Ax0_9 lx0_9 cx0_9 Ax0_10 lx0_10 cx0_10 H0 K = wpC Tryd.prog base 100 privitylaw36_OptimizeCertificatesCompose.ann (bodyOf Tryd.f3) (ofL [(.agg #[(.int .u64 x0_0), (.slice Ax0_1 lx0_1 cx0_1), (.slice Ax0_2 lx0_2 cx0_2), (.int .u64 x0_3), (.slice Ax0_4 lx0_4 cx0_4), (.slice Ax0_5 lx0_5 cx0_5), (.int .u64 x0_6), (.slice Ax0_7 lx0_7 cx0_7), (.slice Ax0_8 lx0_8 cx0_8), (.slice Ax0_9 lx0_9 cx0_9), (.slice Ax0_10 lx0_10 cx0_10)])]) H0 (retQ Tryd.prog 100 Tryd.f3 K) by kernel_rfl) h)
def privitylaw36_OptimizeCertificatesCompose.B0 (base : Nat) (x1 x3 : Addr) (y4 : Int) (g : Fr) (N0 : Value → HH → Prop) (H0 : HH) (K : Value → HH → Prop) : Prop :=
 ∃ a81 : Addr, AQ Tryd.prog (Instr.fieldAt 30 (.pointer ((some x1))) 3) (.pointer ((some a81))) ∧
 ∃ a82 : Addr, AQ Tryd.prog (Instr.fieldAt 28 (.pointer ((some a81))) 0) (.pointer ((some a82))) ∧
 ∃ (A83 : Option Addr) (l83 c83 : Nat), QRun Tryd.prog (Instr.loadAt 24 (.pointer ((some a82)))) H0 (.slice A83 l83 c83) ∧
 if (decide ((y4 : Int) < (((l83 : Nat) : Int)))) = true then
 ∃ a84 : Addr, AQ Tryd.prog (Instr.fieldAt 30 (.pointer ((some x1))) 3) (.pointer ((some a84))) ∧
 ∃ a85 : Addr, AQ Tryd.prog (Instr.fieldAt 28 (.pointer ((some a84))) 0) (.pointer ((some a85))) ∧
 ∃ (A86 : Option Addr) (l86 c86 : Nat), QRun Tryd.prog (Instr.loadAt 24 (.pointer ((some a85)))) H0 (.slice A86 l86 c86) ∧
 ∃ a87 : Addr, AQ Tryd.prog (Instr.indexAt 24 (.slice A86 l86 c86) (.int .i64 y4)) (.pointer ((some a87))) ∧
 ∃ n88 : Int, QRun Tryd.prog (Instr.loadAt 3 (.pointer ((some a87)))) H0 (.int .i64 n88) ∧
 ∃ a89 : Addr, AQ Tryd.prog (Instr.fieldAt 30 (.pointer ((some x1))) 4) (.pointer ((some a89))) ∧
 ∃ a90 : Addr, AQ Tryd.prog (Instr.fieldAt 28 (.pointer ((some a89))) 0) (.pointer ((some a90))) ∧
 ∃ (A91 : Option Addr) (l91 c91 : Nat), QRun Tryd.prog (Instr.loadAt 24 (.pointer ((some a90)))) H0 (.slice A91 l91 c91) ∧
 if (decide ((n88 : Int) ≥ (((l91 : Nat) : Int)))) = true then
 K (.bool false) H0
 else
 if (decide ((n88 : Int) ≥ 0)) = true then
 ∃ a92 : Addr, AQ Tryd.prog (Instr.fieldAt 30 (.pointer ((some x1))) 4) (.pointer ((some a92))) ∧
 ∃ a93 : Addr, AQ Tryd.prog (Instr.fieldAt 28 (.pointer ((some a92))) 0) (.pointer ((some a93))) ∧
 ∃ (A94 : Option Addr) (l94 c94 : Nat), QRun Tryd.prog (Instr.loadAt 24 (.pointer ((some a93)))) H0 (.slice A94 l94 c94) ∧
 ∃ a95 : Addr, AQ Tryd.prog (Instr.indexAt 24 (.slice A94 l94 c94) (.int .i64 n88)) (.pointer ((some a95))) ∧
 ∃ n96 : Int, QRun Tryd.prog (Instr.loadAt 3 (.pointer ((some a95)))) H0 (.int .i64 n96) ∧
 privitylaw36_OptimizeCertificatesCompose.R0 base N0 [(.pointer ((some x1))), (.pointer ((some x3))), (.int .i64 y4), (.int .i64 n96)] H0 K
 else
 privitylaw36_OptimizeCertificatesCompose.R0 base N0 [(.pointer ((some x1))), (.pointer ((some x3))), (.int .i64 y4), (.int .i64 n88)] H0 K
 else
 HCall Tryd.prog base 8 #[] H0 fun v97 H98 =>
 ∃ b99 : Bool, v97 = (.bool b99) ∧ if b99 = true then
 ∃ a100 : Addr, AQ Tryd.prog (Instr.fieldAt 30 (.pointer ((some x1))) 0) (.pointer ((some a100))) ∧
 ∃ n101 : Int, ∃ (A102 : Option Addr) (l102 c102 : Nat), ∃ (A103 : Option Addr) (l103 c103 : Nat), QRun Tryd.prog (Instr.loadAt 26 (.pointer ((some a100)))) H98 (.agg #[(.int .u64 n101), (.slice A102 l102 c102), (.slice A103 l103 c103)]) ∧
 ∃ a104 : Addr, AQ Tryd.prog (Instr.fieldAt 30 (.pointer ((some x1))) 2) (.pointer ((some a104))) ∧
 ∃ n105 : Int, ∃ (A106 : Option Addr) (l106 c106 : Nat), ∃ (A107 : Option Addr) (l107 c107 : Nat), QRun Tryd.prog (Instr.loadAt 26 (.pointer ((some a104)))) H98 (.agg #[(.int .u64 n105), (.slice A106 l106 c106), (.slice A107 l107 c107)]) ∧
 ∃ (A108 : Option Addr) (l108 c108 : Nat), QRun Tryd.prog (Instr.loadAt 28 (.pointer ((some x3)))) H98 (.agg #[(.slice A108 l108 c108)]) ∧
 HCall Tryd.prog base 7 #[(.agg #[(.int .u64 n101), (.slice A102 l102 c102), (.slice A103 l103 c103)]), (.agg #[(.int .u64 n105), (.slice A106 l106 c106), (.slice A107 l107 c107)]), (.agg #[(.slice A108 l108 c108)])] H98 fun v109 H110 =>
 ∃ b111 : Bool, v109 = (.bool b111) ∧ K (.bool b111) H110
 else
 K (.bool false) H98
theorem privitylaw36_OptimizeCertificatesCompose.loop0 {base : Nat} {x1 x3 : Addr} {y4_i : Int} {H0 : HH} {K : Value → HH → Prop} (J : Nat → Int → HH → Prop) (n : Nat) (h0 : J n y4_i H0)
    (hs : ∀ (n : Nat) (y4 : Int) (g : Fr) (H0 : HH), J n y4 H0 → privitylaw36_OptimizeCertificatesCompose.B0 base x1 x3 y4 g (fun w4 H => ∃ n', n' < n ∧ ∃ (y4' : Int), w4 = (.int .i64 y4') ∧ J n' y4' H) H0 K) : privitylaw36_OptimizeCertificatesCompose.P0 base [(.pointer ((some x1))), (.pointer ((some x3))), (.int .i64 y4_i)] H0 K := by
  refine loop_rule (ann := privitylaw36_OptimizeCertificatesCompose.ann) (body := codeAt [.r, .r, .r, .l, .r, .b, .lp] (bodyOf Tryd.f3)) mix (by kernel_rfl) 2475880078426645361722392628 (by kernel_rfl) [1, 3] [(.pointer ((some x1))), (.pointer ((some x3)))] (by kernel_rfl) (fun fr ⟨e1, e3, e4, _⟩ => ⟨e1, e3, trivial⟩) (fun n g H => ∃ (y4 : Int), g 4 = (.int .i64 y4) ∧ J n y4 H) n (fun fr ⟨e1, e3, e4, _⟩ => ⟨y4_i, e4, h0⟩) ?_
  rintro n g H0 ⟨e1, e3, _⟩ ⟨y4, e4, hJ⟩
  rw [← ov_eq (g := g) [(1, (.pointer ((some x1)))), (3, (.pointer ((some x3)))), (4, (.int .i64 y4))] (by simp only [List.mem_cons, List.not_mem_nil, or_false, forall_eq_or_imp, forall_eq, false_implies, implies_true]; exact ⟨e1, e3, e4⟩)]
  have key : ∀ NN : Value → HH → Prop, privitylaw36_OptimizeCertificatesCompose.B0 base x1 x3 y4 g NN H0 K = wpC Tryd.prog base 100 privitylaw36_OptimizeCertificatesCompose.ann (codeAt [.r, .r, .r, .l, .r, .b, .lp] (bodyOf Tryd.f3)) (ov g [(1, (.pointer ((some x1)))), (3, (.pointer ((some x3)))), (4, (.int .i64 y4))]) H0 (thenQ (fun fr H => NN (fr 4) H) (qAt Tryd.prog base 100 privitylaw36_OptimizeCertificatesCompose.ann [.r, .r, .r, .l, .r, .b] [] (bodyOf Tryd.f3) (retQ Tryd.prog 100 Tryd.f3 K))) := fun NN => by kernel_rfl
  refine cast ?_ (hs n y4 g H0 hJ)
  refine (key (fun w4 H => ∃ n', n' < n ∧ ∃ (y4' : Int), w4 = (.int .i64 y4') ∧ J n' y4' H)).trans ?_
  kernel_rfl
def privitylaw36_OptimizeEquivalent.ann : Ann := ⟨fun k => [], fun k => false, fun k => []⟩
def privitylaw36_OptimizeCertificateSound.ann : Ann := ⟨fun k => bif Nat.beq k 12 then [] else [], fun k => false, fun k => bif Nat.beq k 10 then [1, 7, 9, 11] else []⟩
end Go.Proofs.YtjpaichcaaacbabDoor.HL
end
section
set_option linter.unusedVariables false
set_option linter.unusedSimpArgs false
set_option linter.unusedSectionVars false
set_option maxHeartbeats 8000000
namespace Go.Proofs.YtjpaichcaaacbabDoor.HL
open Go Go.Proofs.YtjpaichcaaacbabDoorNum Go.Proofs.YtjpaichcaaacbabDoor.FEv
def sA (k : Int) : Bool := k == 3 || (k == 4 || (k == 6 || k == 5))
def sB (k : Int) : Bool := k == 3 || (k == 4 || k == 6)
def cm (k : Int) : Bool := k == 3 || k == 6
section
variable {base : Nat} {H : HH} {K : Value → HH → Prop}
theorem h_sides (k : Int) (hk : K (.tuple #[.bool (sA k), .bool (sB k)]) H) : HCall Tryd.prog base 24 #[.int .i64 k] H K := by
  refine optimize_sides.spec ?_
  unfold optimize_sides.sh
  unfold sA sB at hk
  by_cases h3 : k = 3
  · subst h3; simpa using hk
  by_cases h4 : k = 4
  · subst h4; simpa using hk
  by_cases h6 : k = 6
  · subst h6; simpa using hk
  by_cases h5 : k = 5
  · subst h5; simpa using hk
  have e3 : (k == 3) = false := by simpa using h3
  have e4 : (k == 4) = false := by simpa using h4
  have e5 : (k == 5) = false := by simpa using h5
  have e6 : (k == 6) = false := by simpa using h6
  rw [e3, e4, e5, e6] at hk
  simpa [h3, h4, h5, h6] using hk
theorem h_either (k : Int) (hk : K (.bool (cm k)) H) : HCall Tryd.prog base 30 #[.int .i64 k] H K := by
  refine optimize_either.spec ?_
  unfold optimize_either.sh
  unfold cm at hk
  by_cases h3 : k = 3
  · subst h3; simpa using hk
  · rw [show (k == 3) = false from by simpa using h3] at hk
    simpa [h3] using hk
end
def OwnZ (base : Nat) (F H : HH) (A : Option Addr) (n c : Nat) (l : List Int) : Prop := Own base H 3 1 (.slice A n c) n (is l) ∧ Frz F H (.slice A n c)
section
variable {base : Nat} {F H H' : HH} {A A' : Option Addr} {n n' c c' : Nat} {l l' : List Int} {K : Value → HH → Prop}
theorem is_len (l : List Int) : (is l).length = l.length := by simp [is]
theorem OwnZ.len (h : OwnZ base F H A n c l) : n = l.length := by have := h.1.1; rw [is_len] at this; omega
theorem OwnZ.row (h : OwnZ base F H A n c l) : Outs H A n l := by
  obtain ⟨A', c', e, _, h2⟩ := h.1.slice
  cases e
  exact ⟨h.len, h2⟩
theorem OwnZ.ext (h : OwnZ base F H A n c l) : Ext F H := h.2.ext
theorem OwnZ.nil (base : Nat) (H : HH) : OwnZ base H H none 0 0 [] := ⟨Own.nil _ _ _ _, Frz.nil _⟩
theorem OwnZ.more (h : OwnZ base F H A n c l) (X : Ext H H') : OwnZ base F H' A n c l := ⟨h.1.ext X, h.2.more X⟩
theorem OwnZ.push (h : OwnZ base F H A n c l) (hl : n ≤ 100000) (x : Int) {C : Option Addr → Nat → Nat → HH → Prop} (hk : ∀ A' c' H', OwnZ base F H' A' (n + 1) c' (l ++ [x]) → Grows H H' (.slice A n c) (.slice A' (n + 1) c') → C A' (n + 1) c' H') {ty : Nat} :
    HRun Tryd.prog base (Instr.buildSlice tInts 1 #[(0, .int .i64 x)]) H fun v1 H1 => ∃ (A1 : Option Addr) (l1 c1 : Nat), v1 = .slice A1 l1 c1 ∧ HRun Tryd.prog base (Builtin.append_ #[tInts, tInts] ty #[.slice A n c, .slice A1 l1 c1]) H1 fun v2 H2 => ∃ (A' : Option Addr) (l' c' : Nat), v2 = .slice A' l' c' ∧ C A' l' c' H2 :=
  h_push unInts inf3 rfl (by decide) rfl h.1 (by omega) (fun A3 c3 H3 ho3 g3 => hk A3 c3 H3 ⟨by simpa [is] using ho3, h.2.grow g3⟩ g3)
theorem Outs.ix (h : Outs H A n l) (c : Nat) {x : Int} (h0 : 0 ≤ x) (h1 : x < n) : ∃ a, AQ Tryd.prog (Instr.indexAt tInts (.slice A n c) (.int .i64 x)) (.pointer (some a)) ∧ QRun Tryd.prog (Instr.loadAt 3 (.pointer (some a))) H (.int .i64 (l.getD x.toNat 0)) := by
  have := h.at c (i := x.toNat) (by omega)
  rwa [Int.toNat_of_nonneg h0] at this
theorem Gs.ix {gs : List Gate} (h : Gs H A n gs) (c : Nat) {x : Int} (h0 : 0 ≤ x) (h1 : x < n) : ∃ a, AQ Tryd.prog (Instr.indexAt tGates (.slice A n c) (.int .i64 x)) (.pointer (some a)) ∧ GAt H a (gs.getD x.toNat gate0) := by
  have := h.at c (i := x.toNat) (by omega)
  rwa [Int.toNat_of_nonneg h0] at this
/-- Two rows of numbers are compared. -/
theorem h_ints (h : Outs H A n l) (h' : Outs H A' n' l') (hl : l.length ≤ 1000) (hk : K (.bool (decide (l = l'))) H) : HCall Tryd.prog base 20 #[.slice A n c, .slice A' n' c'] H K := by
  refine privityref36_Ints.spec ?_
  unfold privityref36_Ints.sh
  have e1 := h.1
  have e2 := h'.1
  by_cases e : n = n'
  rotate_left
  · rw [if_pos (by rw [bne_iff_ne]; omega)]
    have : l ≠ l' := fun hl => e (by rw [e1, e2, hl])
    simpa [this] using hk
  · subst e
    rw [if_neg (by simp)]
    refine privityref36_Ints.loop0 (fun m y H' => H' = H ∧ ∃ j : Nat, y = j ∧ j ≤ n ∧ m = n - j ∧ ∀ t, t < j → l.getD t 0 = l'.getD t 0) n ⟨rfl, 0, rfl, Nat.zero_le _, by omega, fun t h => by omega⟩ ?_
    rintro m y g H' ⟨rfl, j, rfl, hj, hm', ht⟩
    unfold privityref36_Ints.B0
    by_cases hlt : j < n
    · rw [if_pos (decide_eq_true (by omega))]
      obtain ⟨a, q1, q2⟩ := h.at c (i := j) hlt
      obtain ⟨a', q3, q4⟩ := h'.at c' (i := j) hlt
      refine ⟨a, q1, _, q2, a', q3, _, q4, ?_⟩
      by_cases e3 : l.getD j 0 = l'.getD j 0
      · rw [if_neg (by simpa using e3)]
        exact ⟨m - 1, by omega, _, rfl, rfl, j + 1, nxt (n := 1000000) (by omega) (by decide), by omega, by omega, fun t h => by
          rcases Nat.lt_or_ge t j with h1 | h1
          · exact ht t h1
          · obtain rfl : t = j := by omega
            exact e3⟩
      · rw [if_pos (by simpa using e3)]
        have : l ≠ l' := fun hl => e3 (by rw [hl])
        simpa [this] using hk
    · rw [if_neg (fun h => hlt (by have := of_decide_eq_true h; omega))]
      have : l = l' := by
        apply List.ext_getElem (by omega)
        intro t h1 h2
        have := ht t (by omega)
        simpa [h1, h2] using this
      simpa [this] using hk
end
abbrev tCert : Nat := 28
def TB (H : HH) (b : Nat) (A : Option Addr) (n c : Nat) : Prop := H b = some (.cells #[.slice A n c] tCert (0, 0))
theorem ft0 (b : Nat) : AQ Tryd.prog (Instr.fieldAt tCert (.pointer (some ⟨b, 0, none⟩)) 0) (.pointer (some ⟨b, 0, none⟩)) := by
  have := aq_fld (P := Tryd.prog) (s := tCert) (f := 0) (off := 0) (sz := 1) (by kernel_rfl) (by decide) ⟨b, 0, none⟩
  rwa [add0] at this
section
variable {base : Nat} {H H' : HH} {K : Value → HH → Prop} {A : Option Addr} {n c b : Nat}
theorem TB.ext (h : TB H b A n c) (he : Ext H H') : TB H' b A n c := he _ _ h
theorem TB.to (h : TB H b A n c) : QRun Tryd.prog (Instr.loadAt tInts (.pointer (some ⟨b, 0, none⟩))) H (.slice A n c) := q_ld scInts (by rw [cellH_blk h]; rfl)
theorem TB.all (h : TB H b A n c) : QRun Tryd.prog (Instr.loadAt tCert (.pointer (some ⟨b, 0, none⟩))) H (.agg #[.slice A n c]) :=
  q_lda (cs := [.slice A n c]) (by kernel_rfl) (by kernel_rfl) (fun j u hu => by
    rw [add0, cellH_blk h, ← Array.getElem?_toList]
    exact hu)
theorem h_tbox (hk : ∀ b H', Ext H H' → TB H' b A n c → K (.pointer (some ⟨b, 0, none⟩)) H') : HRun Tryd.prog base (Instr.box tCert (.agg #[.slice A n c])) H K :=
  h_box (fun b hb hbase => hk b _ (Ext.upd hb _) (upd_self _ _ _))
end
theorem aq_neqg (g g' : Gate) {x y : Operand} : AQ Tryd.prog (binSem .neq tGate x y (.agg (gv g).toArray) (.agg (gv g').toArray)) (.bool (decide (g ≠ g'))) := fun W => by
  have h1 := run_eqGuard_agg (P := Tryd.prog) (w := W) .neq tGate x y (gv g).toArray (gv g').toArray (by kernel_rfl)
  have h2 := run_neq_struct (P := Tryd.prog) (w := W) tGate (gv g).toArray (gv g').toArray
  rw [eq_gate g g' W, gate_eq] at h2
  unfold binSem
  simp [h1, h2]
end Go.Proofs.YtjpaichcaaacbabDoor.HL
end

/- Part J of: The statement OptimizeCertificateSound: the law answers true whatever its arguments; no condition. -/
import Derived.Test.YtjpaichcaaacbabDoorZOptimizeCertificateSoundI
import Derived.Laws.StructEq
import Derived.Laws.Tables
section
set_option linter.unusedVariables false
set_option linter.unusedSimpArgs false
set_option linter.unusedSectionVars false
namespace Go.Proofs.YtjpaichcaaacbabDoor.HL
open Go Go.Proofs.YtjpaichcaaacbabDoorNum Go.Proofs.YtjpaichcaaacbabDoor.FEv
section
variable {P : Program} {base : Nat} {H : HH}
theorem h_sta {t b T : Nat} {old : Array Value} {vs : List Value} {K : Unit → HH → Prop} (hz : (P.info? t).map (·.size) = some vs.length) (h1 : vs.all (·.oneCell') = true) (hb : H b = some (.cells old T (0, 0))) (hbase : base ≤ b) (ho : old.size = vs.length) (h : K () (upd H b (.cells vs.toArray T (0, 0)))) : HRun P base (Instr.storeAt t (.pointer (some ⟨b, 0, none⟩)) (.agg vs.toArray)) H K := by
  refine h_do (cs' := vs.toArray) hb hbase (by simp [ho]) (fun W hs => ⟨W.setRow b vs.toArray, ?_, rfl, rfl, rfl, ?_, ?_, ?_⟩) h
  · have := run_storeVar_row (P := P) W b T t old vs.toArray (hs b _ hb) (by simpa using hz) (by simpa using ho) (by simpa using h1)
    simp [Instr.storeAt, Instr.sureAddr, this]
  · simp [World.setRow]
  · intro k hk
    simp only [World.setRow, Array.getElem?_modify]
    rw [if_neg (fun e => hk e.symm)]
  · exact setRow_heap W b old vs.toArray T (0, 0) (hs b _ hb)
theorem h_var {t : Nat} {old z : Value} {vs : List Value} (hz0 : (P.info? t).bind (·.zero) = some z) (hzc : z.cells.size = vs.length) (hz : (P.info? t).map (·.size) = some vs.length) (h1 : vs.all (·.oneCell') = true) {C : Addr → HH → Prop}
    (hk : ∀ b H', Ext H H' → base ≤ b → H b = none → H' b = some (.cells vs.toArray t (0, 0)) → C ⟨b, 0, none⟩ H') :
    HRun P base (Instr.alloc t true old) H fun v H1 => ∃ a : Addr, v = .pointer (some a) ∧ HRun P base (Instr.storeAt t (.pointer (some a)) (.agg vs.toArray)) H1 fun _ H2 => C a H2 :=
  h_alloc hz0 (fun b hb hbase => ⟨_, rfl, h_sta hz h1 (upd_self _ _ _) hbase hzc (hk b _ (fun k o hk => by
    have : k ≠ b := fun e => by rw [e, hb] at hk; cases hk
    rw [upd_ne _ this, upd_ne _ this]; exact hk) hbase hb (upd_self _ _ _))⟩)
end
def PtAt (H : HH) (a : Addr) (q : Int × Int) : Prop := cellH H (a.add 0) = some (.int .u64 q.1) ∧ cellH H (a.add 1) = some (.int .u64 q.2)
section
variable {base : Nat} {H : HH} {a : Addr} {q : Int × Int}
theorem PtAt.ext {H' : HH} (h : PtAt H a q) (he : Ext H H') : PtAt H' a q := ⟨cellH_ext he h.1, cellH_ext he h.2⟩
theorem PtAt.x (h : PtAt H a q) : QRun Tryd.prog (Instr.loadAt 22 (.pointer (some (a.add 0)))) H (.int .u64 q.1) := q_ld sc22 h.1
theorem PtAt.y (h : PtAt H a q) : QRun Tryd.prog (Instr.loadAt 22 (.pointer (some (a.add 1)))) H (.int .u64 q.2) := q_ld sc22 h.2
end
def pc (l : List (Int × Int)) : List Value := l.flatMap fun q => [.int .u64 q.1, .int .u64 q.2]
def Pts (H : HH) (A : Option Addr) (n : Nat) (l : List (Int × Int)) : Prop := n = l.length ∧ Rd H A (pc l)
section
variable {base : Nat} {H : HH} {A : Option Addr} {n : Nat} {l : List (Int × Int)} {i : Int}
theorem Pts.ext {H' : HH} (h : Pts H A n l) (he : Ext H H') : Pts H' A n l := ⟨h.1, h.2.ext he⟩
theorem Pts.nil : Pts H none 0 [] := ⟨rfl, .inl rfl⟩
theorem addr_add' (a : Addr) (m n : Nat) : (a.add m).add n = a.add (m + n) := by
  unfold Addr.add
  by_cases hm : m = 0 <;> by_cases hn : n = 0 <;> simp_all [Nat.add_assoc]
end
section
end
def RowI (H : HH) (A : Option Addr) (n : Nat) (l : List Nat) : Prop := n = l.length ∧ Rd H A (ns l)
theorem RowI.ext {H H' : HH} {A : Option Addr} {n : Nat} {l : List Nat} (h : RowI H A n l) (he : Ext H H') : RowI H' A n l := ⟨h.1, h.2.ext he⟩
theorem RowI.nil {H : HH} : RowI H none 0 [] := ⟨rfl, .inl rfl⟩
theorem RowI.at {H : HH} {A : Option Addr} {n : Nat} {l : List Nat} (h : RowI H A n l) (c : Nat) {j : Nat} (hj : j < n) : ∃ a, AQ Tryd.prog (Instr.indexAt 24 (.slice A n c) (.int .i64 j)) (.pointer (some a)) ∧ QRun Tryd.prog (Instr.loadAt 3 (.pointer (some a))) H (.int .i64 ((l.getD j 0 : Nat) : Int)) := by
  obtain ⟨e, h⟩ := h
  subst e
  exact Piv.at h c hj
end Go.Proofs.YtjpaichcaaacbabDoor.HL
end
section
set_option linter.unusedVariables false
set_option linter.unusedSimpArgs false
set_option linter.unusedSectionVars false
set_option maxHeartbeats 1000000
namespace Go.Proofs.YtjpaichcaaacbabDoor.HL
open Go Go.Proofs.YtjpaichcaaacbabDoorNum Go.Proofs.YtjpaichcaaacbabDoor.FEv
theorem Rd.take {H : HH} {A : Option Addr} {xs : List Value} (h : Rd H A xs) (k : Nat) : Rd H A (xs.take k) := by
  rcases h with e | ⟨ad, e, hc⟩
  · exact .inl (by rw [e]; simp)
  · exact .inr ⟨ad, e, fun i u hu => hc i u (by
      rw [List.getElem?_take] at hu
      split at hu
      · exact hu
      · cases hu)⟩
theorem w64 {x : Int} (h0 : -9223372036854775808 ≤ x) (h1 : x < 9223372036854775808) : IntKind.i64.wrap x = x := by
  unfold IntKind.wrap
  simp [IntKind.bits, IntKind.signed]
  omega
section
end
end Go.Proofs.YtjpaichcaaacbabDoor.HL
end
section
set_option linter.unusedVariables false
set_option linter.unusedSimpArgs false
set_option linter.unusedSectionVars false
set_option maxHeartbeats 2000000
namespace Go.Proofs.YtjpaichcaaacbabDoor.HL
open Go Go.Proofs.YtjpaichcaaacbabDoorNum Go.Proofs.YtjpaichcaaacbabDoor.FEv
structure Form where
  w : ByteArray
  kind : Int
  fr : Bool
  k : Bool
  a : Bool
  b : Bool
  bit : Bool
def fv (f : Form) : List Value := [.string f.w, .int .i64 f.kind, .bool f.fr, .bool f.k, .bool f.a, .bool f.b, .bool f.bit]
abbrev formL : List Form := [⟨⟨#[105, 110]⟩, 1, true, false, false, false, false⟩, ⟨⟨#[98, 105, 116]⟩, 1, true, false, false, false, true⟩, ⟨⟨#[99, 111, 110, 115, 116]⟩, 2, false, true, false, false, false⟩, ⟨⟨#[97, 100, 100]⟩, 3, false, false, true, true, false⟩, ⟨⟨#[115, 117, 98]⟩, 4, false, false, true, true, false⟩, ⟨⟨#[115, 99, 97, 108, 101]⟩, 5, false, true, true, false, false⟩, ⟨⟨#[109, 117, 108]⟩, 6, false, false, true, true, false⟩]
abbrev expL : List Int := [5, 7, 13, 17, 19, 31, 61]
abbrev tForms : Nat := 84
abbrev tExps : Nat := 83
abbrev tForm : Nat := 76
theorem fl_back : ∀ (l : List Form) (j : Nat) (u : Value), (l.flatMap fv)[j]? = some u → ∃ (i : Nat) (f : Form) (k : Nat), j = i * 7 + k ∧ l[i]? = some f ∧ (fv f)[k]? = some u
  | [], j, u, h => by simp at h
  | f :: l, j, u, h => by
    have e : (f :: l).flatMap fv = fv f ++ l.flatMap fv := rfl
    rw [e] at h
    have hl : (fv f).length = 7 := rfl
    rcases Nat.lt_or_ge j 7 with h1 | h1
    · rw [List.getElem?_append_left (by omega)] at h
      exact ⟨0, f, j, by omega, rfl, h⟩
    · rw [List.getElem?_append_right (by omega), hl] at h
      obtain ⟨i, f', k, h2, h3, h4⟩ := fl_back l (j - 7) u h
      exact ⟨i + 1, f', k, by omega, h3, h4⟩
/-- The laid variables, as they are known. -/
structure Gl (H : HH) : Prop where
  exps : ∀ (j : Nat) (u : Value), (expL.map (Value.int .i64))[j]? = some u → cellH H ⟨1, j, none⟩ = some u
  forms : ∀ (i : Nat) (f : Form), formL[i]? = some f → ∀ (j : Nat) (u : Value), (fv f)[j]? = some u → cellH H ⟨2, i * 7 + j, none⟩ = some u
theorem Gl.ext {H H' : HH} (h : Gl H) (he : Ext H H') : Gl H' := ⟨fun j u hu => cellH_ext he (h.exps j u hu), fun i f hf j u hu => cellH_ext he (h.forms i f hf j u hu)⟩
theorem Gl.exp_all {H : HH} (h : Gl H) : QRun Tryd.prog (Instr.loadAt tExps (.pointer (some ⟨1, 0, none⟩))) H (.agg #[.int .i64 5, .int .i64 7, .int .i64 13, .int .i64 17, .int .i64 19, .int .i64 31, .int .i64 61]) :=
  q_lda (cs := expL.map (Value.int .i64)) (by kernel_rfl) (by kernel_rfl) (fun j u hu => by
    rw [add0]
    exact h.exps j u hu)
theorem Gl.form_all {H : HH} (h : Gl H) : QRun Tryd.prog (Instr.loadAt tForms (.pointer (some ⟨2, 0, none⟩))) H (.agg (formL.flatMap fv).toArray) :=
  q_lda (cs := formL.flatMap fv) (by kernel_rfl) (by kernel_rfl) (fun j u hu => by
    rw [add0]
    obtain ⟨i, f, k, rfl, h2, h3⟩ := fl_back _ j u hu
    exact h.forms i f h2 k u h3)
abbrev pwL : List Int := [31, 127, 8191, 131071, 524287, 2147483647, 2305843009213693951]
theorem exp_at (i : Nat) (h : i < 7) : AQ Tryd.prog (Instr.index tExps (.agg #[.int .i64 5, .int .i64 7, .int .i64 13, .int .i64 17, .int .i64 19, .int .i64 31, .int .i64 61]) (.int .i64 i)) (.int .i64 (expL.getD i 0)) := by
  match i, h with
  | 0, _ => exact fun W => by kernel_rfl
  | 1, _ => exact fun W => by kernel_rfl
  | 2, _ => exact fun W => by kernel_rfl
  | 3, _ => exact fun W => by kernel_rfl
  | 4, _ => exact fun W => by kernel_rfl
  | 5, _ => exact fun W => by kernel_rfl
  | 6, _ => exact fun W => by kernel_rfl
theorem shl_at (i : Nat) (h : i < 7) (x y : Operand) : ∃ n : Int, AQ Tryd.prog (binSem .shl 22 x y (.int .u64 1) (.int .i64 (expL.getD i 0))) (.int .u64 n) ∧ IntKind.u64.wrap (n - 1) = pwL.getD i 0 ∧ expL.getD i 0 ≠ 0 := by
  match i, h with
  | 0, _ => exact ⟨32, fun W => by kernel_rfl, by decide, by decide⟩
  | 1, _ => exact ⟨128, fun W => by kernel_rfl, by decide, by decide⟩
  | 2, _ => exact ⟨8192, fun W => by kernel_rfl, by decide, by decide⟩
  | 3, _ => exact ⟨131072, fun W => by kernel_rfl, by decide, by decide⟩
  | 4, _ => exact ⟨524288, fun W => by kernel_rfl, by decide, by decide⟩
  | 5, _ => exact ⟨2147483648, fun W => by kernel_rfl, by decide, by decide⟩
  | 6, _ => exact ⟨2305843009213693952, fun W => by kernel_rfl, by decide, by decide⟩
section
variable {base : Nat} {H : HH} {K : Value → HH → Prop}
theorem h_fexp (hG : Gl H) (x : Int) (hk : ∀ e : Int, (e != 0) = supB x → K (.int .i64 e) H) : HCall Tryd.prog base 32 #[.int .u64 x] H K := by
  refine field_Exponent.spec ?_
  unfold field_Exponent.sh
  refine ⟨_, _, _, _, _, _, _, hG.exp_all, ?_⟩
  refine field_Exponent.loop0 (fun n y H' => H' = H ∧ ∃ i : Nat, y = i ∧ i ≤ 7 ∧ n = 7 - i ∧ ∀ j, j < i → x ≠ pwL.getD j 0) 7 ⟨rfl, 0, rfl, by decide, rfl, fun j hj => by omega⟩ ?_
  rintro n y g H1 ⟨rfl, i, rfl, hi, rfl, hno⟩
  unfold field_Exponent.B0
  split
  · rename_i e
    have e : i < 7 := by have := of_decide_eq_true e; omega
    obtain ⟨m, h1, h2, h3⟩ := shl_at i e (.const (.int .u64 1)) (.tmp 10)
    refine ⟨_, exp_at i e, m, h1, ?_⟩
    rw [h2]
    split
    · rename_i e2
      have e2 : x = pwL.getD i 0 := by simpa using e2
      refine hk _ ?_
      have : supB x = true := by
        unfold supB
        rw [e2, List.contains_eq_mem]
        refine decide_eq_true ?_
        have : pwL.getD i 0 = pwL[i]'e := by rw [List.getD_eq_getElem?_getD, List.getElem?_eq_getElem (show i < pwL.length from e)]; rfl
        rw [this]
        exact List.getElem_mem _
      rw [this]
      simpa using h3
    · rename_i e2
      have e2 : x ≠ pwL.getD i 0 := by simpa using e2
      exact ⟨7 - i - 1, by omega, _, rfl, rfl, i + 1, nxt (n := 1000) (by omega) (by decide), by omega, by omega, fun j hj => by
        by_cases h : j = i
        · rw [h]; exact e2
        · exact hno j (by omega)⟩
  · rename_i e
    have e : i = 7 := by
      have : ¬ ((i : Int) < 7) := fun h => e (decide_eq_true h)
      omega
    refine hk 0 ?_
    have : supB x = false := by
      cases hs : supB x with
      | false => rfl
      | true =>
        unfold supB at hs
        rw [List.contains_eq_mem] at hs
        obtain ⟨j, hj, ej⟩ := List.getElem_of_mem (of_decide_eq_true hs)
        refine absurd ej.symm ?_
        have := hno j (by rw [e]; exact hj)
        have h2 : pwL.getD j 0 = pwL[j]'hj := by rw [List.getD_eq_getElem?_getD, List.getElem?_eq_getElem hj]; rfl
        rwa [h2] at this
    rw [this]; rfl
theorem h_fsup (hG : Gl H) (x : Int) (hk : K (.bool (supB x)) H) : HCall Tryd.prog base 26 #[.int .u64 x] H K := by
  refine field_Supported.spec ?_
  unfold field_Supported.sh
  refine h_fexp hG x (fun e he => ⟨_, rfl, ?_⟩)
  rw [he]
  exact hk
end
end Go.Proofs.YtjpaichcaaacbabDoor.HL
end
section
set_option linter.unusedVariables false
set_option linter.unusedSimpArgs false
set_option linter.unusedSectionVars false
set_option maxHeartbeats 4000000
namespace Go.Proofs.YtjpaichcaaacbabDoor.HL
open Go Go.Proofs.YtjpaichcaaacbabDoorNum Go.Proofs.YtjpaichcaaacbabDoor.FEv
abbrev tGate : Nat := 50
structure Gate where
  kind : Int
  frm : Int
  a : Int
  b : Int
  k : Int
deriving DecidableEq
def gv (g : Gate) : List Value := [.int .i64 g.kind, .int .i64 g.frm, .int .i64 g.a, .int .i64 g.b, .int .u64 g.k]
def GAt (H : HH) (a : Addr) (g : Gate) : Prop := ∀ (j : Nat) (u : Value), (gv g)[j]? = some u → cellH H (a.add j) = some u
theorem infoG : (Tryd.prog.info? tGate).map (·.size) = some 5 := by kernel_rfl
theorem fg0 (a : Addr) : AQ Tryd.prog (Instr.fieldAt tGate (.pointer (some a)) 0) (.pointer (some (a.add 0))) := aq_fld (off := 0) (sz := 1) (by kernel_rfl) (by decide) a
theorem fg1 (a : Addr) : AQ Tryd.prog (Instr.fieldAt tGate (.pointer (some a)) 1) (.pointer (some (a.add 1))) := aq_fld (off := 1) (sz := 1) (by kernel_rfl) (by decide) a
theorem fg2 (a : Addr) : AQ Tryd.prog (Instr.fieldAt tGate (.pointer (some a)) 2) (.pointer (some (a.add 2))) := aq_fld (off := 2) (sz := 1) (by kernel_rfl) (by decide) a
theorem fg3 (a : Addr) : AQ Tryd.prog (Instr.fieldAt tGate (.pointer (some a)) 3) (.pointer (some (a.add 3))) := aq_fld (off := 3) (sz := 1) (by kernel_rfl) (by decide) a
theorem fg4 (a : Addr) : AQ Tryd.prog (Instr.fieldAt tGate (.pointer (some a)) 4) (.pointer (some (a.add 4))) := aq_fld (off := 4) (sz := 1) (by kernel_rfl) (by decide) a
section
variable {base : Nat} {H : HH} {K : Value → HH → Prop} {a : Addr} {g : Gate}
theorem GAt.ext {H' : HH} (h : GAt H a g) (he : Ext H H') : GAt H' a g := fun j u hu => cellH_ext he (h j u hu)
theorem GAt.kind (h : GAt H a g) : QRun Tryd.prog (Instr.loadAt 3 (.pointer (some (a.add 0)))) H (.int .i64 g.kind) := q_ld sc3 (h 0 _ rfl)
theorem GAt.frm (h : GAt H a g) : QRun Tryd.prog (Instr.loadAt 3 (.pointer (some (a.add 1)))) H (.int .i64 g.frm) := q_ld sc3 (h 1 _ rfl)
theorem GAt.sa (h : GAt H a g) : QRun Tryd.prog (Instr.loadAt 3 (.pointer (some (a.add 2)))) H (.int .i64 g.a) := q_ld sc3 (h 2 _ rfl)
theorem GAt.sb (h : GAt H a g) : QRun Tryd.prog (Instr.loadAt 3 (.pointer (some (a.add 3)))) H (.int .i64 g.b) := q_ld sc3 (h 3 _ rfl)
theorem GAt.k (h : GAt H a g) : QRun Tryd.prog (Instr.loadAt 22 (.pointer (some (a.add 4)))) H (.int .u64 g.k) := q_ld sc22 (h 4 _ rfl)
theorem GAt.all (h : GAt H a g) : QRun Tryd.prog (Instr.loadAt tGate (.pointer (some a))) H (.agg (gv g).toArray) := q_lda (cs := gv g) (by kernel_rfl) infoG h
theorem gat_blk {b : Nat} (h : H b = some (.cells (gv g).toArray tGate (0, 0))) : GAt H ⟨b, 0, none⟩ g := fun j u hu => by
  rw [add0, cellH_blk h, ← Array.getElem?_toList]
  exact hu
theorem h_gbox (hk : ∀ a H', Ext H H' → GAt H' a g → K (.pointer (some a)) H') : HRun Tryd.prog base (Instr.box tGate (.agg (gv g).toArray)) H K :=
  h_box (fun b hb hbase => hk _ _ (Ext.upd hb _) (gat_blk (upd_self _ _ _)))
theorem h_gvar {old : Value} {C : Addr → HH → Prop} (hk : ∀ a H', Ext H H' → GAt H' a g → C a H') :
    HRun Tryd.prog base (Instr.alloc tGate true old) H fun v H1 => ∃ a : Addr, v = .pointer (some a) ∧ HRun Tryd.prog base (Instr.storeAt tGate (.pointer (some a)) (.agg (gv g).toArray)) H1 fun _ H2 => C a H2 :=
  h_var (vs := gv g) (z := .agg #[.int .i64 0, .int .i64 0, .int .i64 0, .int .i64 0, .int .u64 0]) (by kernel_rfl) rfl infoG rfl (fun b H' he hbase hn hb => hk _ H' he (gat_blk hb))
end
def FAt (H : HH) (b : Nat) (f : Form) : Prop := H b = some (.cells (fv f).toArray tForm (0, 0))
theorem infoF : (Tryd.prog.info? tForm).map (·.size) = some 7 := by kernel_rfl
theorem ff (b n : Nat) (h : n < 7) : AQ Tryd.prog (Instr.fieldAt tForm (.pointer (some ⟨b, 0, none⟩)) n) (.pointer (some ⟨b, n, none⟩)) := by
  match n, h with
  | 0, _ => have := aq_fld (P := Tryd.prog) (s := tForm) (f := 0) (off := 0) (sz := 1) (by kernel_rfl) (by decide) ⟨b, 0, none⟩; rwa [add0] at this
  | 1, _ => have := aq_fld (P := Tryd.prog) (s := tForm) (f := 1) (off := 1) (sz := 1) (by kernel_rfl) (by decide) ⟨b, 0, none⟩; rwa [add0] at this
  | 2, _ => have := aq_fld (P := Tryd.prog) (s := tForm) (f := 2) (off := 2) (sz := 1) (by kernel_rfl) (by decide) ⟨b, 0, none⟩; rwa [add0] at this
  | 3, _ => have := aq_fld (P := Tryd.prog) (s := tForm) (f := 3) (off := 3) (sz := 1) (by kernel_rfl) (by decide) ⟨b, 0, none⟩; rwa [add0] at this
  | 4, _ => have := aq_fld (P := Tryd.prog) (s := tForm) (f := 4) (off := 4) (sz := 1) (by kernel_rfl) (by decide) ⟨b, 0, none⟩; rwa [add0] at this
  | 5, _ => have := aq_fld (P := Tryd.prog) (s := tForm) (f := 5) (off := 5) (sz := 1) (by kernel_rfl) (by decide) ⟨b, 0, none⟩; rwa [add0] at this
  | 6, _ => have := aq_fld (P := Tryd.prog) (s := tForm) (f := 6) (off := 6) (sz := 1) (by kernel_rfl) (by decide) ⟨b, 0, none⟩; rwa [add0] at this
theorem scBo : scalarB Tryd.prog 4 = true := by kernel_rfl
section
variable {base : Nat} {H : HH} {K : Value → HH → Prop} {b : Nat} {f : Form}
theorem FAt.ext {H' : HH} (h : FAt H b f) (he : Ext H H') : FAt H' b f := he _ _ h
theorem FAt.kind (h : FAt H b f) : QRun Tryd.prog (Instr.loadAt 3 (.pointer (some ⟨b, 1, none⟩))) H (.int .i64 f.kind) := q_ld sc3 (by rw [cellH_blk h]; rfl)
theorem FAt.fr (h : FAt H b f) : QRun Tryd.prog (Instr.loadAt 4 (.pointer (some ⟨b, 2, none⟩))) H (.bool f.fr) := q_ld scBo (by rw [cellH_blk h]; rfl)
theorem FAt.k (h : FAt H b f) : QRun Tryd.prog (Instr.loadAt 4 (.pointer (some ⟨b, 3, none⟩))) H (.bool f.k) := q_ld scBo (by rw [cellH_blk h]; rfl)
theorem FAt.sa (h : FAt H b f) : QRun Tryd.prog (Instr.loadAt 4 (.pointer (some ⟨b, 4, none⟩))) H (.bool f.a) := q_ld scBo (by rw [cellH_blk h]; rfl)
theorem FAt.sb (h : FAt H b f) : QRun Tryd.prog (Instr.loadAt 4 (.pointer (some ⟨b, 5, none⟩))) H (.bool f.b) := q_ld scBo (by rw [cellH_blk h]; rfl)
theorem FAt.bit (h : FAt H b f) : QRun Tryd.prog (Instr.loadAt 4 (.pointer (some ⟨b, 6, none⟩))) H (.bool f.bit) := q_ld scBo (by rw [cellH_blk h]; rfl)
theorem FAt.all (h : FAt H b f) : QRun Tryd.prog (Instr.loadAt tForm (.pointer (some ⟨b, 0, none⟩))) H (.agg (fv f).toArray) :=
  q_lda (cs := fv f) (by kernel_rfl) infoF (fun j u hu => by
    rw [add0, cellH_blk h, ← Array.getElem?_toList]
    exact hu)
def form0 : Form := ⟨⟨#[]⟩, 0, false, false, false, false, false⟩
theorem h_fvar {old : Value} {C : Addr → HH → Prop} (hk : ∀ b H', Ext H H' → FAt H' b f → C ⟨b, 0, none⟩ H') :
    HRun Tryd.prog base (Instr.alloc tForm true old) H fun v H1 => ∃ a : Addr, v = .pointer (some a) ∧ HRun Tryd.prog base (Instr.storeAt tForm (.pointer (some a)) (.agg (fv f).toArray)) H1 fun _ H2 => C a H2 :=
  h_var (vs := fv f) (z := .agg (fv form0).toArray) (by kernel_rfl) rfl infoF rfl (fun b H' he hbase hn hb => hk _ H' he hb)
theorem aq_eqb {P : Program} {t : TypeId} (ht : P.underlying t = some .bool) {x y : Operand} (u v : Bool) : AQ P (binSem .eql t x y (.bool u) (.bool v)) (.bool (u == v)) := fun W => by
  have e : (Op.equal t (.bool u) (.bool v)).run P W = .ok (u == v) W := by
    show (Op.equalIn (_ + 1) t (.bool u) (.bool v)).run P W = _
    unfold Op.equalIn
    simp [run_under ht]
  have e2 : (eqGuard .eql t x y (.bool u) (.bool v)).run P W = .ok () W := by
    unfold eqGuard
    cases u <;> cases v <;> simp [bind, Sem.bind, pure, Sem.run]
  unfold binSem
  simp [binOp, e, e2]
theorem unBo : Tryd.prog.underlying 4 = some .bool := by kernel_rfl
theorem form_at (i : Nat) (h : i < 7) : ∃ f, formL[i]? = some f ∧ AQ Tryd.prog (Instr.index tForms (.agg (formL.flatMap fv).toArray) (.int .i64 i)) (.agg (fv f).toArray) := by
  match i, h with
  | 0, _ => exact ⟨_, rfl, fun W => by kernel_rfl⟩
  | 1, _ => exact ⟨_, rfl, fun W => by kernel_rfl⟩
  | 2, _ => exact ⟨_, rfl, fun W => by kernel_rfl⟩
  | 3, _ => exact ⟨_, rfl, fun W => by kernel_rfl⟩
  | 4, _ => exact ⟨_, rfl, fun W => by kernel_rfl⟩
  | 5, _ => exact ⟨_, rfl, fun W => by kernel_rfl⟩
  | 6, _ => exact ⟨_, rfl, fun W => by kernel_rfl⟩
end
end Go.Proofs.YtjpaichcaaacbabDoor.HL
end
section
set_option linter.unusedVariables false
set_option linter.unusedSimpArgs false
set_option linter.unusedSectionVars false
set_option maxHeartbeats 4000000
namespace Go.Proofs.YtjpaichcaaacbabDoor.HL
open Go Go.Proofs.YtjpaichcaaacbabDoorNum Go.Proofs.YtjpaichcaaacbabDoor.FEv
def matchB (g : Gate) (f : Form) : Bool := f.kind == g.kind && f.bit == (g.kind == 1 && g.k == 1)
def ofS (g : Gate) : Option Form := formL.find? (matchB g)
theorem ofS_at {g : Gate} {i : Nat} {f : Form} (hi : formL[i]? = some f) (hm : matchB g f = true) (hno : ∀ j f, j < i → formL[j]? = some f → matchB g f = false) : ofS g = some f := by
  unfold ofS
  obtain ⟨h, e⟩ := List.getElem?_eq_some_iff.1 hi
  refine List.find?_eq_some_iff_getElem.2 ⟨hm, i, h, e, fun j hj => ?_⟩
  have := hno j _ hj (List.getElem?_eq_getElem (Nat.lt_trans hj h))
  simp [this]
theorem ofS_none {g : Gate} (hno : ∀ j f, j < 7 → formL[j]? = some f → matchB g f = false) : ofS g = none := by
  unfold ofS
  refine List.find?_eq_none.2 (fun f hf => ?_)
  obtain ⟨j, hj, rfl⟩ := List.getElem_of_mem hf
  have := hno j _ hj (List.getElem?_eq_getElem hj)
  simp [this]
section
variable {base : Nat} {H : HH} {K : Value → HH → Prop}
theorem HRun.use' {α : Type} {P : Program} {base : Nat} {H : HH} {s : Sem α} {Q K : α → HH → Prop} (h : HRun P base s H Q) (hk : ∀ v H', Q v H' → K v H') : HRun P base s H K := fun W hs hb => by
  obtain ⟨v, W', H', h1, h2, h3⟩ := h W hs hb
  exact ⟨v, W', H', h1, hk _ _ h2, h3⟩
theorem ext_new {H H' : HH} {x : Nat} {o : Obj} (he : Ext H H') (hn : H x = none) : Ext H (upd H' x o) := fun k o' hk => by
  have : k ≠ x := fun e => by rw [e, hn] at hk; cases hk
  rw [upd_ne _ this]
  exact he k o' hk
theorem q_res {l : List Value} {x : Nat} {f : Form} {ok : Bool} (h2 : l[2]? = some (.pointer (some ⟨x, 0, none⟩))) (h3 : l[3]? = some (.bool ok)) (h : FAt H x f) : QRun Tryd.prog (results Tryd.f33 l.toArray) H (.tuple #[.agg (fv f).toArray, .bool ok]) := fun W hs => by
  have er : Tryd.f33.results = #[.cell 2 tForm, .tmp 3] := by kernel_rfl
  have hl := h.all W hs
  simp only [Instr.loadAt, Instr.sureAddr] at hl
  have e2 : l.toArray.getD 2 undef = .pointer (some ⟨x, 0, none⟩) := by simp [Array.getD_eq_getD_getElem?, h2]
  have e3 : l.toArray.getD 3 undef = .bool ok := by simp [Array.getD_eq_getD_getElem?, h3]
  unfold results
  rw [er]
  simp [e2, e3, asAddr, hl]
  simp_all
theorem h_of (hG : Gl H) (g : Gate) (hk1 : ∀ f, ofS g = some f → ∀ H', Ext H H' → K (.tuple #[.agg (fv f).toArray, .bool true]) H') (hk2 : ofS g = none → ∀ H', Ext H H' → K (.tuple #[.agg (fv form0).toArray, .bool false]) H') : HCall Tryd.prog base 33 #[.agg (gv g).toArray] H K := by
  refine circuit_of.spec ?_
  unfold circuit_of.sh
  refine h_gbox (g := g) (fun a H1 X1 ga => ⟨_, rfl, ?_⟩)
  refine h_alloc (z := .agg (fv form0).toArray) (by kernel_rfl) (fun x hx hxb => ⟨_, rfl, ?_⟩)
  have X2 : Ext H1 (upd H1 x (.cells (Value.agg (fv form0).toArray).cells tForm)) := Ext.upd hx _
  have hx2 : (upd H1 x (.cells (Value.agg (fv form0).toArray).cells tForm)) x = some (.cells (Value.agg (fv form0).toArray).cells tForm (0, 0)) := upd_self _ _ _
  generalize upd H1 x (.cells (Value.agg (fv form0).toArray).cells tForm) = H2 at X2 hx2 ⊢
  refine ⟨_, _, _, _, _, _, _, _, _, _, _, _, _, _, _, _, _, _, _, _, _, _, _, _, _, _, _, _, _, _, _, _, _, _, _, _, _, _, _, _, _, _, _, _, _, _, _, _, _, ((hG.ext X1).ext X2).form_all, ?_⟩
  refine circuit_of.loop0 (fun n y H' => ∃ i : Nat, y = i ∧ i ≤ 7 ∧ n = 7 - i ∧ Ext H2 H' ∧ ∀ j f, j < i → formL[j]? = some f → matchB g f = false) 7 ⟨0, rfl, by decide, rfl, .refl _, fun j f hj => by omega⟩ ?_
  rintro n y fr H3 ⟨i, rfl, hi, rfl, X3, hno⟩
  have hHx : H x = none := X1.none hx
  unfold circuit_of.B0
  split
  · rename_i e
    have e : i < 7 := by have := of_decide_eq_true e; omega
    obtain ⟨f, hf, hix⟩ := form_at i e
    refine ⟨_, _, _, _, _, _, _, hix, h_fvar (f := f) (fun b H4 X4 fa => ?_)⟩
    have g4 := ((ga.ext X2).ext X3).ext X4
    have X24 := X3.trans X4
    have XH := X1.trans (X2.trans X24)
    refine ⟨_, ff b 1 (by decide), _, fa.kind, _, fg0 a, _, g4.kind, ?_⟩
    have next : matchB g f = false → ∃ n', n' < 7 - i ∧ ∃ y' : Int, Value.int .i64 (IntKind.i64.wrap ((i : Int) + 1)) = .int .i64 y' ∧ ∃ i : Nat, y' = i ∧ i ≤ 7 ∧ n' = 7 - i ∧ Ext H2 H4 ∧ ∀ j f, j < i → formL[j]? = some f → matchB g f = false := fun hm =>
      ⟨7 - i - 1, by omega, _, rfl, i + 1, nxt (n := 1000) (by omega) (by decide), by omega, by omega, X24, fun j f' hj hf' => by
        by_cases h : j = i
        · subst h; rw [hf] at hf'; cases hf'; exact hm
        · exact hno j f' (by omega) hf'⟩
    have found : matchB g f = true → HRun Tryd.prog base (Instr.storeAt tForm (.pointer (some ⟨x, 0, none⟩)) (.agg (fv f).toArray)) H4 fun _ H85 => FAt H85 x f ∧ K (.tuple #[.agg (fv f).toArray, .bool true]) H85 := fun hm =>
      h_sta (vs := fv f) infoF rfl (X24 _ _ hx2) hxb rfl ⟨upd_self _ _ _, hk1 f (ofS_at hf hm hno) _ (ext_new XH hHx)⟩
    by_cases hk : f.kind = g.kind
    · rw [if_pos (by simpa using hk)]
      refine ⟨_, ff b 6 (by decide), _, fa.bit, _, fg0 a, _, g4.kind, ?_⟩
      by_cases h1 : g.kind = 1
      · rw [if_pos (by simpa using h1)]
        refine ⟨_, fg4 a, _, g4.k, _, aq_eqb unBo _ _, ?_⟩
        split
        · rename_i em
          have hm : matchB g f = true := by simp only [matchB, hk, h1]; simpa using em
          exact ⟨_, _, _, _, _, _, _, fa.all, (found hm).use' (fun _ H5 ⟨q1, q2⟩ => ⟨_, q_res rfl rfl q1, q2⟩)⟩
        · rename_i em
          exact next (by simp only [matchB, hk, h1]; simpa using em)
      · rw [if_neg (by simpa using h1)]
        refine ⟨_, aq_eqb unBo _ _, ?_⟩
        have hg1 : (g.kind == 1) = false := by simpa using h1
        split
        · rename_i em
          have hm : matchB g f = true := by simp only [matchB, hk, hg1]; simpa using em
          exact ⟨_, _, _, _, _, _, _, fa.all, (found hm).use' (fun _ H5 ⟨q1, q2⟩ => ⟨_, q_res rfl rfl q1, q2⟩)⟩
        · rename_i em
          exact next (by simp only [matchB, hk, hg1]; simpa using em)
    · rw [if_neg (by simpa using hk)]
      exact next (by simp [matchB, hk])
  · rename_i e
    have e : i = 7 := by
      have : ¬ ((i : Int) < 7) := fun h => e (decide_eq_true h)
      omega
    subst e
    refine ⟨_, _, _, _, _, _, _, (show AQ Tryd.prog (Instr.build tForm #[]) (.agg (fv form0).toArray) from fun W => by kernel_rfl), ?_⟩
    refine h_sta (vs := fv form0) infoF rfl (X3 _ _ hx2) hxb rfl ⟨_, q_res (f := form0) rfl rfl (upd_self _ _ _), hk2 (ofS_none hno) _ (ext_new (X1.trans (X2.trans X3)) hHx)⟩
end
end Go.Proofs.YtjpaichcaaacbabDoor.HL
end
section
set_option linter.unusedVariables false
set_option linter.unusedSimpArgs false
set_option linter.unusedSectionVars false
set_option maxHeartbeats 4000000
namespace Go.Proofs.YtjpaichcaaacbabDoor.HL
open Go Go.Proofs.YtjpaichcaaacbabDoorNum Go.Proofs.YtjpaichcaaacbabDoor.FEv
def sideB (has : Bool) (x at_ : Int) : Bool := if has = true then decide (x ≥ 0) && decide (x < at_) else x == 0
def fromB (f : Form) (g : Gate) : Bool := if f.fr = true then decide (g.frm ≥ 1) && decide (g.frm ≤ 13) else g.frm == 0
def kB (p : Int) (f : Form) (g : Gate) : Bool := if f.k = true then decide (g.k < p) else (g.k == 0 || f.bit)
def rightB (p : Int) (g : Gate) (at_ : Int) : Bool := match ofS g with
  | none => false
  | some f => fromB f g && kB p f g && (sideB f.a g.a at_ && sideB f.b g.b at_)
section
variable {base : Nat} {H : HH} {K : Value → HH → Prop} {ad : Addr}
theorem h_side {has : Bool} {x at_ : Int} (hq : QRun Tryd.prog (Instr.loadAt 3 (.pointer (some ad))) H (.int .i64 at_)) (hk : K (.bool (sideB has x at_)) H) : HCall Tryd.prog base 34 #[.bool has, .int .i64 x, .pointer (some ad)] H K := by
  refine circuit_right_1.spec ?_
  unfold circuit_right_1.sh
  unfold sideB at hk
  cases has with
  | false =>
    rw [if_pos (by decide)]
    rw [if_neg (by decide)] at hk
    split
    · rename_i e
      rw [if_neg (by decide)]
      rwa [e] at hk
    · rename_i e
      have e : (x == 0) = true := by simpa using e
      rwa [e] at hk
  | true =>
    rw [if_neg (by decide), if_pos rfl]
    rw [if_pos rfl] at hk
    split
    · rename_i e
      refine ⟨_, hq, ?_⟩
      rwa [e, Bool.true_and] at hk
    · rename_i e
      have e : decide (x ≥ 0) = false := by simpa using e
      rwa [e, Bool.false_and] at hk
variable {a : Addr} {b : Nat} {g : Gate} {f : Form} {p at_ : Int}
theorem r1 {x9 x10 : Bool} (ga : GAt H a g) (fa : FAt H b f) (hq : QRun Tryd.prog (Instr.loadAt 3 (.pointer (some ad))) H (.int .i64 at_)) (hk : K (.bool (x9 && x10 && (sideB f.a g.a at_ && sideB f.b g.b at_))) H) :
    circuit_right.R1 base [.pointer (some a), .pointer (some ad), .pointer (some ⟨b, 0, none⟩), .bool x9, .bool x10] H K := by
  refine circuit_right.cut1 ?_
  unfold circuit_right.T1 circuit_right.S1
  cases x9 with
  | false => rw [if_neg (by decide)]; exact hk
  | true =>
    rw [if_pos rfl]
    cases x10 with
    | false => rw [if_neg (by decide)]; exact hk
    | true =>
      rw [if_pos rfl]
      refine ⟨_, ff b 4 (by decide), _, fa.sa, _, fg2 a, _, ga.sa, h_side hq ⟨_, rfl, ?_⟩⟩
      split
      · rename_i e
        refine ⟨_, ff b 5 (by decide), _, fa.sb, _, fg3 a, _, ga.sb, h_side hq ⟨_, rfl, ?_⟩⟩
        rw [e] at hk
        simpa using hk
      · rename_i e
        have e : sideB f.a g.a at_ = false := by simpa using e
        rw [e] at hk
        simpa using hk
theorem r0 {x9 : Bool} (ga : GAt H a g) (fa : FAt H b f) (hq : QRun Tryd.prog (Instr.loadAt 3 (.pointer (some ad))) H (.int .i64 at_)) (hk : K (.bool (x9 && kB p f g && (sideB f.a g.a at_ && sideB f.b g.b at_))) H) :
    circuit_right.R0 base [.int .u64 p, .pointer (some a), .pointer (some ad), .pointer (some ⟨b, 0, none⟩), .bool x9] H K := by
  refine circuit_right.cut0 ?_
  unfold circuit_right.T0 circuit_right.S0
  have qk := fa.k
  unfold kB at hk
  cases hfk : f.k with
  | false =>
    rw [hfk] at qk hk
    rw [if_neg (by decide)] at hk
    refine ⟨_, ff b 3 (by decide), _, qk, ?_⟩
    rw [if_pos (by decide)]
    refine ⟨_, fg4 a, _, ga.k, ?_⟩
    split
    · rename_i e
      rw [e, Bool.false_or] at hk
      refine ⟨_, ff b 6 (by decide), _, fa.bit, ?_⟩
      split
      · rename_i e2
        rw [e2] at hk
        refine ⟨_, ff b 3 (by decide), _, qk, ?_⟩
        rw [if_neg (by decide)]
        exact r1 ga fa hq hk
      · rename_i e2
        rw [show f.bit = true by simpa using e2] at hk
        exact r1 ga fa hq hk
    · rename_i e
      rw [show (g.k == 0) = true by simpa using e, Bool.true_or] at hk
      exact r1 ga fa hq hk
  | true =>
    rw [hfk] at qk hk
    rw [if_pos rfl] at hk
    refine ⟨_, ff b 3 (by decide), _, qk, ?_⟩
    rw [if_neg (by decide)]
    refine ⟨_, ff b 3 (by decide), _, qk, ?_⟩
    rw [if_pos rfl]
    exact ⟨_, fg4 a, _, ga.k, r1 ga fa hq hk⟩
theorem h_right (hG : Gl H) (g : Gate) (p at_ : Int) (hk : ∀ H', Ext H H' → K (.bool (rightB p g at_)) H') : HCall Tryd.prog base 27 #[.int .u64 p, .agg (gv g).toArray, .int .i64 at_] H K := by
  refine circuit_right.spec ?_
  unfold circuit_right.sh
  refine h_gbox (g := g) (fun a H1 X1 ga => ⟨_, rfl, h_box (fun c hc hcb => ⟨_, rfl, ?_⟩)⟩)
  have X2 : Ext H1 (upd H1 c (.cells (Value.int .i64 at_).cells 3)) := Ext.upd hc _
  have hq : QRun Tryd.prog (Instr.loadAt 3 (.pointer (some ⟨c, 0, none⟩))) (upd H1 c (.cells (Value.int .i64 at_).cells 3)) (.int .i64 at_) := q_ld sc3 (by rw [cellH_blk (upd_self _ _ _)]; rfl)
  generalize upd H1 c (.cells (Value.int .i64 at_).cells 3) = H2 at X2 hq ⊢
  have ga2 := ga.ext X2
  have X12 := X1.trans X2
  refine ⟨_, _, _, _, _, ga2.all, ?_⟩
  refine h_of (hG.ext X12) g (fun f hf H3 X3 => ⟨_, _, _, _, _, _, _, _, rfl, h_fvar (f := f) (fun b H4 X4 fa => ?_)⟩) (fun hf H3 X3 => ⟨_, _, _, _, _, _, _, _, rfl, h_fvar (f := form0) (fun b H4 X4 fa => ?_)⟩)
  rotate_left
  · rw [if_pos (by decide)]
    have := hk H4 (X12.trans (X3.trans X4))
    unfold rightB at this
    rwa [hf] at this
  rw [if_neg (by decide)]
  have X34 := X3.trans X4
  have ga4 := ga2.ext X34
  have hq4 : QRun Tryd.prog (Instr.loadAt 3 (.pointer (some ⟨c, 0, none⟩))) H4 (.int .i64 at_) := fun W hs => hq W (fun k o hk => hs k o (X34 k o hk))
  have hk := hk H4 (X12.trans X34)
  unfold rightB at hk
  rw [hf] at hk
  simp only at hk
  unfold fromB at hk
  have qf := fa.fr
  cases hff : f.fr with
  | false =>
    rw [hff] at qf hk
    rw [if_neg (by decide)] at hk
    refine ⟨_, ff b 2 (by decide), _, qf, ?_⟩
    rw [if_pos (by decide)]
    refine ⟨_, fg1 a, _, ga4.frm, ?_⟩
    split
    · rename_i e
      rw [e] at hk
      refine ⟨_, ff b 2 (by decide), _, qf, ?_⟩
      rw [if_neg (by decide)]
      exact r0 ga4 fa hq4 hk
    · rename_i e
      rw [show (g.frm == 0) = true by simpa using e] at hk
      exact r0 ga4 fa hq4 hk
  | true =>
    rw [hff] at qf hk
    rw [if_pos rfl] at hk
    refine ⟨_, ff b 2 (by decide), _, qf, ?_⟩
    rw [if_neg (by decide)]
    refine ⟨_, ff b 2 (by decide), _, qf, ?_⟩
    rw [if_pos rfl]
    refine ⟨_, fg1 a, _, ga4.frm, ?_⟩
    split
    · rename_i e
      rw [e, Bool.true_and] at hk
      exact ⟨_, fg1 a, _, ga4.frm, r0 ga4 fa hq4 hk⟩
    · rename_i e
      rw [show decide (g.frm ≥ 1) = false by simpa using e, Bool.false_and] at hk
      exact r0 ga4 fa hq4 hk
end
end Go.Proofs.YtjpaichcaaacbabDoor.HL
end
section
set_option linter.unusedVariables false
set_option linter.unusedSimpArgs false
set_option linter.unusedSectionVars false
set_option maxHeartbeats 4000000
namespace Go.Proofs.YtjpaichcaaacbabDoor.HL
open Go Go.Proofs.YtjpaichcaaacbabDoorNum Go.Proofs.YtjpaichcaaacbabDoor.FEv
abbrev tC : Nat := 26
abbrev tGates : Nat := 23
abbrev tInts : Nat := 24
theorem unGates : Tryd.prog.underlying tGates = some (.slice tGate) := by kernel_rfl
theorem unInts : Tryd.prog.underlying tInts = some (.slice 3) := by kernel_rfl
theorem scGates : scalarB Tryd.prog tGates = true := by kernel_rfl
theorem scInts : scalarB Tryd.prog tInts = true := by kernel_rfl
def gate0 : Gate := ⟨0, 0, 0, 0, 0⟩
def gc (gs : List Gate) : List Value := gs.flatMap gv
theorem gc_get : ∀ (gs : List Gate) (i : Nat) (g : Gate), gs[i]? = some g → ∀ (j : Nat) (u : Value), (gv g)[j]? = some u → (gc gs)[i * 5 + j]? = some u
  | [], i, g, h, j, u, hu => by simp at h
  | r :: gs, 0, g, h, j, u, hu => by
    cases h
    show (gv r ++ gc gs)[0 * 5 + j]? = some u
    rw [Nat.zero_mul, Nat.zero_add, List.getElem?_append_left (List.getElem?_eq_some_iff.1 hu).1]
    exact hu
  | r :: gs, i + 1, g, h, j, u, hu => by
    have := gc_get gs i g (by simpa using h) j u hu
    show (gv r ++ gc gs)[(i + 1) * 5 + j]? = some u
    have hl : (gv r).length = 5 := rfl
    rw [List.getElem?_append_right (by rw [hl]; omega), hl, show (i + 1) * 5 + j - 5 = i * 5 + j by omega]
    exact this
def Gs (H : HH) (A : Option Addr) (n : Nat) (gs : List Gate) : Prop := n = gs.length ∧ Rd H A (gc gs)
def Outs (H : HH) (A : Option Addr) (n : Nat) (l : List Int) : Prop := n = l.length ∧ Rd H A (is l)
section
variable {base : Nat} {H : HH} {K : Value → HH → Prop} {A A' : Option Addr} {n n' c c' b : Nat} {p : Int} {gs : List Gate} {outs : List Int}
theorem Gs.ext {H' : HH} (h : Gs H A n gs) (he : Ext H H') : Gs H' A n gs := ⟨h.1, h.2.ext he⟩
theorem Outs.ext {H' : HH} (h : Outs H A n outs) (he : Ext H H') : Outs H' A n outs := ⟨h.1, h.2.ext he⟩
theorem Gs.at (h : Gs H A n gs) (c : Nat) {i : Nat} (hi : i < n) : ∃ a, AQ Tryd.prog (Instr.indexAt tGates (.slice A n c) (.int .i64 i)) (.pointer (some a)) ∧ GAt H a (gs.getD i gate0) := by
  obtain ⟨e, h⟩ := h
  have hg : gs[i]? = some (gs.getD i gate0) := by simp [show i < gs.length by omega]
  obtain ⟨ad, rfl, hc⟩ := Rd.at h (gc_get gs i _ hg 0 _ rfl)
  refine ⟨_, aq_ix unGates infoG (by omega) (by omega), fun j u hu => ?_⟩
  obtain ⟨ad', e', hc'⟩ := Rd.at h (gc_get gs i _ hg j u hu)
  cases e'
  rw [Int.toNat_natCast, addr_add']
  exact hc'
theorem Outs.at (h : Outs H A n outs) (c : Nat) {i : Nat} (hi : i < n) : ∃ a, AQ Tryd.prog (Instr.indexAt tInts (.slice A n c) (.int .i64 i)) (.pointer (some a)) ∧ QRun Tryd.prog (Instr.loadAt 3 (.pointer (some a))) H (.int .i64 (outs.getD i 0)) := by
  obtain ⟨e, h⟩ := h
  obtain ⟨ad, rfl, hc⟩ := Rd.at h (i := i) (u := .int .i64 (outs.getD i 0)) (by simp [is, show i < outs.length by omega])
  refine ⟨_, aq_ix unInts info3 (by omega) (by omega), q_ld sc3 ?_⟩
  rw [Int.toNat_natCast, Nat.mul_one]; exact hc
/-- What lies in a circuit's variable. -/
def CB (H : HH) (b : Nat) (p : Int) (A : Option Addr) (n c : Nat) (A' : Option Addr) (n' c' : Nat) : Prop := H b = some (.cells #[.int .u64 p, .slice A n c, .slice A' n' c'] tC (0, 0))
theorem fc0 (b : Nat) : AQ Tryd.prog (Instr.fieldAt tC (.pointer (some ⟨b, 0, none⟩)) 0) (.pointer (some ⟨b, 0, none⟩)) := by
  have := aq_fld (P := Tryd.prog) (s := tC) (f := 0) (off := 0) (sz := 1) (by kernel_rfl) (by decide) ⟨b, 0, none⟩
  rwa [add0] at this
theorem fc1 (b : Nat) : AQ Tryd.prog (Instr.fieldAt tC (.pointer (some ⟨b, 0, none⟩)) 1) (.pointer (some ⟨b, 1, none⟩)) := by
  have := aq_fld (P := Tryd.prog) (s := tC) (f := 1) (off := 1) (sz := 1) (by kernel_rfl) (by decide) ⟨b, 0, none⟩
  rwa [add0] at this
theorem fc2 (b : Nat) : AQ Tryd.prog (Instr.fieldAt tC (.pointer (some ⟨b, 0, none⟩)) 2) (.pointer (some ⟨b, 2, none⟩)) := by
  have := aq_fld (P := Tryd.prog) (s := tC) (f := 2) (off := 2) (sz := 1) (by kernel_rfl) (by decide) ⟨b, 0, none⟩
  rwa [add0] at this
theorem CB.ext {H' : HH} (h : CB H b p A n c A' n' c') (he : Ext H H') : CB H' b p A n c A' n' c' := he _ _ h
theorem CB.qp (h : CB H b p A n c A' n' c') : QRun Tryd.prog (Instr.loadAt 22 (.pointer (some ⟨b, 0, none⟩))) H (.int .u64 p) := q_ld sc22 (by rw [cellH_blk h]; rfl)
theorem CB.qgs (h : CB H b p A n c A' n' c') : QRun Tryd.prog (Instr.loadAt tGates (.pointer (some ⟨b, 1, none⟩))) H (.slice A n c) := q_ld scGates (by rw [cellH_blk h]; rfl)
theorem CB.qouts (h : CB H b p A n c A' n' c') : QRun Tryd.prog (Instr.loadAt tInts (.pointer (some ⟨b, 2, none⟩))) H (.slice A' n' c') := q_ld scInts (by rw [cellH_blk h]; rfl)
theorem CB.all (h : CB H b p A n c A' n' c') : QRun Tryd.prog (Instr.loadAt tC (.pointer (some ⟨b, 0, none⟩))) H (.agg #[.int .u64 p, .slice A n c, .slice A' n' c']) :=
  q_lda (cs := [.int .u64 p, .slice A n c, .slice A' n' c']) (by kernel_rfl) (by kernel_rfl) (fun j u hu => by
    rw [add0, cellH_blk h, ← Array.getElem?_toList]
    exact hu)
theorem h_cbox (hk : ∀ b H', Ext H H' → CB H' b p A n c A' n' c' → K (.pointer (some ⟨b, 0, none⟩)) H') : HRun Tryd.prog base (Instr.box tC (.agg #[.int .u64 p, .slice A n c, .slice A' n' c'])) H K :=
  h_box (fun b hb hbase => hk b _ (Ext.upd hb _) (upd_self _ _ _))
/-- An output that is none. -/
def badO (gs : List Gate) (x : Int) : Bool := decide (x < 0) || decide (x ≥ gs.length)
def validB (p : Int) (gs : List Gate) (outs : List Int) : Bool := supB p && (decide (gs.length ≤ 20000) && (decide (outs.length ≤ 1000) && ((List.range gs.length).all (fun i => rightB p (gs.getD i gate0) i) && !outs.any (badO gs))))
theorem h_bad (hc : CB H b p A gs.length c A' n' c') (x : Int) (hk : K (.bool (badO gs x)) H) : HCall Tryd.prog base 29 #[.int .i64 x, .pointer (some ⟨b, 0, none⟩)] H K := by
  refine circuit_Valid_1.spec ?_
  unfold circuit_Valid_1.sh
  unfold badO at hk
  split
  · rename_i e
    rw [e, Bool.false_or] at hk
    exact ⟨_, fc1 b, _, _, _, hc.qgs, hk⟩
  · rename_i e
    rw [show decide (x < 0) = true by simpa using e, Bool.true_or] at hk
    exact hk
theorem h_index (hc : CB H b p A gs.length c A' n' c') (ho : Outs H A' n' outs) (hz : outs.length ≤ 100000) (hk : ∀ z : Int, decide (z ≥ 0) = outs.any (badO gs) → K (.int .i64 z) H) : HCall Tryd.prog base 35 #[.slice A' n' c', .func (.func 29) #[] #[.pointer (some ⟨b, 0, none⟩)]] H K := by
  refine slices_IndexFunc_Lint_int.spec ?_
  unfold slices_IndexFunc_Lint_int.sh
  have e1 := ho.1
  refine slices_IndexFunc_Lint_int.loop0 (fun r y H' => H' = H ∧ ∃ i : Nat, y = i ∧ i ≤ n' ∧ r = n' - i ∧ ∀ j, j < i → badO gs (outs.getD j 0) = false) n' ⟨rfl, 0, rfl, Nat.zero_le _, rfl, fun j hj => by omega⟩ ?_
  rintro r y fr H1 ⟨rfl, i, rfl, hi, rfl, hno⟩
  unfold slices_IndexFunc_Lint_int.B0
  split
  · rename_i e
    have e := of_decide_eq_true e
    obtain ⟨a, q1, q2⟩ := ho.at c' (i := i) (by omega)
    refine ⟨a, q1, _, q2, h_bad hc _ ⟨_, rfl, ?_⟩⟩
    split
    · rename_i eb
      refine hk _ ?_
      have : outs.any (badO gs) = true := List.any_eq_true.2 ⟨outs.getD i 0, by
        have : outs.getD i 0 = outs[i]'(by omega) := by simp [show i < outs.length by omega]
        rw [this]; exact List.getElem_mem _, eb⟩
      rw [this]
      exact decide_eq_true (by omega)
    · rename_i eb
      have eb : badO gs (outs.getD i 0) = false := by simpa using eb
      exact ⟨n' - i - 1, by omega, _, rfl, rfl, i + 1, nxt (n := 1000000) (by omega) (by decide), by omega, by omega, fun j hj => by
        by_cases h : j = i
        · rw [h]; exact eb
        · exact hno j (by omega)⟩
  · rename_i e
    have e : ¬ ((i : Int) < (n' : Int)) := fun h => e (decide_eq_true h)
    refine hk _ ?_
    have : outs.any (badO gs) = false := by
      refine List.any_eq_false.2 (fun x hx => ?_)
      obtain ⟨j, hj, rfl⟩ := List.getElem_of_mem hx
      have h1 := hno j (by omega)
      have : outs.getD j 0 = outs[j] := by simp [hj]
      rw [this] at h1
      simp [h1]
    rw [this]
    rfl
theorem h_contains (hc : CB H b p A gs.length c A' n' c') (ho : Outs H A' n' outs) (hz : outs.length ≤ 100000) (hk : K (.bool (outs.any (badO gs))) H) : HCall Tryd.prog base 28 #[.slice A' n' c', .func (.func 29) #[] #[.pointer (some ⟨b, 0, none⟩)]] H K := by
  refine slices_ContainsFunc_Lint_int.spec ?_
  unfold slices_ContainsFunc_Lint_int.sh
  refine h_index hc ho hz (fun z hz => ⟨_, rfl, ?_⟩)
  rw [hz]
  exact hk
theorem h_valid (hG : Gl H) (hg : Gs H A n gs) (ho : Outs H A' n' outs) (hk : ∀ H', Ext H H' → K (.bool (validB p gs outs)) H') : HCall Tryd.prog base 15 #[.agg #[.int .u64 p, .slice A n c, .slice A' n' c']] H K := by
  refine circuit_Valid.spec ?_
  unfold circuit_Valid.sh
  obtain rfl := hg.1
  obtain rfl := ho.1
  refine h_cbox (fun b H1 X1 cb => ⟨_, rfl, _, fc0 b, _, cb.qp, h_fsup (hG.ext X1) p ⟨_, rfl, ?_⟩⟩)
  unfold validB at hk
  split
  rotate_left
  · rename_i e
    have e : supB p = false := by simpa using e
    have := hk H1 X1
    rwa [e, Bool.false_and] at this
  rename_i e
  rw [show supB p = true by simpa using e] at hk
  simp only [Bool.true_and] at hk
  refine ⟨_, fc1 b, _, _, _, cb.qgs, ?_⟩
  split
  rotate_left
  · rename_i e
    have e : ¬ gs.length ≤ 20000 := by
      intro h
      exact e (decide_eq_false (by omega))
    have := hk H1 X1
    rwa [decide_eq_false e, Bool.false_and] at this
  rename_i e
  have e := of_decide_eq_false e
  rw [decide_eq_true (show gs.length ≤ 20000 by omega)] at hk
  simp only [Bool.true_and] at hk
  refine ⟨_, fc2 b, _, _, _, cb.qouts, ?_⟩
  split
  · rename_i e
    have e := of_decide_eq_true e
    have := hk H1 X1
    rwa [decide_eq_false (show ¬ outs.length ≤ 1000 by omega), Bool.false_and] at this
  rename_i e1
  have e1 : ¬ ((outs.length : Int) > 1000) := fun h => e1 (decide_eq_true h)
  rw [decide_eq_true (show outs.length ≤ 1000 by omega)] at hk
  simp only [Bool.true_and] at hk
  refine ⟨_, fc1 b, _, _, _, cb.qgs, ?_⟩
  refine circuit_Valid.loop0 (fun r y H' => ∃ i : Nat, y = i ∧ i ≤ gs.length ∧ r = gs.length - i ∧ Ext H1 H' ∧ ∀ j, j < i → rightB p (gs.getD j gate0) j = true) gs.length ⟨0, rfl, Nat.zero_le _, rfl, .refl _, fun j hj => by omega⟩ ?_
  rintro r y fr H2 ⟨i, rfl, hi, rfl, X2, hyes⟩
  unfold circuit_Valid.B0
  split
  · rename_i e2
    have e2 := of_decide_eq_true e2
    obtain ⟨a, q1, q2⟩ := ((hg.ext X1).ext X2).at c (i := i) (by omega)
    refine ⟨a, q1, _, _, _, _, _, q2.all, h_gvar (fun a' H3 X3 ga => ?_)⟩
    have X23 := X2.trans X3
    refine ⟨_, fc0 b, _, (cb.ext X23).qp, _, _, _, _, _, ga.all, h_right (hG.ext (X1.trans X23)) _ p i (fun H4 X4 => ⟨_, rfl, ?_⟩)⟩
    split
    · rename_i er
      have er : rightB p (gs.getD i gate0) i = false := by simpa using er
      have := hk H4 (X1.trans (X23.trans X4))
      have ha : (List.range gs.length).all (fun i => rightB p (gs.getD i gate0) i) = false := List.all_eq_false.2 ⟨i, List.mem_range.2 (by omega), by simp only [er]; decide⟩
      rwa [ha, Bool.false_and] at this
    · rename_i er
      have er : rightB p (gs.getD i gate0) i = true := by simpa using er
      exact ⟨gs.length - i - 1, by omega, _, rfl, i + 1, nxt (n := 1000000) (by omega) (by decide), by omega, by omega, X23.trans X4, fun j hj => by
        by_cases h : j = i
        · rw [h]; exact er
        · exact hyes j (by omega)⟩
  · rename_i e2
    have e2 : ¬ ((i : Int) < (gs.length : Int)) := fun h => e2 (decide_eq_true h)
    have ha : (List.range gs.length).all (fun i => rightB p (gs.getD i gate0) i) = true := List.all_eq_true.2 (fun j hj => hyes j (by have := List.mem_range.1 hj; omega))
    rw [ha] at hk
    simp only [Bool.true_and] at hk
    refine ⟨_, fc2 b, _, _, _, (cb.ext X2).qouts, h_contains (cb.ext X2) ((ho.ext X1).ext X2) (by omega) ⟨_, rfl, hk H2 (X1.trans X2)⟩⟩
end
end Go.Proofs.YtjpaichcaaacbabDoor.HL
end
section
set_option linter.unusedVariables false
set_option linter.unusedSimpArgs false
set_option linter.unusedSectionVars false
set_option maxHeartbeats 4000000
namespace Go.Proofs.YtjpaichcaaacbabDoor.HL
open Go Go.Proofs.YtjpaichcaaacbabDoorNum Go.Proofs.YtjpaichcaaacbabDoor.FEv Go.Proofs.YtjpaichcaaacbabDoorW.PrintWords
theorem eq_gate (g g' : Gate) (W : World) : (Op.equalIn (9999 + 1) tGate (.agg (gv g).toArray) (.agg (gv g').toArray)).run Tryd.prog W = .ok (g.kind == g'.kind && (g.frm == g'.frm && (g.a == g'.a && (g.b == g'.b && g.k == g'.k)))) W := by
  refine eqA_of Tryd.underlying50 (by kernel_rfl) ?_
  refine eqf_cons rfl (a := .int .i64 g.kind) (b := .int .i64 g'.kind) (by kernel_rfl) (by kernel_rfl) (run_equalIn_int _ _ _ _ .i64 _ _ (by kernel_rfl)) ?_
  refine eqf_cons rfl (a := .int .i64 g.frm) (b := .int .i64 g'.frm) (by kernel_rfl) (by kernel_rfl) (run_equalIn_int _ _ _ _ .i64 _ _ (by kernel_rfl)) ?_
  refine eqf_cons rfl (a := .int .i64 g.a) (b := .int .i64 g'.a) (by kernel_rfl) (by kernel_rfl) (run_equalIn_int _ _ _ _ .i64 _ _ (by kernel_rfl)) ?_
  refine eqf_cons rfl (a := .int .i64 g.b) (b := .int .i64 g'.b) (by kernel_rfl) (by kernel_rfl) (run_equalIn_int _ _ _ _ .i64 _ _ (by kernel_rfl)) ?_
  exact eqf_last rfl (a := .int .u64 g.k) (b := .int .u64 g'.k) (by kernel_rfl) (by kernel_rfl) (run_equalIn_int _ _ _ _ .u64 _ _ (by kernel_rfl))
theorem gate_eq (g g' : Gate) : (g.kind == g'.kind && (g.frm == g'.frm && (g.a == g'.a && (g.b == g'.b && g.k == g'.k)))) = decide (g = g') := by
  obtain ⟨a, b, c, d, e⟩ := g
  obtain ⟨a', b', c', d', e'⟩ := g'
  simp only [Gate.mk.injEq, Bool.decide_and]
  rfl
end Go.Proofs.YtjpaichcaaacbabDoor.HL
end
section
set_option linter.unusedVariables false
set_option linter.unusedSimpArgs false
set_option linter.unusedSectionVars false
set_option maxHeartbeats 4000000
namespace Go.Proofs.YtjpaichcaaacbabDoor.HL
open Go Go.Proofs.YtjpaichcaaacbabDoorNum Go.Proofs.YtjpaichcaaacbabDoor.FEv
def refB (p i : Int) (g : Gate) : Bool :=
  if g.kind = 1 then decide (g = ⟨g.kind, g.frm, 0, 0, g.k⟩) && (decide (g.frm ≥ 1) && (decide (g.frm ≤ 13) && decide (g.k ≤ 1)))
  else if g.kind = 2 then decide (g = ⟨g.kind, 0, 0, 0, g.k⟩) && decide (g.k < p)
  else if g.kind = 5 then decide (g = ⟨g.kind, 0, g.a, 0, g.k⟩) && (decide (g.k < p) && (decide (g.a ≥ 0) && decide (g.a < i)))
  else if g.kind = 3 ∨ g.kind = 4 ∨ g.kind = 6 then decide (g = ⟨g.kind, 0, g.a, g.b, 0⟩) && (decide (g.a ≥ 0) && (decide (g.a < i) && (decide (g.b ≥ 0) && decide (g.b < i))))
  else false
section
variable {base : Nat} {H F : HH} {K : Value → HH → Prop} {a : Addr} {b : Nat} {g g' g'' : Gate} {p i : Int}
/-- A gate's variable of the call's own, over what stays known. -/
structure Bare (base : Nat) (F H : HH) (b : Nat) (g : Gate) : Prop where
  ext : Ext F H
  new : F b = none
  own : base ≤ b
  at_ : H b = some (.cells (gv g).toArray tGate (0, 0))
theorem Bare.gat (h : Bare base F H b g) : GAt H ⟨b, 0, none⟩ g := gat_blk h.at_
theorem h_bare {old : Value} {C : Addr → HH → Prop} (hk : ∀ b H', Bare base H H' b g → C ⟨b, 0, none⟩ H') :
    HRun Tryd.prog base (Instr.alloc tGate true old) H fun v H1 => ∃ a : Addr, v = .pointer (some a) ∧ HRun Tryd.prog base (Instr.storeAt tGate (.pointer (some a)) (.agg (gv g).toArray)) H1 fun _ H2 => C a H2 :=
  h_var (vs := gv g) (z := .agg (gv gate0).toArray) (by kernel_rfl) rfl infoG rfl (fun b H' he hbase hn hb => hk _ H' ⟨he, hn, hbase, hb⟩)
theorem fb (b j : Nat) (hj : j < 5) : AQ Tryd.prog (Instr.fieldAt tGate (.pointer (some ⟨b, 0, none⟩)) j) (.pointer (some ⟨b, j, none⟩)) := by
  match j, hj with
  | 0, _ => have := fg0 ⟨b, 0, none⟩; rwa [add0] at this
  | 1, _ => have := fg1 ⟨b, 0, none⟩; rwa [add0] at this
  | 2, _ => have := fg2 ⟨b, 0, none⟩; rwa [add0] at this
  | 3, _ => have := fg3 ⟨b, 0, none⟩; rwa [add0] at this
  | 4, _ => have := fg4 ⟨b, 0, none⟩; rwa [add0] at this
end
end Go.Proofs.YtjpaichcaaacbabDoor.HL
end
section
set_option linter.unusedVariables false
set_option linter.unusedSimpArgs false
set_option linter.unusedSectionVars false
set_option maxHeartbeats 4000000
namespace Go.Proofs.YtjpaichcaaacbabDoor.HL
open Go Go.Proofs.YtjpaichcaaacbabDoorNum Go.Proofs.YtjpaichcaaacbabDoor.FEv
theorem right_ref {p i : Int} {g : Gate} (h0 : 0 ≤ g.k) : rightB p g i = refB p i g := by
  obtain ⟨kind, frm, a, b, k⟩ := g
  simp only at h0
  unfold rightB refB
  by_cases k1 : kind = 1
  · subst k1
    by_cases hk : k = 1
    · subst hk
      have e : ofS ⟨1, frm, a, b, 1⟩ = some ⟨⟨#[98, 105, 116]⟩, 1, true, false, false, false, true⟩ := rfl
      rw [e, Bool.eq_iff_iff]
      simp [fromB, kB, sideB]
      omega
    · have e : ofS ⟨1, frm, a, b, k⟩ = some ⟨⟨#[105, 110]⟩, 1, true, false, false, false, false⟩ := by
        have hkf : (k == 1) = false := by simpa using hk
        simp [ofS, formL, matchB, List.find?, hkf]
      rw [e, Bool.eq_iff_iff]
      simp [fromB, kB, sideB]
      omega
  by_cases k2 : kind = 2
  · subst k2
    have e : ofS ⟨2, frm, a, b, k⟩ = some ⟨⟨#[99, 111, 110, 115, 116]⟩, 2, false, true, false, false, false⟩ := rfl
    rw [e, Bool.eq_iff_iff]
    simp [fromB, kB, sideB]
    omega
  by_cases k5 : kind = 5
  · subst k5
    have e : ofS ⟨5, frm, a, b, k⟩ = some ⟨⟨#[115, 99, 97, 108, 101]⟩, 5, false, true, true, false, false⟩ := rfl
    rw [e, Bool.eq_iff_iff]
    simp [fromB, kB, sideB]
    omega
  by_cases k3 : kind = 3
  · subst k3
    have e : ofS ⟨3, frm, a, b, k⟩ = some ⟨⟨#[97, 100, 100]⟩, 3, false, false, true, true, false⟩ := rfl
    rw [e, Bool.eq_iff_iff]
    simp [fromB, kB, sideB]
    omega
  by_cases k4 : kind = 4
  · subst k4
    have e : ofS ⟨4, frm, a, b, k⟩ = some ⟨⟨#[115, 117, 98]⟩, 4, false, false, true, true, false⟩ := rfl
    rw [e, Bool.eq_iff_iff]
    simp [fromB, kB, sideB]
    omega
  by_cases k6 : kind = 6
  · subst k6
    have e : ofS ⟨6, frm, a, b, k⟩ = some ⟨⟨#[109, 117, 108]⟩, 6, false, false, true, true, false⟩ := rfl
    rw [e, Bool.eq_iff_iff]
    simp [fromB, kB, sideB]
    omega
  have e : ofS ⟨kind, frm, a, b, k⟩ = none := by
    unfold ofS
    refine List.find?_eq_none.2 (fun f hf => ?_)
    simp only [formL, List.mem_cons, List.not_mem_nil, or_false] at hf
    rcases hf with rfl | rfl | rfl | rfl | rfl | rfl | rfl <;> simp [matchB] <;> omega
  rw [e]
  simp [k1, k2, k3, k4, k5, k6]
section
end
end Go.Proofs.YtjpaichcaaacbabDoor.HL
end
section
set_option linter.unusedVariables false
set_option linter.unusedSimpArgs false
set_option linter.unusedSectionVars false
set_option maxHeartbeats 4000000
namespace Go.Proofs.YtjpaichcaaacbabDoor.HL
open Go Go.Proofs.YtjpaichcaaacbabDoorNum Go.Proofs.YtjpaichcaaacbabDoor.FEv
/-- A gate that reads the inputs of a party. -/
def isIn (party : Int) (g : Gate) : Bool := g.kind == 1 && g.frm == party
/-- How many of the first k gates read a party's inputs. -/
def cnt (gs : List Gate) (k : Nat) (party : Int) : Nat := ((gs.take k).filter (isIn party)).length
theorem cnt_succ {gs : List Gate} {k : Nat} (h : k < gs.length) (party : Int) : cnt gs (k + 1) party = cnt gs k party + if isIn party (gs.getD k gate0) = true then 1 else 0 := by
  unfold cnt
  rw [List.take_add_one, List.getElem?_eq_getElem h]
  have : gs.getD k gate0 = gs[k] := by simp [h]
  rw [this, List.filter_append, List.length_append]
  cases hi : isIn party gs[k] <;> simp [List.filter, hi]
theorem cnt_le (gs : List Gate) (k : Nat) (party : Int) : cnt gs k party ≤ k := by
  unfold cnt
  have h1 := List.length_filter_le (isIn party) (gs.take k)
  rw [List.length_take] at h1
  omega
section
end
end Go.Proofs.YtjpaichcaaacbabDoor.HL
end
section
set_option linter.unusedVariables false
set_option linter.unusedSimpArgs false
set_option linter.unusedSectionVars false
set_option maxHeartbeats 4000000
namespace Go.Proofs.YtjpaichcaaacbabDoor.HL
open Go Go.Proofs.YtjpaichcaaacbabDoorNum Go.Proofs.YtjpaichcaaacbabDoor.FEv
/-- A gate that reads the inputs of a party that is none. -/
def farB (k : Nat) (g : Gate) : Bool := g.kind == 1 && decide (g.frm > k)
def rowB (p : Int) (gs : List Gate) (j : Nat) (l : List Int) : Bool := decide (l.length = cnt gs gs.length ((j : Int) + 1)) && l.all (fun x => decide (x < p))
def fitsB (p : Int) (gs : List Gate) (ins : List (List Int)) : Bool := !gs.any (farB ins.length) && (List.range ins.length).all (fun j => rowB p gs j (ins.getD j []))
section
end
end Go.Proofs.YtjpaichcaaacbabDoor.HL
end
section
set_option linter.unusedVariables false
set_option linter.unusedSimpArgs false
set_option linter.unusedSectionVars false
set_option maxHeartbeats 4000000
namespace Go.Proofs.YtjpaichcaaacbabDoor.HL
open Go Go.Proofs.YtjpaichcaaacbabDoorNum Go.Proofs.YtjpaichcaaacbabDoor.FEv
structure Few (gs : List Gate) (outs : List Int) (ins : List (List Int)) (most : Nat) : Prop where
  gates : gs.length ≤ most
  outsL : outs.length ≤ most
  parties : ins.length ≤ 20
  rows : ∀ l ∈ ins, l.length ≤ most
section
variable {base : Nat} {H : HH} {K : Value → HH → Prop} {A A' B : Option Addr} {n n' c c' m d b : Nat} {p : Int} {gs : List Gate} {outs : List Int} {ins : List (List Int)}
theorem h_few (hg : Gs H A n gs) (ho : Outs H A' n' outs) (hi : Mat H B m ins) (most : Nat) (hk1 : Few gs outs ins most → ∀ H', Ext H H' → K (.bool true) H') (hk2 : ∀ H', Ext H H' → K (.bool false) H') : HCall Tryd.prog base 9 #[.agg #[.int .u64 p, .slice A n c, .slice A' n' c'], .slice B m d, .int .i64 most] H K := by
  refine privityref33_Few.spec ?_
  unfold privityref33_Few.sh
  obtain rfl := hg.1
  obtain rfl := ho.1
  obtain rfl := hi.1
  refine h_cbox (fun b H1 X1 cb => ⟨_, rfl, _, fc1 b, _, _, _, cb.qgs, ?_⟩)
  split
  rotate_left
  · exact hk2 H1 X1
  rename_i e1
  have e1 := of_decide_eq_false e1
  refine ⟨_, fc2 b, _, _, _, cb.qouts, ?_⟩
  split
  rotate_left
  · exact hk2 H1 X1
  rename_i e2
  have e2 := of_decide_eq_false e2
  split
  · exact hk2 H1 X1
  rename_i e3
  have e3 : ¬ ((ins.length : Int) > 20) := fun h => e3 (decide_eq_true h)
  refine privityref33_Few.loop0 (fun r y H' => H' = H1 ∧ ∃ i : Nat, y = i ∧ i ≤ ins.length ∧ r = ins.length - i ∧ ∀ j, j < i → (ins.getD j []).length ≤ most) ins.length ⟨rfl, 0, rfl, Nat.zero_le _, rfl, fun j hj => by omega⟩ ?_
  rintro r y fr H2 ⟨rfl, i, rfl, hi', rfl, hno⟩
  unfold privityref33_Few.B0
  split
  · rename_i e4
    have e4 := of_decide_eq_true e4
    obtain ⟨a, q1, A2, c2, q2, q3⟩ := (hi.ext X1).at d (i := i) (by omega) e4
    rw [Int.toNat_natCast] at q2 q3
    refine ⟨a, q1, _, _, _, q2, ?_⟩
    split
    · exact hk2 _ X1
    · rename_i e5
      have e5 : ¬ (((ins.getD i []).length : Int) > (most : Int)) := fun h => e5 (decide_eq_true h)
      exact ⟨ins.length - i - 1, by omega, _, rfl, rfl, i + 1, nxt (n := 1000000) (by omega) (by decide), by omega, by omega, fun j hj => by
        by_cases h : j = i
        · rw [h]; omega
        · exact hno j (by omega)⟩
  · rename_i e4
    have e4 : ¬ ((i : Int) < (ins.length : Int)) := fun h => e4 (decide_eq_true h)
    refine hk1 ⟨by omega, by omega, by omega, fun l hl => ?_⟩ _ X1
    obtain ⟨j, hj, rfl⟩ := List.getElem_of_mem hl
    have := hno j (by omega)
    have e9 : ins.getD j [] = ins[j] := by simp [hj]
    rwa [e9] at this
end
end Go.Proofs.YtjpaichcaaacbabDoor.HL
end
section
set_option linter.unusedVariables false
set_option linter.unusedSimpArgs false
set_option linter.unusedSectionVars false
set_option maxHeartbeats 2000000
namespace Go.Proofs.YtjpaichcaaacbabDoor.HL
open Go Go.Proofs.YtjpaichcaaacbabDoorNum Go.Proofs.YtjpaichcaaacbabDoor.FEv
section
variable {gs : List Gate} {l : List Int} {party : Int} {ins : List (List Int)} {P : Int}
theorem cnt_mono {i k : Nat} (h : i ≤ k) (party : Int) : cnt gs i party ≤ cnt gs k party := by
  unfold cnt
  have e : gs.take k = gs.take i ++ (gs.take k).drop i := by
    have := (List.take_append_drop i (gs.take k)).symm
    rwa [List.take_take, Nat.min_eq_left h] at this
  rw [e, List.filter_append, List.length_append]
  omega
theorem cnt_lt {i k : Nat} (h : i < k) (hk : k ≤ gs.length) (hi : isIn party (gs.getD i gate0) = true) : cnt gs i party < cnt gs k party := by
  have h1 := cnt_succ (gs := gs) (k := i) (by omega) party
  rw [if_pos hi] at h1
  have h2 := cnt_mono (gs := gs) (show i + 1 ≤ k from h) party
  omega
def isBit (party : Int) (g : Gate) : Bool := isIn party g && g.k == 1
def badR (gs : List Gate) (l : List Int) (party : Int) (i : Nat) : Bool := (List.range i).any fun t => isBit party (gs.getD t gate0) && decide (l.getD (cnt gs t party) 0 > 1)
theorem badR_succ (i : Nat) : badR gs l party (i + 1) = (badR gs l party i || (isBit party (gs.getD i gate0) && decide (l.getD (cnt gs i party) 0 > 1))) := by
  unfold badR
  rw [List.range_succ, List.any_append, List.any_cons, List.any_nil, Bool.or_false]
def effR (gs : List Gate) (l : List Int) (party : Int) : List Int := if badR gs l party gs.length = true then List.replicate l.length 0 else l
def effL (gs : List Gate) (ins : List (List Int)) : List (List Int) := (List.range ins.length).map fun j => effR gs (ins.getD j []) ((j : Int) + 1)
@[simp] theorem effR_len : (effR gs l party).length = l.length := by unfold effR; split <;> simp
@[simp] theorem effL_len : (effL gs ins).length = ins.length := by simp [effL]
theorem effL_get {j : Nat} (h : j < ins.length) : (effL gs ins).getD j [] = effR gs (ins.getD j []) ((j : Int) + 1) := by
  unfold effL
  rw [List.getD_eq_getElem?_getD, List.getElem?_map, List.getElem?_range h]; rfl
theorem effR_mem {x : Int} (hx : x ∈ effR gs l party) : x = 0 ∨ x ∈ l := by
  unfold effR at hx
  split at hx
  · exact .inl (List.mem_replicate.1 hx).2
  · exact .inr hx
theorem fitsB_iff : fitsB P gs ins = true ↔ (∀ g ∈ gs, g.kind = 1 → g.frm ≤ ins.length) ∧ ∀ j, j < ins.length → (ins.getD j []).length = cnt gs gs.length ((j : Int) + 1) ∧ ∀ x ∈ ins.getD j [], x < P := by
  unfold fitsB
  rw [Bool.and_eq_true, List.all_eq_true, Bool.not_eq_true', List.any_eq_false]
  constructor
  · rintro ⟨h1, h2⟩
    refine ⟨fun g hg hk => ?_, fun j hj => ?_⟩
    · have := h1 g hg
      unfold farB at this
      rw [hk] at this
      simpa using this
    · have := h2 j (List.mem_range.2 hj)
      unfold rowB at this
      rw [Bool.and_eq_true, List.all_eq_true] at this
      exact ⟨of_decide_eq_true this.1, fun x hx => of_decide_eq_true (this.2 x hx)⟩
  · rintro ⟨h1, h2⟩
    refine ⟨fun g hg hk => ?_, fun j hj => ?_⟩
    · unfold farB at hk
      rw [Bool.and_eq_true, beq_iff_eq] at hk
      have := h1 g hg hk.1
      have := of_decide_eq_true hk.2
      omega
    · obtain ⟨h3, h4⟩ := h2 j (List.mem_range.1 hj)
      unfold rowB
      rw [Bool.and_eq_true, List.all_eq_true]
      exact ⟨decide_eq_true h3, fun x hx => decide_eq_true (h4 x hx)⟩
structure GOK (P : Int) (i : Nat) (g : Gate) : Prop where
  kinds : g.kind = 1 ∨ g.kind = 2 ∨ g.kind = 3 ∨ g.kind = 4 ∨ g.kind = 5 ∨ g.kind = 6
  inp : g.kind = 1 → 1 ≤ g.frm ∧ g.frm ≤ 13 ∧ g.k ≤ 1
  con : g.kind = 2 → g.k < P
  sc : g.kind = 5 → g.k < P ∧ 0 ≤ g.a ∧ g.a < i
  two : (g.kind = 3 ∨ g.kind = 4 ∨ g.kind = 6) → 0 ≤ g.a ∧ g.a < i ∧ 0 ≤ g.b ∧ g.b < i
theorem gok_of {i : Nat} {g : Gate} (h : refB P i g = true) : GOK P i g := by
  unfold refB at h
  by_cases k1 : g.kind = 1
  · rw [if_pos k1] at h
    simp only [Bool.and_eq_true, decide_eq_true_eq] at h
    exact ⟨by omega, fun _ => ⟨h.2.1, h.2.2.1, h.2.2.2⟩, by omega, by omega, by omega⟩
  rw [if_neg k1] at h
  by_cases k2 : g.kind = 2
  · rw [if_pos k2] at h
    simp only [Bool.and_eq_true, decide_eq_true_eq] at h
    exact ⟨by omega, by omega, fun _ => h.2, by omega, by omega⟩
  rw [if_neg k2] at h
  by_cases k5 : g.kind = 5
  · rw [if_pos k5] at h
    simp only [Bool.and_eq_true, decide_eq_true_eq] at h
    exact ⟨by omega, by omega, by omega, fun _ => ⟨h.2.1, h.2.2.1, h.2.2.2⟩, by omega⟩
  rw [if_neg k5] at h
  by_cases k3 : g.kind = 3 ∨ g.kind = 4 ∨ g.kind = 6
  · rw [if_pos k3] at h
    simp only [Bool.and_eq_true, decide_eq_true_eq] at h
    exact ⟨by omega, by omega, by omega, by omega, fun _ => ⟨h.2.1, h.2.2.1, h.2.2.2.1, h.2.2.2.2⟩⟩
  rw [if_neg k3] at h
  cases h
structure VOK (P : Int) (gs : List Gate) (outs : List Int) : Prop where
  sup : supB P = true
  len : gs.length ≤ 20000
  olen : outs.length ≤ 1000
  gate : ∀ i, i < gs.length → rightB P (gs.getD i gate0) i = true
  outs : ∀ x ∈ outs, 0 ≤ x ∧ x < gs.length
theorem validB_iff {outs : List Int} : validB P gs outs = true ↔ VOK P gs outs := by
  unfold validB
  simp only [Bool.and_eq_true, decide_eq_true_eq, List.all_eq_true, List.mem_range, Bool.not_eq_true', List.any_eq_false]
  constructor
  · rintro ⟨h1, h2, h3, h4, h5⟩
    refine ⟨h1, h2, h3, h4, fun x hx => ?_⟩
    have := h5 x hx
    unfold badO at this
    rw [Bool.or_eq_true, decide_eq_true_eq, decide_eq_true_eq] at this
    omega
  · rintro ⟨h1, h2, h3, h4, h5⟩
    refine ⟨h1, h2, h3, h4, fun x hx => ?_⟩
    have := h5 x hx
    unfold badO
    rw [Bool.or_eq_true, decide_eq_true_eq, decide_eq_true_eq]
    omega
theorem nn_get (hnn : ∀ g ∈ gs, 0 ≤ g.k) (i : Nat) : 0 ≤ (gs.getD i gate0).k := by
  rw [List.getD_eq_getElem?_getD]
  cases e : gs[i]? with
  | none => exact Int.le_refl _
  | some g => exact hnn g (List.mem_of_getElem? e)
theorem VOK.gok {outs : List Int} (h : VOK P gs outs) (hnn : ∀ g ∈ gs, 0 ≤ g.k) {i : Nat} (hi : i < gs.length) : GOK P i (gs.getD i gate0) := by
  have := h.gate i hi
  rw [right_ref (nn_get hnn i)] at this
  exact gok_of this
theorem getD_memG {i : Nat} (h : i < gs.length) : gs.getD i gate0 ∈ gs := by
  have : gs.getD i gate0 = gs[i] := by simp [h]
  rw [this]; exact List.getElem_mem _
theorem getD_memL {i : Nat} (h : i < ins.length) : ins.getD i [] ∈ ins := by
  have : ins.getD i [] = ins[i] := by simp [h]
  rw [this]; exact List.getElem_mem _
end
section
variable {p : Nat} [NeZero p] {gs gs' : List Gate} {w w' : List (List (Fin p))} {ins : List (List Int)}
def stepV (gs : List Gate) (w : List (List (Fin p))) (v : List (Fin p)) (i : Nat) : Fin p :=
  if (gs.getD i gate0).kind = 1 then cf (rowL w ((gs.getD i gate0).frm - 1).toNat) (cnt gs i (gs.getD i gate0).frm)
  else if (gs.getD i gate0).kind = 2 then E (gs.getD i gate0).k
  else if (gs.getD i gate0).kind = 3 then cf v (gs.getD i gate0).a.toNat + cf v (gs.getD i gate0).b.toNat
  else if (gs.getD i gate0).kind = 4 then cf v (gs.getD i gate0).a.toNat - cf v (gs.getD i gate0).b.toNat
  else if (gs.getD i gate0).kind = 5 then E (gs.getD i gate0).k * cf v (gs.getD i gate0).a.toNat
  else cf v (gs.getD i gate0).a.toNat * cf v (gs.getD i gate0).b.toNat
def evL (gs : List Gate) (w : List (List (Fin p))) : Nat → List (Fin p)
  | 0 => []
  | i + 1 => evL gs w i ++ [stepV gs w (evL gs w i) i]
@[simp] theorem evL_len : ∀ i, (evL gs w i).length = i
  | 0 => rfl
  | i + 1 => by rw [evL, List.length_append, evL_len i]; rfl
theorem evL_cf {i : Nat} : ∀ {n : Nat}, i < n → cf (evL gs w n) i = stepV gs w (evL gs w i) i
  | 0, h => by omega
  | n + 1, h => by
    rw [evL, cf_append, evL_len]
    by_cases e : i < n
    · rw [if_pos e]; exact evL_cf e
    · have : i = n := by omega
      subst this
      rw [if_neg (by omega), Nat.sub_self, cf_single, if_pos rfl]
theorem evL_old {i j n : Nat} (h : j < i) (hn : i ≤ n) : cf (evL gs w i) j = cf (evL gs w n) j := by rw [evL_cf h, evL_cf (by omega)]
/-- The inputs that count, as elements. -/
def ef (p : Nat) [NeZero p] (gs : List Gate) (ins : List (List Int)) : List (List (Fin p)) := (effL gs ins).map fun l => l.map E
theorem rowL_ef {j : Nat} (h : j < ins.length) : rowL (ef p gs ins) j = (effR gs (ins.getD j []) ((j : Int) + 1)).map E := by
  unfold rowL ef effL
  rw [List.getD_eq_getElem?_getD, List.getElem?_map, List.getElem?_map, List.getElem?_range h]; rfl
theorem V_of {l : List Int} (h : ∀ x ∈ l, 0 ≤ x ∧ x < (p : Int)) : vs (l.map E : List (Fin p)) = l := by
  unfold vs
  rw [List.map_map]
  conv => rhs; rw [← List.map_id l]
  exact List.map_congr_left (fun x hx => V_E_lt (h x hx).1 (h x hx).2)
end
end Go.Proofs.YtjpaichcaaacbabDoor.HL
end
section
set_option linter.unusedVariables false
set_option linter.unusedSimpArgs false
set_option linter.unusedSectionVars false
set_option maxHeartbeats 2000000
namespace Go.Proofs.YtjpaichcaaacbabDoor.HL
open Go Go.Proofs.YtjpaichcaaacbabDoorNum Go.Proofs.YtjpaichcaaacbabDoor.FEv
section
variable {p : Nat} [NeZero p] {gs : List Gate} {ins : List (List Int)} {P : Int}
theorem ext_getD {a b : List (List Int)} (hl : a.length = b.length) (h : ∀ j, j < a.length → a.getD j [] = b.getD j []) : a = b := by
  apply List.ext_getElem hl
  intro j h1 h2
  have := h j h1
  simpa [List.getD_eq_getElem?_getD, h1, h2] using this
end
end Go.Proofs.YtjpaichcaaacbabDoor.HL
end
section
set_option linter.unusedVariables false
set_option linter.unusedSimpArgs false
set_option linter.unusedSectionVars false
set_option maxHeartbeats 4000000
namespace Go.Proofs.YtjpaichcaaacbabDoor.HL
open Go Go.Proofs.YtjpaichcaaacbabDoorNum Go.Proofs.YtjpaichcaaacbabDoor.FEv
abbrev tKn : Nat := 64
theorem fk0 (b : Nat) : AQ Tryd.prog (Instr.fieldAt tKn (.pointer (some ⟨b, 0, none⟩)) 0) (.pointer (some ⟨b, 0, none⟩)) := by
  have := aq_fld (P := Tryd.prog) (s := tKn) (f := 0) (off := 0) (sz := 1) (by kernel_rfl) (by decide) ⟨b, 0, none⟩
  rwa [add0] at this
theorem fk1 (b : Nat) : AQ Tryd.prog (Instr.fieldAt tKn (.pointer (some ⟨b, 0, none⟩)) 1) (.pointer (some ⟨b, 1, none⟩)) := by
  have := aq_fld (P := Tryd.prog) (s := tKn) (f := 1) (off := 1) (sz := 1) (by kernel_rfl) (by decide) ⟨b, 0, none⟩
  rwa [add0] at this
theorem fk2 (b : Nat) : AQ Tryd.prog (Instr.fieldAt tKn (.pointer (some ⟨b, 0, none⟩)) 2) (.pointer (some ⟨b, 2, none⟩)) := by
  have := aq_fld (P := Tryd.prog) (s := tKn) (f := 2) (off := 2) (sz := 1) (by kernel_rfl) (by decide) ⟨b, 0, none⟩
  rwa [add0] at this
section
variable {base : Nat} {H : HH} {K : Value → HH → Prop} {Av Aw : Option Addr} {nv cv nw cw b : Nat} {P : Int}
/-- What lies in the box of what is known. -/
def KB (H : HH) (b : Nat) (P : Int) (Av : Option Addr) (nv cv : Nat) (Aw : Option Addr) (nw cw : Nat) : Prop := H b = some (.cells #[.int .u64 P, .slice Av nv cv, .slice Aw nw cw] tKn (0, 0))
theorem KB.ext {H' : HH} (h : KB H b P Av nv cv Aw nw cw) (he : Ext H H') : KB H' b P Av nv cv Aw nw cw := he _ _ h
theorem KB.qp (h : KB H b P Av nv cv Aw nw cw) : QRun Tryd.prog (Instr.loadAt 22 (.pointer (some ⟨b, 0, none⟩))) H (.int .u64 P) := q_ld sc22 (by rw [cellH_blk h]; rfl)
theorem KB.qv (h : KB H b P Av nv cv Aw nw cw) : QRun Tryd.prog (Instr.loadAt 39 (.pointer (some ⟨b, 1, none⟩))) H (.slice Av nv cv) := q_ld sc32 (by rw [cellH_blk h]; rfl)
theorem KB.qw (h : KB H b P Av nv cv Aw nw cw) : QRun Tryd.prog (Instr.loadAt 35 (.pointer (some ⟨b, 2, none⟩))) H (.slice Aw nw cw) := q_ld sc23 (by rw [cellH_blk h]; rfl)
theorem h_gconst (g : Gate) {x : Value} {y : Addr} (hk : ∀ H', Ext H H' → K (.int .u64 g.k) H') : HCall Tryd.prog base 54 #[.pointer (some y), .agg (gv g).toArray] H K := by
  refine cleartext_gates_2.spec ?_
  unfold cleartext_gates_2.sh
  exact h_gbox (g := g) (fun a H1 X1 ga => ⟨_, rfl, _, fg4 a, _, ga.k, hk H1 X1⟩)
end
section
variable {p : Nat} [NeZero p] {base : Nat} {H : HH} {K : Value → HH → Prop} {Av Aw : Option Addr} {nv cv nw cw b : Nat} {v : List (Fin p)} {g : Gate}
/-- A value that is known, at a gate's side. -/
theorem at_side (hv : Row H Av nv (vs v)) {x : Int} (h0 : 0 ≤ x) (h1 : x < nv) : ∃ a, AQ Tryd.prog (Instr.indexAt 39 (.slice Av nv cv) (.int .i64 x)) (.pointer (some a)) ∧ QRun Tryd.prog (Instr.loadAt 22 (.pointer (some a))) H (.int .u64 (V (cf v x.toNat))) := by
  obtain ⟨a, q1, q2⟩ := hv.at cv h0 h1
  rw [vs_get] at q2
  exact ⟨a, q1, q2⟩
theorem h_gadd (hp : Sup p) (kb : KB H b p Av nv cv Aw nw cw) (hv : Row H Av nv (vs v)) (ha0 : 0 ≤ g.a) (ha1 : g.a < nv) (hb0 : 0 ≤ g.b) (hb1 : g.b < nv) (hk : ∀ H', Ext H H' → K (.int .u64 (V (cf v g.a.toNat + cf v g.b.toNat))) H') : HCall Tryd.prog base 55 #[.pointer (some ⟨b, 0, none⟩), .agg (gv g).toArray] H K := by
  refine cleartext_gates_3.spec ?_
  unfold cleartext_gates_3.sh
  refine h_gbox (g := g) (fun a H1 X1 ga => ?_)
  obtain ⟨a1, q1, q2⟩ := at_side (cv := cv) (hv.ext X1) ha0 ha1
  obtain ⟨a2, r1, r2⟩ := at_side (cv := cv) (hv.ext X1) hb0 hb1
  exact ⟨_, rfl, _, fk0 b, _, (kb.ext X1).qp, _, fk1 b, _, _, _, (kb.ext X1).qv, _, fg2 a, _, ga.sa, a1, q1, _, q2, _, fk1 b, _, _, _, (kb.ext X1).qv, _, fg3 a, _, ga.sb, a2, r1, _, r2, _, h_add hp _ _ ⟨rfl, rfl⟩, hk H1 X1⟩
theorem h_gsub (hp : Sup p) (kb : KB H b p Av nv cv Aw nw cw) (hv : Row H Av nv (vs v)) (ha0 : 0 ≤ g.a) (ha1 : g.a < nv) (hb0 : 0 ≤ g.b) (hb1 : g.b < nv) (hk : ∀ H', Ext H H' → K (.int .u64 (V (cf v g.a.toNat - cf v g.b.toNat))) H') : HCall Tryd.prog base 57 #[.pointer (some ⟨b, 0, none⟩), .agg (gv g).toArray] H K := by
  refine cleartext_gates_4.spec ?_
  unfold cleartext_gates_4.sh
  refine h_gbox (g := g) (fun a H1 X1 ga => ?_)
  obtain ⟨a1, q1, q2⟩ := at_side (cv := cv) (hv.ext X1) ha0 ha1
  obtain ⟨a2, r1, r2⟩ := at_side (cv := cv) (hv.ext X1) hb0 hb1
  exact ⟨_, rfl, _, fk0 b, _, (kb.ext X1).qp, _, fk1 b, _, _, _, (kb.ext X1).qv, _, fg2 a, _, ga.sa, a1, q1, _, q2, _, fk1 b, _, _, _, (kb.ext X1).qv, _, fg3 a, _, ga.sb, a2, r1, _, r2, _, h_sub hp _ _ ⟨rfl, rfl⟩, hk H1 X1⟩
theorem h_gmul (hp : Sup p) (kb : KB H b p Av nv cv Aw nw cw) (hv : Row H Av nv (vs v)) (ha0 : 0 ≤ g.a) (ha1 : g.a < nv) (hb0 : 0 ≤ g.b) (hb1 : g.b < nv) (hk : ∀ H', Ext H H' → K (.int .u64 (V (cf v g.a.toNat * cf v g.b.toNat))) H') : HCall Tryd.prog base 61 #[.pointer (some ⟨b, 0, none⟩), .agg (gv g).toArray] H K := by
  refine cleartext_gates_6.spec ?_
  unfold cleartext_gates_6.sh
  refine h_gbox (g := g) (fun a H1 X1 ga => ?_)
  obtain ⟨a1, q1, q2⟩ := at_side (cv := cv) (hv.ext X1) ha0 ha1
  obtain ⟨a2, r1, r2⟩ := at_side (cv := cv) (hv.ext X1) hb0 hb1
  exact ⟨_, rfl, _, fk0 b, _, (kb.ext X1).qp, _, fk1 b, _, _, _, (kb.ext X1).qv, _, fg2 a, _, ga.sa, a1, q1, _, q2, _, fk1 b, _, _, _, (kb.ext X1).qv, _, fg3 a, _, ga.sb, a2, r1, _, r2, _, h_mul hp _ _ ⟨rfl, rfl⟩, hk H1 X1⟩
theorem h_gscale (hp : Sup p) (kb : KB H b p Av nv cv Aw nw cw) (hv : Row H Av nv (vs v)) (ha0 : 0 ≤ g.a) (ha1 : g.a < nv) (hk0 : 0 ≤ g.k) (hk1 : g.k < p) (hk : ∀ H', Ext H H' → K (.int .u64 (V (E g.k * cf v g.a.toNat))) H') : HCall Tryd.prog base 59 #[.pointer (some ⟨b, 0, none⟩), .agg (gv g).toArray] H K := by
  refine cleartext_gates_5.spec ?_
  unfold cleartext_gates_5.sh
  refine h_gbox (g := g) (fun a H1 X1 ga => ?_)
  obtain ⟨a1, q1, q2⟩ := at_side (cv := cv) (hv.ext X1) ha0 ha1
  have qk := ga.k
  rw [← V_E_lt (p := p) hk0 hk1] at qk
  exact ⟨_, rfl, _, fk0 b, _, (kb.ext X1).qp, _, fg4 a, _, qk, _, fk1 b, _, _, _, (kb.ext X1).qv, _, fg2 a, _, ga.sa, a1, q1, _, q2, _, h_mul hp _ _ ⟨rfl, rfl⟩, hk H1 X1⟩
end
end Go.Proofs.YtjpaichcaaacbabDoor.HL
end
section
set_option linter.unusedVariables false
set_option linter.unusedSimpArgs false
set_option linter.unusedSectionVars false
set_option maxHeartbeats 4000000
namespace Go.Proofs.YtjpaichcaaacbabDoor.HL
open Go Go.Proofs.YtjpaichcaaacbabDoorNum Go.Proofs.YtjpaichcaaacbabDoor.FEv
theorem QRun.up {α : Type} {P : Program} {s : Sem α} {H H' : HH} {v : α} (h : QRun P s H v) (X : Ext H H') : QRun P s H' v := fun W hs => h W (fun k o hk => hs k o (X k o hk))
theorem Own.sameC {base T sz n b : Nat} {H H' : HH} {v : Value} {xs : List Value} (h : Own base H T sz v n xs) (hb : v.ownBlock ≠ some b) (he : ∀ k, k ≠ b → H' k = H k) : Own base H' T sz v n xs :=
  h.move (fun g o hg hx => by rw [he g (fun e => hb (by rw [hg, e]))]; exact hx)
/-- Rows of words, each with room for its words. -/
def MatC (H : HH) (A : Option Addr) (n : Nat) (m : List (List Int)) : Prop := n = m.length ∧ ∃ rs : List Value, rs.length = m.length ∧ Rd H A rs ∧ ∀ (i : Nat) (l : List Int), m[i]? = some l → ∃ A' c, rs[i]? = some (.slice A' l.length c) ∧ l.length ≤ c ∧ Rd H A' (us l)
section
variable {H H' : HH} {A : Option Addr} {n : Nat} {m : List (List Int)}
theorem MatC.mat (h : MatC H A n m) : Mat H A n m := by
  obtain ⟨h1, rs, h2, h3, h4⟩ := h
  exact ⟨h1, rs, h2, h3, fun i l hl => by obtain ⟨A', c, h5, _, h6⟩ := h4 i l hl; exact ⟨A', c, h5, h6⟩⟩
theorem MatC.ext (h : MatC H A n m) (he : Ext H H') : MatC H' A n m := by
  obtain ⟨h1, rs, h2, h3, h4⟩ := h
  exact ⟨h1, rs, h2, h3.ext he, fun i l hl => by obtain ⟨A', c, h5, h6, h7⟩ := h4 i l hl; exact ⟨A', c, h5, h6, h7.ext he⟩⟩
theorem MatC.at {i : Nat} (h : MatC H A n m) (c : Nat) (h1 : i < n) : ∃ a, AQ Tryd.prog (Instr.indexAt 35 (.slice A n c) (.int .i64 i)) (.pointer (some a)) ∧ ∃ A' c', QRun Tryd.prog (Instr.loadAt 39 (.pointer (some a))) H (.slice A' (m.getD i []).length c') ∧ Row H A' (m.getD i []).length (m.getD i []) ∧ (m.getD i []).length ≤ c' := by
  obtain ⟨e, rs, h2, h3, h4⟩ := h
  have hi : i < m.length := by omega
  obtain ⟨A', c', h5, h7, h6⟩ := h4 i (m.getD i []) (by simp [hi])
  obtain ⟨ad, rfl, hc⟩ := h3.at h5
  exact ⟨_, aq_ix un23 info32 (by omega) (by omega), A', c', q_ld sc32 (by rw [Int.toNat_natCast, Nat.mul_one]; exact hc), ⟨rfl, h6⟩, h7⟩
theorem MatC.nil : MatC H none 0 [] := ⟨rfl, [], rfl, .inl rfl, fun i l h => by simp at h⟩
end
/-- Rows of the call's own, what they hold frozen in F. -/
def OwnMC (base : Nat) (F H : HH) (v : Value) (n : Nat) (m : List (List Int)) : Prop :=
  ∃ rs : List Value, Own base H 39 1 v n rs ∧ Frz F H v ∧ rs.length = m.length ∧ ∀ (i : Nat) (l : List Int), m[i]? = some l → ∃ A' c, rs[i]? = some (.slice A' l.length c) ∧ l.length ≤ c ∧ Rd F A' (us l)
section
variable {base : Nat} {H F H' F' : HH} {A : Option Addr} {n c : Nat} {m : List (List Int)} {v : Value}
theorem OwnMC.nil (base : Nat) (H : HH) : OwnMC base H H (.slice none 0 0) 0 [] := ⟨[], Own.nil _ _ _ _, Frz.nil _, rfl, fun i l h => by simp at h⟩
theorem OwnMC.froze (h : OwnMC base F H v n m) (he : Ext F F') (hf : Frz F' H v) : OwnMC base F' H v n m := by
  obtain ⟨rs, h1, h2, h3, h4⟩ := h
  exact ⟨rs, h1, hf, h3, fun i l hl => by obtain ⟨A1, c1, h6, h7, h8⟩ := h4 i l hl; exact ⟨A1, c1, h6, h7, h8.ext he⟩⟩
theorem OwnMC.more (h : OwnMC base F H v n m) (he : Ext H H') : OwnMC base F H' v n m := by
  obtain ⟨rs, h1, h2, h3, h4⟩ := h
  exact ⟨rs, h1.ext he, h2.more he, h3, h4⟩
theorem OwnMC.known (h : OwnMC base F H v n m) {b : Nat} (hb : v.ownBlock = some b) : ∃ cur, H b = some (.cells cur 39 (0, 0)) := by
  obtain ⟨rs, h1, h2, h3, h4⟩ := h
  exact (h1.known hb).2
theorem OwnMC.frz (h : OwnMC base F H v n m) : Frz F H v := h.elim fun _ h => h.2.1
/-- Whatever keeps its block keeps it. -/
theorem OwnMC.keep (h : OwnMC base F H v n m) (hk : ∀ b o, v.ownBlock = some b → H b = some o → H' b = some o) (hF : Ext F H') : OwnMC base F H' v n m := by
  obtain ⟨rs, h1, h2, h3, h4⟩ := h
  exact ⟨rs, h1.move hk, ⟨hF, h2.off⟩, h3, h4⟩
/-- A row that is known to be frozen is pushed. -/
theorem h_pushMC {K : Option Addr → Nat → Nat → HH → Prop} (h : OwnMC base F H v n m) (hlim : n ≤ 100000) {A1 : Option Addr} {n1 c1 : Nat} {l : List Int} (hr : Row F A1 n1 l) (hc : n1 ≤ c1)
    (hk : ∀ A' c' H', OwnMC base F H' (.slice A' (n + 1) c') (n + 1) (m ++ [l]) → Grows H H' v (.slice A' (n + 1) c') → K A' (n + 1) c' H') {ty : Nat} :
    HRun Tryd.prog base (Instr.buildSlice 35 1 #[(0, .slice A1 n1 c1)]) H fun v1 H1 => ∃ (A : Option Addr) (l c : Nat), v1 = .slice A l c ∧ HRun Tryd.prog base (Builtin.append_ #[35, 35] ty #[v, .slice A l c]) H1 fun v2 H2 => ∃ (A' : Option Addr) (l' c' : Nat), v2 = .slice A' l' c' ∧ K A' l' c' H2 := by
  obtain ⟨rs, h1, h2, h3, h4⟩ := h
  refine h_push un23 inf32 rfl (by decide) rfl h1 (by omega) (fun A3 c3 H3 ho3 g3 => hk _ _ _ ⟨_, ho3, h2.grow g3, by simp [h3], fun i l' hl => ?_⟩ g3)
  rcases Nat.lt_or_ge i m.length with hi | hi
  · rw [List.getElem?_append_left hi] at hl
    obtain ⟨A4, c4, h6, h7, h8⟩ := h4 i l' hl
    exact ⟨A4, c4, by rw [List.getElem?_append_left (by omega)]; exact h6, h7, h8⟩
  · have hi' : i = m.length := by
      have := (List.getElem?_eq_some_iff.1 hl).1
      rw [List.length_append, List.length_singleton] at this
      omega
    subst hi'
    rw [List.getElem?_append_right (Nat.le_refl _)] at hl
    simp at hl
    subst hl
    refine ⟨A1, c1, ?_, by have := hr.1; omega, hr.2⟩
    rw [← h3, List.getElem?_append_right (Nat.le_refl _)]
    simp [hr.1]
/-- A row built since H is frozen and pushed. -/
theorem h_pushRC {H2 : HH} (h : OwnMC base F H v n m) (hlim : n ≤ 100000) {A1 : Option Addr} {n1 c1 : Nat} {l : List Int} (hf : Frz H H2 (.slice A1 n1 c1)) (hr : Own base H2 22 1 (.slice A1 n1 c1) n1 (us l))
    {K : Option Addr → Nat → Nat → HH → Prop} (hk : ∀ F' A' c' H', Ext F F' → OwnMC base F' H' (.slice A' (n + 1) c') (n + 1) (m ++ [l]) → Grows H2 H' v (.slice A' (n + 1) c') → K A' (n + 1) c' H') {ty : Nat} :
    HRun Tryd.prog base (Instr.buildSlice 35 1 #[(0, .slice A1 n1 c1)]) H2 fun v1 H1 => ∃ (A : Option Addr) (l c : Nat), v1 = .slice A l c ∧ HRun Tryd.prog base (Builtin.append_ #[35, 35] ty #[v, .slice A l c]) H1 fun v2 H2 => ∃ (A' : Option Addr) (l' c' : Nat), v2 = .slice A' l' c' ∧ K A' l' c' H2 := by
  have h2 := h.more hf.ext
  obtain ⟨_, _, ecap, hcap, _⟩ := hr.slice
  cases ecap
  obtain ⟨F', hFF, hfz', A4, c4, e4, hrd⟩ := freeze h2.frz (Frz.mk (h.frz.ext.trans hf.ext) (fun b hb => h.frz.ext.none (hf.off b hb))) hr (fun b hb hb' => by
    obtain ⟨cur, hc⟩ := h.known hb
    rw [hf.off b hb'] at hc; cases hc)
  cases e4
  have e := hr.1
  rw [us_length] at e
  exact h_pushMC (h2.froze hFF hfz') hlim ⟨by omega, hrd⟩ hcap (fun A' c' H' h3 g => hk F' A' c' H' hFF h3 g)
end
abbrev tBools : Nat := 57
theorem unBools : Tryd.prog.underlying tBools = some (.slice 4) := by kernel_rfl
theorem infoBo : (Tryd.prog.info? 4).map (·.size) = some 1 := by kernel_rfl
theorem infBo : (Tryd.prog.info? 4).map (fun i => (i.zero, i.size, i.bytes)) = some (some (.bool false), 1, 1) := by kernel_rfl
theorem unIn : Tryd.prog.underlying 24 = some (.slice 3) := by kernel_rfl
/-- m numbers in the block g. -/
def NB (base : Nat) (H : HH) (g m : Nat) (f : Nat → Nat) : Prop := Own base H 3 1 (.slice (some ⟨g, 0, none⟩) m m) m (ns ((List.range m).map f))
def BB (base : Nat) (H : HH) (g m : Nat) (f : Nat → Bool) : Prop := Own base H 4 1 (.slice (some ⟨g, 0, none⟩) m m) m ((List.range m).map fun j => Value.bool (f j))
section
variable {base : Nat} {H H' F : HH} {g g' m j : Nat} {f : Nat → Nat} {b : Nat → Bool} {K : Unit → HH → Prop}
theorem ownB (g m c : Nat) : (Value.slice (some ⟨g, 0, none⟩) m c).ownBlock = some g := by simp [Value.ownBlock]
theorem NB.blk (h : NB base H g m f) : base ≤ g ∧ ∃ cur, H g = some (.cells cur 3 (0, 0)) := h.known (ownB _ _ _)
theorem BB.blk (h : BB base H g m b) : base ≤ g ∧ ∃ cur, H g = some (.cells cur 4 (0, 0)) := h.known (ownB _ _ _)
theorem NB.ext (h : NB base H g m f) (he : Ext H H') : NB base H' g m f := Own.ext h he
theorem BB.ext (h : BB base H g m b) (he : Ext H H') : BB base H' g m b := Own.ext h he
theorem NB.same (h : NB base H g m f) (hn : g ≠ g') (he : ∀ k, k ≠ g' → H' k = H k) : NB base H' g m f := Own.sameC h (by rw [ownB]; simpa using hn) he
theorem BB.same (h : BB base H g m b) (hn : g ≠ g') (he : ∀ k, k ≠ g' → H' k = H k) : BB base H' g m b := Own.sameC h (by rw [ownB]; simpa using hn) he
theorem NB.at (h : NB base H g m f) (hj : j < m) : AQ Tryd.prog (Instr.indexAt 24 (.slice (some ⟨g, 0, none⟩) m m) (.int .i64 j)) (.pointer (some ⟨g, j, none⟩)) ∧ QRun Tryd.prog (Instr.loadAt 3 (.pointer (some ⟨g, j, none⟩))) H (.int .i64 ((f j : Nat) : Int)) := by
  obtain ⟨g1, cur, e1, _, hc, _, hg⟩ := Own.at h hj
  cases e1
  refine ⟨aq_own unIn info3 hj, q_ld sc3 ?_⟩
  rw [cellH_blk hc]
  refine hg j _ ?_
  unfold ns
  rw [List.getElem?_map, List.getElem?_map, List.getElem?_range hj]; rfl
theorem BB.at (h : BB base H g m b) (hj : j < m) : AQ Tryd.prog (Instr.indexAt tBools (.slice (some ⟨g, 0, none⟩) m m) (.int .i64 j)) (.pointer (some ⟨g, j, none⟩)) ∧ QRun Tryd.prog (Instr.loadAt 4 (.pointer (some ⟨g, j, none⟩))) H (.bool (b j)) := by
  obtain ⟨g1, cur, e1, _, hc, _, hg⟩ := Own.at h hj
  cases e1
  refine ⟨aq_own unBools infoBo hj, q_ld scBo ?_⟩
  rw [cellH_blk hc]
  refine hg j _ ?_
  rw [List.getElem?_map, List.getElem?_range hj]; rfl
theorem NB.put (h : NB base H g m f) (hj : j < m) (x : Nat) {f' : Nat → Nat} (hx : f' j = x) (ho : ∀ k, k < m → k ≠ j → f' k = f k) (hk : ∀ H', NB base H' g m f' → (∀ k, k ≠ g → H' k = H k) → K () H') : HRun Tryd.prog base (Instr.storeAt 3 (.pointer (some ⟨g, j, none⟩)) (.int .i64 ((x : Nat) : Int))) H K := by
  obtain ⟨g1, cur, e1, h2, hc, h4, hg⟩ := Own.at h hj
  cases e1
  refine h_st info3 rfl hc h2 h4 (hk _ ?_ (fun k hk => upd_ne _ hk))
  have := Own.put h (ownB _ _ _) hc j (.int .i64 ((x : Nat) : Int))
  have e : (ns ((List.range m).map f)).set j (.int .i64 ((x : Nat) : Int)) = ns ((List.range m).map f') := by
    unfold ns
    rw [List.map_map, List.map_map]
    exact set_range _ _ hj _ (by show Value.int .i64 ((f' j : Nat) : Int) = _; rw [hx]) (fun k hk hne => by show Value.int .i64 ((f' k : Nat) : Int) = Value.int .i64 ((f k : Nat) : Int); rw [ho k hk hne])
  unfold NB
  rwa [e] at this
theorem BB.put (h : BB base H g m b) (hj : j < m) (x : Bool) {b' : Nat → Bool} (hx : b' j = x) (ho : ∀ k, k < m → k ≠ j → b' k = b k) (hk : ∀ H', BB base H' g m b' → (∀ k, k ≠ g → H' k = H k) → K () H') : HRun Tryd.prog base (Instr.storeAt 4 (.pointer (some ⟨g, j, none⟩)) (.bool x)) H K := by
  obtain ⟨g1, cur, e1, h2, hc, h4, hg⟩ := Own.at h hj
  cases e1
  refine h_st infoBo rfl hc h2 h4 (hk _ ?_ (fun k hk => upd_ne _ hk))
  have := Own.put h (ownB _ _ _) hc j (.bool x)
  have e : ((List.range m).map fun j => Value.bool (b j)).set j (.bool x) = (List.range m).map fun j => Value.bool (b' j) :=
    set_range _ _ hj _ (by rw [hx]) (fun k hk hne => by rw [ho k hk hne])
  unfold BB
  rwa [e] at this
theorem NB.congr (h : NB base H g m f) {f' : Nat → Nat} (e : ∀ k, k < m → f' k = f k) : NB base H g m f' := by
  unfold NB at h ⊢
  have : (List.range m).map f' = (List.range m).map f := List.map_congr_left (fun k hk => e k (List.mem_range.1 hk))
  rwa [this]
theorem BB.congr (h : BB base H g m b) {b' : Nat → Bool} (e : ∀ k, k < m → b' k = b k) : BB base H g m b' := by
  unfold BB at h ⊢
  have : ((List.range m).map fun j => Value.bool (b' j)) = (List.range m).map fun j => Value.bool (b j) := List.map_congr_left (fun k hk => by rw [e k (List.mem_range.1 hk)])
  rwa [this]
theorem h_mkN {q : Nat} (hq : q ≤ 1000000) {k1 k2 : IntKind} {K : Value → HH → Prop} (h : ∀ g H', base ≤ g → NB base H' g q (fun _ => 0) → Ext H H' → H g = none → K (.slice (some ⟨g, 0, none⟩) q q) H') :
    HRun Tryd.prog base (Instr.makeSlice 24 (.int k1 q) (.int k2 q)) H K := by
  refine h_make unIn inf3 (by omega) (by omega) (by omega) (fun gb hgb hbase => ?_)
  rw [Int.toNat_natCast, Nat.mul_one, show (Value.int IntKind.i64 0).cells = #[.int .i64 0] from rfl, made1]
  refine h gb _ hbase ?_ (Ext.upd hgb _) hgb
  have := Own.lit (H := H) (T := 3) (sz := 1) hbase (Array.replicate q (.int .i64 0)) q (by unfold maxLen; omega) (by simp)
  unfold NB
  have e : (Array.replicate q (Value.int .i64 0)).toList = ns ((List.range q).map fun _ => 0) := by
    rw [Array.toList_replicate]
    unfold ns
    rw [List.map_map]
    apply List.ext_getElem?
    intro i
    rw [List.getElem?_replicate, List.getElem?_map]
    by_cases hi : i < q
    · rw [if_pos hi, List.getElem?_range hi]; rfl
    · rw [if_neg hi, List.getElem?_eq_none (by simpa using hi)]; rfl
  rwa [e] at this
theorem h_mkB {q : Nat} (hq : q ≤ 1000000) {k1 k2 : IntKind} {K : Value → HH → Prop} (h : ∀ g H', base ≤ g → BB base H' g q (fun _ => false) → Ext H H' → H g = none → K (.slice (some ⟨g, 0, none⟩) q q) H') :
    HRun Tryd.prog base (Instr.makeSlice tBools (.int k1 q) (.int k2 q)) H K := by
  refine h_make unBools infBo (by omega) (by omega) (by omega) (fun gb hgb hbase => ?_)
  rw [Int.toNat_natCast, Nat.mul_one, show (Value.bool false).cells = #[.bool false] from rfl, made1]
  refine h gb _ hbase ?_ (Ext.upd hgb _) hgb
  have := Own.lit (H := H) (T := 4) (sz := 1) hbase (Array.replicate q (.bool false)) q (by unfold maxLen; omega) (by simp)
  unfold BB
  have e : (Array.replicate q (Value.bool false)).toList = (List.range q).map fun _ => Value.bool false := by
    rw [Array.toList_replicate]
    apply List.ext_getElem?
    intro i
    rw [List.getElem?_replicate, List.getElem?_map]
    by_cases hi : i < q
    · rw [if_pos hi, List.getElem?_range hi]; rfl
    · rw [if_neg hi, List.getElem?_eq_none (by simpa using hi)]; rfl
  rwa [e] at this
theorem h_mkW {q : Nat} (hq : q ≤ 1000000) {k1 k2 : IntKind} {K : Value → HH → Prop} (h : ∀ g H', base ≤ g → Own base H' 22 1 (.slice (some ⟨g, 0, none⟩) q q) q (us (List.replicate q 0)) → Frz H H' (.slice (some ⟨g, 0, none⟩) q q) → K (.slice (some ⟨g, 0, none⟩) q q) H') :
    HRun Tryd.prog base (Instr.makeSlice 39 (.int k1 q) (.int k2 q)) H K := by
  refine h_make un32 inf22 (by omega) (by omega) (by omega) (fun gb hgb hbase => ?_)
  rw [Int.toNat_natCast, Nat.mul_one, show (Value.int IntKind.u64 0).cells = #[.int .u64 0] from rfl, made1]
  refine h gb _ hbase ?_ ⟨Ext.upd hgb _, fun b' hb' => ?_⟩
  · have := Own.lit (H := H) (T := 22) (sz := 1) hbase (Array.replicate q (.int .u64 0)) q (by unfold maxLen; omega) (by simp)
    have e : (Array.replicate q (Value.int .u64 0)).toList = us (List.replicate q 0) := by rw [Array.toList_replicate]; simp [us]
    rwa [e] at this
  · have e : gb = b' := by simpa [Value.ownBlock] using hb'
    rw [← e]; exact hgb
end
theorem cnt_onto {gs : List Gate} {party : Int} : ∀ {n : Nat}, n ≤ gs.length → ∀ k, k < cnt gs n party → ∃ t, t < n ∧ isIn party (gs.getD t gate0) = true ∧ cnt gs t party = k
  | 0, _, k, h => by have := cnt_le gs 0 party; omega
  | n + 1, hn, k, h => by
    have hs := cnt_succ (gs := gs) (k := n) (by omega) party
    by_cases hi : isIn party (gs.getD n gate0) = true
    · rw [if_pos hi] at hs
      by_cases e : k = cnt gs n party
      · exact ⟨n, by omega, hi, e.symm⟩
      · obtain ⟨t, h1, h2, h3⟩ := cnt_onto (gs := gs) (party := party) (n := n) (by omega) k (by omega)
        exact ⟨t, by omega, h2, h3⟩
    · rw [if_neg hi] at hs
      obtain ⟨t, h1, h2, h3⟩ := cnt_onto (gs := gs) (party := party) (n := n) (by omega) k (by omega)
      exact ⟨t, by omega, h2, h3⟩
end Go.Proofs.YtjpaichcaaacbabDoor.HL
end
section
set_option linter.unusedVariables false
set_option linter.unusedSimpArgs false
set_option linter.unusedSectionVars false
set_option maxHeartbeats 4000000
namespace Go.Proofs.YtjpaichcaaacbabDoor.HL
open Go Go.Proofs.YtjpaichcaaacbabDoorNum Go.Proofs.YtjpaichcaaacbabDoor.FEv
theorem cells_tag {c1 c2 : Array Value} {t1 t2 : TypeId} {z1 z2 : Nat × Nat} (h : some (Obj.cells c1 t1 z1) = some (Obj.cells c2 t2 z2)) : t1 = t2 := by cases h; rfl
theorem ext_same {H H3 H4 : HH} {g : Nat} (h : Ext H H3) (hn : H g = none) (hs : ∀ k, k ≠ g → H4 k = H3 k) : Ext H H4 := fun b o hb => by
  rw [hs b (fun e => by rw [e, hn] at hb; cases hb)]; exact h b o hb
theorem NB.move {base : Nat} {H H' : HH} {g m : Nat} {f : Nat → Nat} (h : NB base H g m f) (hk : ∀ o, H g = some o → H' g = some o) : NB base H' g m f := Own.move h (fun b o hb hx => by rw [ownB] at hb; cases hb; exact hk o hx)
theorem BB.move {base : Nat} {H H' : HH} {g m : Nat} {f : Nat → Bool} (h : BB base H g m f) (hk : ∀ o, H g = some o → H' g = some o) : BB base H' g m f := Own.move h (fun b o hb hx => by rw [ownB] at hb; cases hb; exact hk o hx)
theorem isIn_not {party : Int} {g : Gate} (h : g.kind ≠ 1) : isIn party g = false := by
  unfold isIn
  have : (g.kind == 1) = false := by rw [beq_eq_false_iff_ne]; exact h
  rw [this, Bool.false_and]
theorem isIn_at {j k : Nat} {g : Gate} (h1 : g.kind = 1) (h2 : g.frm = (j : Int) + 1) : isIn ((k : Int) + 1) g = decide (k = j) := by
  unfold isIn
  rw [h1, h2]
  by_cases e : k = j
  · rw [e]; simp
  · have : ((j : Int) + 1 == (k : Int) + 1) = false := by rw [beq_eq_false_iff_ne]; omega
    rw [this, decide_eq_false e]; rfl
/-- What the first i gates have shown of the inputs. -/
def SeenB (P : Int) (gs : List Gate) (ins : List (List Int)) (i : Nat) : Prop := ∀ t, t < i → (gs.getD t gate0).kind = 1 → ∃ j : Nat, (gs.getD t gate0).frm = (j : Int) + 1 ∧ j < ins.length ∧ cnt gs t ((j : Int) + 1) < (ins.getD j []).length ∧ (ins.getD j []).getD (cnt gs t ((j : Int) + 1)) 0 < P
theorem fits_seen {P : Int} {gs : List Gate} {ins : List (List Int)} (h : SeenB P gs ins gs.length) (hl : ∀ j, j < ins.length → (ins.getD j []).length = cnt gs gs.length ((j : Int) + 1)) : fitsB P gs ins = true := by
  refine fitsB_iff.2 ⟨fun g hg h1 => ?_, fun j hj => ⟨hl j hj, fun x hx => ?_⟩⟩
  · obtain ⟨t, ht, rfl⟩ := List.getElem_of_mem hg
    have e : gs.getD t gate0 = gs[t] := by simp [ht]
    obtain ⟨j, h2, h3, _⟩ := h t ht (by rw [e]; exact h1)
    rw [e] at h2; omega
  · obtain ⟨k, hk, rfl⟩ := List.getElem_of_mem hx
    obtain ⟨t, h1, h2, h3⟩ := cnt_onto (gs := gs) (party := (j : Int) + 1) (n := gs.length) (Nat.le_refl _) k (by rw [← hl j hj]; exact hk)
    have hk1 : (gs.getD t gate0).kind = 1 ∧ (gs.getD t gate0).frm = (j : Int) + 1 := by
      unfold isIn at h2
      simpa using h2
    obtain ⟨j', h4, h5, h6, h7⟩ := h t h1 hk1.1
    have : j' = j := by omega
    subst this
    rw [h3] at h7
    have e : (ins.getD j' []).getD k 0 = (ins.getD j' [])[k] := by rw [List.getD_eq_getElem?_getD, List.getElem?_eq_getElem hk]; rfl
    rwa [e] at h7
theorem effL_succ {gs : List Gate} {ins : List (List Int)} {j : Nat} (h : j < ins.length) : (effL gs ins).take (j + 1) = (effL gs ins).take j ++ [effR gs (ins.getD j []) ((j : Int) + 1)] := by
  rw [List.take_add_one, List.getElem?_eq_getElem (by rw [effL_len]; exact h)]
  have := effL_get (gs := gs) h
  rw [List.getD_eq_getElem?_getD, List.getElem?_eq_getElem (by rw [effL_len]; exact h)] at this
  have this : (effL gs ins)[j]'(by rw [effL_len]; exact h) = _ := this
  rw [this]; rfl
section
variable {base : Nat} {H F H1 : HH} {K : Value → HH → Prop} {N1 : Value → HH → Prop} {A A' B : Option Addr} {n n' c c' m d xb ga gb : Nat} {P : Int} {gs : List Gate} {outs : List Int} {ins : List (List Int)} {fr : Fr}
theorem cn_round {i : Nat} (cb : CB H1 xb P A n c A' n' c') (hg : Gs H1 A n gs) (hi : MatC H1 B m ins) (hv : VOK P gs outs) (hnn : ∀ g ∈ gs, 0 ≤ g.k) (hna : H1 ga = none) (hnb : H1 gb = none) (hlt : i < gs.length) (hz : ∀ l ∈ ins, l.length ≤ 100000)
    (X : Ext H1 H) (oa : NB base H ga m (fun j => cnt gs i ((j : Int) + 1))) (ob : BB base H gb m (fun j => !badR gs (ins.getD j []) ((j : Int) + 1) i)) (hs : SeenB P gs ins i)
    (hN : ∀ H', Ext H1 H' → NB base H' ga m (fun j => cnt gs (i + 1) ((j : Int) + 1)) → BB base H' gb m (fun j => !badR gs (ins.getD j []) ((j : Int) + 1) (i + 1)) → SeenB P gs ins (i + 1) → N1 (.int .i64 (IntKind.i64.wrap ((i : Int) + 1))) H')
    (hk2 : fitsB P gs ins = false → ∀ H', Ext H1 H' → K (.tuple #[.slice none 0 0, .bool false]) H') :
    cleartext_counted.B1 base B m d ⟨xb, 0, none⟩ (some ⟨ga, 0, none⟩) m m (some ⟨gb, 0, none⟩) m m A n c n i fr N1 H K := by
  unfold cleartext_counted.B1
  obtain rfl := hg.1
  have hm := hi.1
  obtain ⟨a, q1, q2⟩ := (hg.ext X).at c (i := i) hlt
  have gok := hv.gok hnn hlt
  have hcs := fun party => cnt_succ (gs := gs) (k := i) hlt party
  rw [if_pos (decide_eq_true (by omega))]
  refine ⟨a, q1, _, _, _, _, _, q2.all, h_gvar (fun ad H2 X2 ga2 => ⟨_, fg0 ad, _, ga2.kind, ?_⟩)⟩
  have X12 := X.trans X2
  have oa2 := oa.ext X2
  have ob2 := ob.ext X2
  by_cases k1 : (gs.getD i gate0).kind = 1
  rotate_left
  · rw [if_pos (by simpa using k1)]
    refine hN H2 X12 (oa2.congr (fun j hj => ?_)) (ob2.congr (fun j hj => ?_)) (fun t ht h1 => ?_)
    · rw [hcs, isIn_not k1]; rfl
    · rw [badR_succ]
      unfold isBit
      rw [isIn_not k1]; simp
    · by_cases e : t = i
      · rw [e] at h1; exact absurd h1 k1
      · exact hs t (by omega) h1
  rw [if_neg (by simpa using k1)]
  obtain ⟨f1, f2, f3⟩ := gok.inp k1
  obtain ⟨j, hj⟩ : ∃ j : Nat, (gs.getD i gate0).frm = (j : Int) + 1 := ⟨((gs.getD i gate0).frm - 1).toNat, by omega⟩
  have hin : isIn ((j : Int) + 1) (gs.getD i gate0) = true := by rw [isIn_at k1 hj]; simp
  have bad : ∀ (x : Prop), (fitsB P gs ins = true → False) → ∀ H', Ext H1 H' → K (.tuple #[.slice none 0 0, .bool false]) H' := fun _ h => hk2 (by cases e : fitsB P gs ins with
    | false => rfl
    | true => exact (h e).elim)
  have fitp := fun h : fitsB P gs ins = true => fitsB_iff.1 h
  have wj : IntKind.i64.wrap ((gs.getD i gate0).frm - 1) = (j : Int) := by rw [hj, w64 (by omega) (by omega)]; omega
  refine ⟨_, fg1 ad, _, ga2.frm, ?_⟩
  rw [wj]
  by_cases hjm : j < m
  rotate_left
  · rw [if_neg (fun h => by have := of_decide_eq_false h; omega)]
    exact bad True (fun h => hjm (by have := (fitp h).1 _ (getD_memG hlt) k1; omega)) H2 X12
  rw [if_pos (decide_eq_false (by omega))]
  obtain ⟨p1, p2⟩ := oa2.at hjm
  obtain ⟨a3, r1, A3, c3, r2, r3, r4⟩ := (hi.ext X12).at d hjm
  have hjl : j < ins.length := by omega
  refine ⟨_, p1, _, p2, a3, r1, _, _, _, r2, ?_⟩
  by_cases hlen : cnt gs i ((j : Int) + 1) < (ins.getD j []).length
  rotate_left
  · rw [if_neg (fun h => by have := of_decide_eq_false h; omega)]
    exact bad True (fun h => hlen (by have := ((fitp h).2 j hjl).1; have := cnt_lt (gs := gs) hlt (Nat.le_refl _) hin; omega)) H2 X12
  rw [if_pos (decide_eq_false (by omega))]
  obtain ⟨a4, s1, s2⟩ := r3.at c3 (i := ((cnt gs i ((j : Int) + 1) : Nat) : Int)) (by omega) (by omega)
  rw [Int.toNat_natCast] at s2
  refine ⟨a3, r1, _, _, _, r2, _, p1, _, p2, a4, s1, _, s2, _, fc0 xb, _, (cb.ext X12).qp, ?_⟩
  by_cases hP : (ins.getD j []).getD (cnt gs i ((j : Int) + 1)) 0 < P
  rotate_left
  · rw [if_pos (decide_eq_true (by omega))]
    exact bad True (fun h => hP (by
      have := ((fitp h).2 j hjl).2 ((ins.getD j []).getD (cnt gs i ((j : Int) + 1)) 0) (by
        rw [List.getD_eq_getElem?_getD (l := ins.getD j []), List.getElem?_eq_getElem hlen]
        exact List.getElem_mem _)
      exact this)) H2 X12
  rw [if_neg (fun h => by have := of_decide_eq_true h; omega)]
  have hs' : SeenB P gs ins (i + 1) := fun t ht h1 => by
    by_cases e : t = i
    · subst e
      exact ⟨j, hj, hjl, hlen, hP⟩
    · exact hs t (by omega) h1
  have fin : ∀ H3, Ext H1 H3 → NB base H3 ga m (fun j => cnt gs i ((j : Int) + 1)) → BB base H3 gb m (fun j => !badR gs (ins.getD j []) ((j : Int) + 1) (i + 1)) → cleartext_counted.R1 base N1 [.slice B m d, .pointer (some ⟨xb, 0, none⟩), .slice (some ⟨ga, 0, none⟩) m m, .slice (some ⟨gb, 0, none⟩) m m, .int .i64 (j : Int), .slice A gs.length c, .int .i64 (gs.length : Nat), .int .i64 (i : Int)] H3 K := fun H3 X3 oa3 ob3 => by
    refine cleartext_counted.cut1 ?_
    unfold cleartext_counted.T1 cleartext_counted.S1
    obtain ⟨p3, p4⟩ := oa3.at hjm
    refine ⟨_, p3, _, p4, _, p3, ?_⟩
    have hle := cnt_le gs i ((j : Int) + 1)
    rw [show IntKind.i64.wrap (((cnt gs i ((j : Int) + 1) : Nat) : Int) + 1) = ((cnt gs i ((j : Int) + 1) + 1 : Nat) : Int) from nxt (n := 1000000) (by have := hv.len; omega) (by decide)]
    refine oa3.put hjm (cnt gs i ((j : Int) + 1) + 1) (f' := fun q => cnt gs (i + 1) ((q : Int) + 1)) (by rw [hcs, if_pos hin]) (fun q hq hne => by rw [hcs, isIn_at k1 hj, decide_eq_false hne]; rfl) (fun H4 oa4 s4 => ?_)
    have hab : gb ≠ ga := fun e => by
      obtain ⟨_, cu, hc1⟩ := ob3.blk
      obtain ⟨_, cu2, hc2⟩ := oa3.blk
      rw [e, hc2] at hc1
      exact absurd (cells_tag hc1) (by decide)
    exact hN H4 (ext_same X3 hna s4) oa4 (ob3.same hab s4) hs'
  refine ⟨_, fg4 ad, _, ga2.k, ?_⟩
  by_cases k2 : (gs.getD i gate0).k = 1
  · rw [if_pos (by simpa using k2)]
    refine ⟨a3, r1, _, _, _, r2, _, p1, _, p2, a4, s1, _, s2, ?_⟩
    by_cases hb : (ins.getD j []).getD (cnt gs i ((j : Int) + 1)) 0 > 1
    · rw [if_pos (decide_eq_true hb)]
      obtain ⟨b1, b2⟩ := ob2.at hjm
      refine ⟨_, b1, ?_⟩
      refine ob2.put hjm false (b' := fun q => !badR gs (ins.getD q []) ((q : Int) + 1) (i + 1)) (by
        simp only [badR_succ]
        unfold isBit
        rw [hin, k2, decide_eq_true hb]; simp) (fun q hq hne => by
        simp only [badR_succ]
        unfold isBit
        rw [isIn_at k1 hj, decide_eq_false hne]; simp) (fun H4 ob4 s4 => ?_)
      have hab : ga ≠ gb := fun e => by
        obtain ⟨_, cu, hc1⟩ := ob2.blk
        obtain ⟨_, cu2, hc2⟩ := oa2.blk
        rw [← e, hc2] at hc1
        exact absurd (cells_tag hc1) (by decide)
      exact fin H4 (ext_same X12 hnb s4) (oa2.same hab s4) ob4
    · rw [if_neg (fun h => hb (of_decide_eq_true h))]
      refine fin H2 X12 oa2 (ob2.congr (fun q hq => ?_))
      rw [badR_succ]
      by_cases e : q = j
      · subst e
        rw [decide_eq_false hb]; simp
      · unfold isBit
        rw [isIn_at k1 hj, decide_eq_false e]; simp
  · rw [if_neg (by simpa using k2)]
    refine fin H2 X12 oa2 (ob2.congr (fun q hq => ?_))
    rw [badR_succ]
    unfold isBit
    have : ((gs.getD i gate0).k == 1) = false := by rw [beq_eq_false_iff_ne]; exact k2
    rw [this]; simp
theorem h_counted (hg : Gs H A n gs) (hi : MatC H B m ins) (hv : VOK P gs outs) (hnn : ∀ g ∈ gs, 0 ≤ g.k) (hz1 : ins.length ≤ 1000) (hz : ∀ l ∈ ins, l.length ≤ 100000)
    (hk1 : fitsB P gs ins = true → ∀ F A1 c1 H', Ext H F → OwnMC base F H' (.slice A1 m c1) m (effL gs ins) → K (.tuple #[.slice A1 m c1, .bool true]) H')
    (hk2 : fitsB P gs ins = false → ∀ H', Ext H H' → K (.tuple #[.slice none 0 0, .bool false]) H') :
    HCall Tryd.prog base 25 #[.agg #[.int .u64 P, .slice A n c, .slice A' n' c'], .slice B m d] H K := by
  refine cleartext_counted.spec ?_
  unfold cleartext_counted.sh
  have hm := hi.1
  refine h_cbox (fun xb H1 X1 cb => ⟨_, rfl, ?_⟩)
  have main : ∀ (ga gb : Nat) (H3 : HH), NB base H3 ga m (fun _ => 0) → BB base H3 gb m (fun _ => false) → Ext H1 H3 → H1 ga = none → H1 gb = none → cleartext_counted.R0 base [.slice B m d, .pointer (some ⟨xb, 0, none⟩), .slice (some ⟨ga, 0, none⟩) m m, .slice (some ⟨gb, 0, none⟩) m m] H3 K := fun ga gb H3 oa ob X3 hna hnb => by
    refine cleartext_counted.cut0 ?_
    unfold cleartext_counted.T0 cleartext_counted.S0
    have hab : ∀ {H' : HH} {f : Nat → Nat} {b : Nat → Bool}, NB base H' ga m f → BB base H' gb m b → ga ≠ gb := fun oa ob e => by
      obtain ⟨_, cu, hc1⟩ := ob.blk
      obtain ⟨_, cu2, hc2⟩ := oa.blk
      rw [← e, hc2] at hc1
      exact absurd (cells_tag hc1) (by decide)
    refine cleartext_counted.loop0 (fun k y H' => ∃ j : Nat, y = j ∧ j ≤ m ∧ k = m - j ∧ NB base H' ga m (fun _ => 0) ∧ BB base H' gb m (fun q => decide (q < j)) ∧ Ext H1 H') m ⟨0, rfl, Nat.zero_le _, rfl, oa, ob.congr (fun q hq => by simp), X3⟩ ?_
    rintro k y fr H4 ⟨j, rfl, hj, rfl, oa4, ob4, X4⟩
    unfold cleartext_counted.B0
    by_cases hjm : j < m
    · rw [if_pos (decide_eq_true (by omega))]
      refine ⟨_, (ob4.at hjm).1, ?_⟩
      refine ob4.put hjm true (b' := fun q => decide (q < j + 1)) (by simp) (fun q hq hne => by
        by_cases e : q < j
        · rw [decide_eq_true e, decide_eq_true (by omega)]
        · rw [decide_eq_false e, decide_eq_false (by omega)]) (fun H5 ob5 s5 => ?_)
      exact ⟨m - j - 1, by omega, _, rfl, j + 1, nxt (n := 1000000) (by omega) (by decide), by omega, by omega, oa4.same (hab oa4 ob4) s5, ob5, ext_same X4 hnb s5⟩
    rw [if_neg (fun h => hjm (by have := of_decide_eq_true h; omega))]
    obtain rfl : j = m := by omega
    refine ⟨_, fc1 xb, _, _, _, (cb.ext X4).qgs, ?_⟩
    have hgn := hg.1
    refine cleartext_counted.loop1 (fun k y H' => ∃ i : Nat, y = i ∧ i ≤ gs.length ∧ k = gs.length - i ∧ NB base H' ga j (fun q => cnt gs i ((q : Int) + 1)) ∧ BB base H' gb j (fun q => !badR gs (ins.getD q []) ((q : Int) + 1) i) ∧ Ext H1 H' ∧ SeenB P gs ins i) gs.length
      ⟨0, rfl, Nat.zero_le _, rfl, oa4.congr (fun q hq => rfl), ob4.congr (fun q hq => by rw [decide_eq_true hq]; rfl), X4, fun t ht => by omega⟩ ?_
    rintro k y fr H5 ⟨i, rfl, hi', rfl, oa5, ob5, X5, hs⟩
    by_cases hlt : i < gs.length
    · refine cn_round cb (hg.ext X1) (hi.ext X1) hv hnn hna hnb hlt hz X5 oa5 ob5 hs (fun H' X' oa' ob' hs' => ?_) (fun h H' X' => hk2 h H' (X1.trans X'))
      exact ⟨gs.length - i - 1, by omega, _, rfl, i + 1, nxt (n := 1000000) (by have := hv.len; omega) (by decide), by omega, by omega, oa', ob', X', hs'⟩
    obtain rfl : i = gs.length := by omega
    unfold cleartext_counted.B1
    rw [if_neg (fun h => by have := of_decide_eq_true h; omega)]
    refine cleartext_counted.loop2 (fun k A1 l1 c1 y H' => ∃ q : Nat, y = q ∧ q ≤ j ∧ k = j - q ∧ l1 = q ∧ NB base H' ga j (fun q => cnt gs gs.length ((q : Int) + 1)) ∧ BB base H' gb j (fun q => !badR gs (ins.getD q []) ((q : Int) + 1) gs.length) ∧ (∀ t, t < q → (ins.getD t []).length = cnt gs gs.length ((t : Int) + 1)) ∧ ∃ F, Ext H1 F ∧ OwnMC base F H' (.slice A1 q c1) q ((effL gs ins).take q)) j
      ⟨0, rfl, Nat.zero_le _, rfl, rfl, oa5, ob5, fun t ht => by omega, H5, X5, OwnMC.nil _ _⟩ ?_
    rintro k A1 l1 c1 y fr H6 ⟨q, rfl, hq, rfl, rfl, oa6, ob6, hl6, F, XF, om⟩
    unfold cleartext_counted.B2
    have XH : Ext H1 H6 := XF.trans om.frz.ext
    by_cases hqj : l1 < j
    · rw [if_pos (decide_eq_true (by omega))]
      obtain ⟨a, q1, A3, c3, q2, q3, q4⟩ := ((hi.ext X1).ext XF).at d hqj
      obtain ⟨p1, p2⟩ := oa6.at hqj
      refine ⟨a, q1, _, _, _, q2.up om.frz.ext, _, p1, _, p2, ?_⟩
      by_cases hlen : (ins.getD l1 []).length = cnt gs gs.length ((l1 : Int) + 1)
      rotate_left
      · rw [if_pos (bne_iff_ne.2 (by omega))]
        refine hk2 ?_ H6 (X1.trans XH)
        cases e : fitsB P gs ins with
        | false => rfl
        | true => exact absurd ((fitsB_iff.1 e).2 l1 (by omega)).1 hlen
      rw [if_neg (fun h => by have := bne_iff_ne.1 h; omega)]
      obtain ⟨b1, b2⟩ := ob6.at hqj
      have hrl : (ins.getD l1 []).length ≤ 100000 := hz _ (getD_memL (by omega))
      have keepN : ∀ {H7 H8 : HH} {v v' : Value} {n : Nat} {mm : List (List Int)} {F' : HH}, NB base H7 ga j (fun q => cnt gs gs.length ((q : Int) + 1)) → OwnMC base F' H7 v n mm → Grows H7 H8 v v' → NB base H8 ga j (fun q => cnt gs gs.length ((q : Int) + 1)) := fun on om g => on.move (fun o ho => g.keep _ o (fun e => by
        obtain ⟨cu, hc⟩ := om.known e
        obtain ⟨_, cu2, hc2⟩ := on.blk
        rw [hc2] at hc
        exact absurd (cells_tag hc) (by decide)) ho)
      have keepB : ∀ {H7 H8 : HH} {v v' : Value} {n : Nat} {mm : List (List Int)} {F' : HH}, BB base H7 gb j (fun q => !badR gs (ins.getD q []) ((q : Int) + 1) gs.length) → OwnMC base F' H7 v n mm → Grows H7 H8 v v' → BB base H8 gb j (fun q => !badR gs (ins.getD q []) ((q : Int) + 1) gs.length) := fun on om g => on.move (fun o ho => g.keep _ o (fun e => by
        obtain ⟨cu, hc⟩ := om.known e
        obtain ⟨_, cu2, hc2⟩ := on.blk
        rw [hc2] at hc
        exact absurd (cells_tag hc) (by decide)) ho)
      have hnx : ∀ t, t < l1 + 1 → (ins.getD t []).length = cnt gs gs.length ((t : Int) + 1) := fun t ht => by
        by_cases e : t = l1
        · rw [e]; exact hlen
        · exact hl6 t (by omega)
      refine ⟨_, b1, _, b2, ?_⟩
      cases hb : badR gs (ins.getD l1 []) ((l1 : Int) + 1) gs.length with
      | true =>
        rw [if_pos (by decide)]
        have he : effR gs (ins.getD l1 []) ((l1 : Int) + 1) = List.replicate (ins.getD l1 []).length 0 := by unfold effR; rw [if_pos hb]
        refine h_mkW (by omega) (fun g H7 hgb o7 f7 => ⟨_, _, _, rfl, ?_⟩)
        refine cleartext_counted.cut2 ?_
        unfold cleartext_counted.T2 cleartext_counted.S2
        refine h_pushRC om (by omega) f7 o7 (fun F' A8 c8 H8 X8 om8 g8 => ?_)
        refine ⟨j - l1 - 1, by omega, _, _, _, _, rfl, rfl, l1 + 1, nxt (n := 1000000) (by omega) (by decide), by omega, by omega, rfl, keepN (oa6.ext f7.ext) (om.more f7.ext) g8, keepB (ob6.ext f7.ext) (om.more f7.ext) g8, hnx, F', XF.trans X8, ?_⟩
        rw [effL_succ (by omega), he]
        exact om8
      | false =>
        rw [if_neg (by decide)]
        have he : effR gs (ins.getD l1 []) ((l1 : Int) + 1) = ins.getD l1 [] := by unfold effR; rw [hb]; rfl
        refine cleartext_counted.cut2 ?_
        unfold cleartext_counted.T2 cleartext_counted.S2
        refine h_pushMC om (by omega) q3 q4 (fun A8 c8 H8 om8 g8 => ?_)
        refine ⟨j - l1 - 1, by omega, _, _, _, _, rfl, rfl, l1 + 1, nxt (n := 1000000) (by omega) (by decide), by omega, by omega, rfl, keepN oa6 om g8, keepB ob6 om g8, hnx, F, XF, ?_⟩
        rw [effL_succ (by omega), he]
        exact om8
    · rw [if_neg (fun h => hqj (by have := of_decide_eq_true h; omega))]
      obtain rfl : l1 = j := by omega
      rw [List.take_of_length_le (by rw [effL_len]; omega)] at om
      exact hk1 (fits_seen hs (fun t ht => hl6 t (by omega))) F _ _ H6 (X1.trans XF) om
  refine ⟨?_, ?_⟩
  · refine h_mkN (by omega) (fun ga H2 _ oa X2 hna => ⟨_, _, _, rfl, ?_⟩)
    refine h_mkB (by omega) (fun gb H3 _ ob X3 hnb => ⟨_, _, _, rfl, ?_⟩)
    exact main ga gb H3 (oa.ext X3) ob (X2.trans X3) hna (X2.none hnb)
  · refine h_mkB (by omega) (fun gb H2 _ ob X2 hnb => ⟨_, _, _, rfl, ?_⟩)
    refine h_mkN (by omega) (fun ga H3 _ oa X3 hna => ⟨_, _, _, rfl, ?_⟩)
    exact main ga gb H3 oa (ob.ext X3) (X2.trans X3) (X2.none hna) hnb
end
end Go.Proofs.YtjpaichcaaacbabDoor.HL
end
section
set_option linter.unusedVariables false
set_option linter.unusedSimpArgs false
set_option linter.unusedSectionVars false
set_option maxHeartbeats 4000000
namespace Go.Proofs.YtjpaichcaaacbabDoor.HL
open Go Go.Proofs.YtjpaichcaaacbabDoorNum Go.Proofs.YtjpaichcaaacbabDoor.FEv
abbrev tTab : Nat := 66
abbrev tFn : Nat := 65
def gfun (k : Int) : FuncId := if k = 1 then 53 else if k = 2 then 54 else if k = 3 then 55 else if k = 4 then 57 else if k = 5 then 59 else 61
/-- The table, as it is known. -/
def GT (H : HH) : Prop := ∀ k : Nat, 1 ≤ k → k ≤ 6 → cellH H ⟨0, k, none⟩ = some (.func (.func (gfun k)) #[] #[])
theorem GT.ext {H H' : HH} (h : GT H) (he : Ext H H') : GT H' := fun k h1 h2 => cellH_ext he (h k h1 h2)
theorem GT.at {H : HH} (h : GT H) {k : Int} (hk : k = 1 ∨ k = 2 ∨ k = 3 ∨ k = 4 ∨ k = 5 ∨ k = 6) : ∃ a, AQ Tryd.prog (Instr.indexAt tTab (.pointer (some ⟨0, 0, none⟩)) (.int .i64 k)) (.pointer (some a)) ∧ QRun Tryd.prog (Instr.loadAt tFn (.pointer (some a))) H (.func (.func (gfun k)) #[] #[]) := by
  have ld : ∀ n : Nat, 1 ≤ n → n ≤ 6 → QRun Tryd.prog (Instr.loadAt tFn (.pointer (some ⟨0, n, none⟩))) H (.func (.func (gfun n)) #[] #[]) := fun n a b => q_ld (by kernel_rfl) (h n a b)
  rcases hk with rfl | rfl | rfl | rfl | rfl | rfl
  · exact ⟨⟨0, 1, none⟩, fun W => by kernel_rfl, ld 1 (by decide) (by decide)⟩
  · exact ⟨⟨0, 2, none⟩, fun W => by kernel_rfl, ld 2 (by decide) (by decide)⟩
  · exact ⟨⟨0, 3, none⟩, fun W => by kernel_rfl, ld 3 (by decide) (by decide)⟩
  · exact ⟨⟨0, 4, none⟩, fun W => by kernel_rfl, ld 4 (by decide) (by decide)⟩
  · exact ⟨⟨0, 5, none⟩, fun W => by kernel_rfl, ld 5 (by decide) (by decide)⟩
  · exact ⟨⟨0, 6, none⟩, fun W => by kernel_rfl, ld 6 (by decide) (by decide)⟩
section
variable {p : Nat} [NeZero p] {base : Nat} {H F : HH} {K : Value → HH → Prop} {Av Aw : Option Addr} {nv cv nw cw b : Nat} {v : List (Fin p)} {ws : List (List (Fin p))} {g : Gate}
theorem ms_set' (m : List (List (Fin p))) (i : Nat) (l : List (Fin p)) : (ms m).set i (vs l) = ms (m.set i l) := by simp [ms, List.map_set]
theorem h_gin {j : Nat} (kb : KB H b p Av nv cv Aw nw cw) (om : OwnMC base F H (.slice Aw nw cw) nw (ms ws)) (hf : g.frm = (j : Int) + 1) (hj : j < nw) (hj13 : j < 1000) (h0 : 0 < (rowL ws j).length)
    (hk : ∀ H', OwnMC base F H' (.slice Aw nw cw) nw (ms (ws.set j ((rowL ws j).drop 1))) → (∀ b o, (Value.slice Aw nw cw).ownBlock ≠ some b → H b = some o → H' b = some o) → K (.int .u64 (V (cf (rowL ws j) 0))) H') :
    HCall Tryd.prog base 53 #[.pointer (some ⟨b, 0, none⟩), .agg (gv g).toArray] H K := by
  refine cleartext_gates_1.spec ?_
  unfold cleartext_gates_1.sh
  refine h_gbox (g := g) (fun a H1 X1 ga => ?_)
  have wj : IntKind.i64.wrap (g.frm - 1) = (j : Int) := by rw [hf, w64 (by omega) (by omega)]; omega
  obtain ⟨rs, o, fz, hl, hrow⟩ := om.more X1
  have hwl : ws.length = nw := by have := o.1; rw [ms_length] at hl; omega
  obtain ⟨gw, cur, rfl, hb, hcur, hlt, hget⟩ := o.at hj
  have hmj : (ms ws)[j]? = some (vs (rowL ws j)) := by
    have : (ms ws).getD j [] = vs (rowL ws j) := ms_get ws j
    rw [← this]
    simp [show j < ws.length by omega]
  obtain ⟨A', c', h6, hcap, hrd⟩ := hrow j _ hmj
  rw [vs_length] at h6 hcap
  have qrow : QRun Tryd.prog (Instr.loadAt 39 (.pointer (some ⟨gw, j, none⟩))) H1 (.slice A' (rowL ws j).length c') := q_ld sc32 (by rw [cellH_blk hcur]; exact hget j _ h6)
  have kb1 := kb.ext X1
  refine ⟨_, rfl, _, fk2 b, _, _, _, kb1.qw, _, fg1 a, _, ga.frm, ?_⟩
  rw [wj]
  refine ⟨_, aq_own un23 info32 hj, _, _, _, qrow, _, fk2 b, _, _, _, kb1.qw, _, fg1 a, _, ga.frm, ?_⟩
  rw [wj]
  have hsl : AQ Tryd.prog (Instr.sliceAt 39 (.slice A' (rowL ws j).length c') (some (.int .i64 1)) none none) (.slice (if c' = 1 then A' else A'.map (·.add (1 * 1))) ((rowL ws j).length - 1) (c' - 1)) := fun W => by
    have he : Tryd.prog.elem 39 = 22 := by unfold Program.elem; rw [un32]
    have hh := run_slice_l W 39 A' (rowL ws j).length c' (he.symm ▸ un32) .i64 1 (by omega) (by omega)
    rw [run_sliceAt_slice W 39 _ _ _ _ (he.symm ▸ un32), hh, he, run_sz info22]
    simp only [Result.andThen, sliced]
    rfl
  refine ⟨_, _, _, hsl, _, aq_own un23 info32 hj, ?_⟩
  refine h_st info32 rfl hcur hb hlt ?_
  have hgF : F gw = none := fz.off gw (by simp [Value.ownBlock])
  have hob : (Value.slice (some ⟨gw, 0, none⟩) nw cw).ownBlock = some gw := by simp [Value.ownBlock]
  have XF : Ext F (upd H1 gw (.cells (cur.setIfInBounds j (.slice (if c' = 1 then A' else A'.map (·.add (1 * 1))) ((rowL ws j).length - 1) (c' - 1))) 39 (0, 0))) := fun k o hk => by
    rw [upd_ne _ (fun e => by rw [e, hgF] at hk; cases hk)]; exact fz.ext k o hk
  obtain ⟨a1, q1, q2⟩ := Row.at (H := F) (A := A') (n := (rowL ws j).length) (l := vs (rowL ws j)) ⟨(vs_length _).symm, hrd⟩ c' (i := 0) (by omega) (by omega)
  rw [show (0 : Int).toNat = 0 from rfl, vs_get] at q2
  refine ⟨a1, q1, _, q2.up XF, hk _ ?_ (fun k o hk ho => by
    rw [upd_ne _ (fun e => hk (by rw [e, hob]))]; exact X1 k o ho)⟩
  have hput := o.put hob hcur j (.slice (if c' = 1 then A' else A'.map (·.add (1 * 1))) ((rowL ws j).length - 1) (c' - 1))
  refine ⟨_, hput, ⟨XF, fz.off⟩, by rw [List.length_set, hl]; simp, fun i l hil => ?_⟩
  rw [← ms_set', List.getElem?_set] at hil
  by_cases e : j = i
  · subst e
    rw [if_pos rfl] at hil
    split at hil
    · have hil : vs ((rowL ws j).drop 1) = l := Option.some.inj hil
      subst hil
      refine ⟨if c' = 1 then A' else A'.map (·.add (1 * 1)), c' - 1, ?_, by rw [vs_length, List.length_drop]; omega, ?_⟩
      · rw [List.getElem?_set, if_pos rfl, if_pos (by have := o.1; omega), vs_length, List.length_drop]
      · have ed : us (vs ((rowL ws j).drop 1)) = (us (vs (rowL ws j))).drop 1 := by unfold us vs; rw [List.map_drop, List.map_drop]
        rw [ed]
        by_cases hc1 : c' = 1
        · left
          apply List.eq_nil_of_length_eq_zero
          rw [List.length_drop, us_length, vs_length]; omega
        · rw [if_neg hc1]
          rcases hrd with h | ⟨ad, rfl, h⟩
          · left; rw [h]; rfl
          · refine .inr ⟨_, rfl, fun i u hu => ?_⟩
            rw [Nat.mul_one, addr_add']
            rw [List.getElem?_drop] at hu
            exact h _ u hu
    · cases hil
  · rw [if_neg e] at hil
    obtain ⟨A2, c2, h7, h8, h9⟩ := hrow i l hil
    exact ⟨A2, c2, by rw [List.getElem?_set, if_neg e]; exact h7, h8, h9⟩
/-- The inputs that are left, behind i gates. -/
def wsAt (gs : List Gate) (w : List (List (Fin p))) (i : Nat) : List (List (Fin p)) := (List.range w.length).map fun j => (rowL w j).drop (cnt gs i ((j : Int) + 1))
@[simp] theorem wsAt_len (gs : List Gate) (w : List (List (Fin p))) (i : Nat) : (wsAt gs w i).length = w.length := by simp [wsAt]
theorem rowL_wsAt {gs : List Gate} {w : List (List (Fin p))} {i j : Nat} (h : j < w.length) : rowL (wsAt gs w i) j = (rowL w j).drop (cnt gs i ((j : Int) + 1)) := by
  unfold rowL wsAt
  rw [List.getD_eq_getElem?_getD, List.getElem?_map, List.getElem?_range h]; rfl
theorem wsAt_zero (gs : List Gate) (w : List (List (Fin p))) : wsAt gs w 0 = w := by
  apply List.ext_getElem (by simp)
  intro j h1 h2
  unfold wsAt rowL
  simp [cnt, h2]
theorem wsAt_step {gs : List Gate} {w : List (List (Fin p))} {i j : Nat} (hi : i < gs.length) (h1 : (gs.getD i gate0).kind = 1) (hf : (gs.getD i gate0).frm = (j : Int) + 1) (hj : j < w.length) : (wsAt gs w i).set j ((rowL (wsAt gs w i) j).drop 1) = wsAt gs w (i + 1) := by
  rw [rowL_wsAt hj, List.drop_drop]
  unfold wsAt
  refine set_range _ _ hj _ ?_ (fun k hk hne => ?_)
  · rw [cnt_succ hi, isIn_at h1 hf]; simp
  · rw [cnt_succ hi, isIn_at h1 hf, decide_eq_false hne]; simp
theorem wsAt_same {gs : List Gate} {w : List (List (Fin p))} {i : Nat} (hi : i < gs.length) (h1 : (gs.getD i gate0).kind ≠ 1) : wsAt gs w (i + 1) = wsAt gs w i := by
  unfold wsAt
  apply List.map_congr_left
  intro j _
  rw [cnt_succ hi, isIn_not h1]; rfl
theorem h_gate (hp : Sup p) {gs : List Gate} {w : List (List (Fin p))} {i : Nat} (hi : i < gs.length) (gok : GOK p i (gs.getD i gate0)) (nnk : 0 ≤ (gs.getD i gate0).k) (kb : KB H b p Av nv cv Aw nw cw) (hv : Row H Av nv (vs v)) (hnv : nv = i) (om : OwnMC base F H (.slice Aw nw cw) nw (ms (wsAt gs w i)))
    (hin : (gs.getD i gate0).kind = 1 → ∃ j : Nat, (gs.getD i gate0).frm = (j : Int) + 1 ∧ j < nw ∧ cnt gs i ((j : Int) + 1) < (rowL w j).length)
    (hk : ∀ H', OwnMC base F H' (.slice Aw nw cw) nw (ms (wsAt gs w (i + 1))) → (∀ b o, (Value.slice Aw nw cw).ownBlock ≠ some b → H b = some o → H' b = some o) → K (.int .u64 (V (stepV gs w v i))) H') :
    HCall Tryd.prog base (gfun (gs.getD i gate0).kind) #[.pointer (some ⟨b, 0, none⟩), .agg (gv (gs.getD i gate0)).toArray] H K := by
  have keep : ∀ {H' : HH}, (gs.getD i gate0).kind ≠ 1 → Ext H H' → OwnMC base F H' (.slice Aw nw cw) nw (ms (wsAt gs w (i + 1))) := fun h1 X => by
    rw [wsAt_same hi h1]
    exact om.more X
  unfold stepV at hk
  rcases gok.kinds with h | h | h | h | h | h
  · obtain ⟨j, hf, hj, hc⟩ := hin h
    have hwl : w.length = nw := by
      obtain ⟨rs, o, _, hl, _⟩ := om
      have := o.1
      rw [ms_length, wsAt_len] at hl
      omega
    have gi := gok.inp h
    have e : gfun (gs.getD i gate0).kind = 53 := by unfold gfun; rw [if_pos h]
    rw [e]
    refine h_gin (j := j) kb om hf hj (by omega) (by rw [rowL_wsAt (by omega), List.length_drop]; omega) (fun H' om' kp => ?_)
    rw [wsAt_step hi h hf (by omega)] at om'
    have := hk H' om' kp
    rw [if_pos h, hf, show ((j : Int) + 1 - 1).toNat = j by omega] at this
    rw [rowL_wsAt (by omega), cf_drop, Nat.add_zero]
    exact this
  · have n1 : (gs.getD i gate0).kind ≠ 1 := by omega
    have e : gfun (gs.getD i gate0).kind = 54 := by unfold gfun; rw [if_neg n1, if_pos h]
    rw [e]
    refine h_gconst (x := .int .u64 0) _ (fun H' X => ?_)
    have := hk H' (keep n1 X) (fun b o _ ho => X b o ho)
    rw [if_neg n1, if_pos h, V_E_lt nnk (gok.con h)] at this
    exact this
  · have n1 : (gs.getD i gate0).kind ≠ 1 := by omega
    have n2 : (gs.getD i gate0).kind ≠ 2 := by omega
    have e : gfun (gs.getD i gate0).kind = 55 := by unfold gfun; rw [if_neg n1, if_neg n2, if_pos h]
    rw [e]
    obtain ⟨a0, a1, b0, b1⟩ := gok.two (by omega)
    refine h_gadd hp kb hv a0 (by omega) b0 (by omega) (fun H' X => ?_)
    have := hk H' (keep n1 X) (fun b o _ ho => X b o ho)
    rw [if_neg n1, if_neg n2, if_pos h] at this
    exact this
  · have n1 : (gs.getD i gate0).kind ≠ 1 := by omega
    have n2 : (gs.getD i gate0).kind ≠ 2 := by omega
    have n3 : (gs.getD i gate0).kind ≠ 3 := by omega
    have e : gfun (gs.getD i gate0).kind = 57 := by unfold gfun; rw [if_neg n1, if_neg n2, if_neg n3, if_pos h]
    rw [e]
    obtain ⟨a0, a1, b0, b1⟩ := gok.two (by omega)
    refine h_gsub hp kb hv a0 (by omega) b0 (by omega) (fun H' X => ?_)
    have := hk H' (keep n1 X) (fun b o _ ho => X b o ho)
    rw [if_neg n1, if_neg n2, if_neg n3, if_pos h] at this
    exact this
  · have n1 : (gs.getD i gate0).kind ≠ 1 := by omega
    have n2 : (gs.getD i gate0).kind ≠ 2 := by omega
    have n3 : (gs.getD i gate0).kind ≠ 3 := by omega
    have n4 : (gs.getD i gate0).kind ≠ 4 := by omega
    have e : gfun (gs.getD i gate0).kind = 59 := by unfold gfun; rw [if_neg n1, if_neg n2, if_neg n3, if_neg n4, if_pos h]
    rw [e]
    obtain ⟨k1, a0, a1⟩ := gok.sc h
    refine h_gscale hp kb hv a0 (by omega) nnk k1 (fun H' X => ?_)
    have := hk H' (keep n1 X) (fun b o _ ho => X b o ho)
    rw [if_neg n1, if_neg n2, if_neg n3, if_neg n4, if_pos h] at this
    exact this
  · have n1 : (gs.getD i gate0).kind ≠ 1 := by omega
    have n2 : (gs.getD i gate0).kind ≠ 2 := by omega
    have n3 : (gs.getD i gate0).kind ≠ 3 := by omega
    have n4 : (gs.getD i gate0).kind ≠ 4 := by omega
    have n5 : (gs.getD i gate0).kind ≠ 5 := by omega
    have e : gfun (gs.getD i gate0).kind = 61 := by unfold gfun; rw [if_neg n1, if_neg n2, if_neg n3, if_neg n4, if_neg n5]
    rw [e]
    obtain ⟨a0, a1, b0, b1⟩ := gok.two (by omega)
    refine h_gmul hp kb hv a0 (by omega) b0 (by omega) (fun H' X => ?_)
    have := hk H' (keep n1 X) (fun b o _ ho => X b o ho)
    rw [if_neg n1, if_neg n2, if_neg n3, if_neg n4, if_neg n5] at this
    exact this
end
end Go.Proofs.YtjpaichcaaacbabDoor.HL
end
section
set_option linter.unusedVariables false
set_option linter.unusedSimpArgs false
set_option linter.unusedSectionVars false
set_option maxHeartbeats 4000000
namespace Go.Proofs.YtjpaichcaaacbabDoor.HL
open Go Go.Proofs.YtjpaichcaaacbabDoorNum Go.Proofs.YtjpaichcaaacbabDoor.FEv
theorem OwnMC.ne {base : Nat} {F H : HH} {v : Value} {n b T : Nat} {m : List (List Int)} {cur : Array Value} (om : OwnMC base F H v n m) (hb : H b = some (.cells cur T (0, 0))) (hT : 39 ≠ T) : v.ownBlock ≠ some b := fun e => by
  obtain ⟨cu, hc⟩ := om.known e
  rw [hb] at hc
  exact hT (cells_tag hc).symm
theorem eff_ok {p : Nat} [NeZero p] {gs : List Gate} {ins : List (List Int)} (hf : fitsB p gs ins = true) (hn : ∀ l ∈ ins, ∀ x ∈ l, 0 ≤ x) (hp : 0 < p) {j : Nat} (hj : j < ins.length) : ∀ x ∈ effR gs (ins.getD j []) ((j : Int) + 1), 0 ≤ x ∧ x < (p : Int) := fun x hx => by
  rcases effR_mem hx with e | e
  · omega
  · exact ⟨hn _ (getD_memL hj) x e, ((fitsB_iff.1 hf).2 j hj).2 x e⟩
theorem eff_ms {p : Nat} [NeZero p] {gs : List Gate} {ins : List (List Int)} (hf : fitsB p gs ins = true) (hn : ∀ l ∈ ins, ∀ x ∈ l, 0 ≤ x) (hp : 0 < p) : effL gs ins = ms (ef p gs ins) := by
  refine ext_getD (by simp [ef]) (fun j hj => ?_)
  rw [effL_len] at hj
  rw [effL_get hj, ms_get, rowL_ef hj, V_of (eff_ok hf hn hp hj)]
theorem ef_len {p : Nat} [NeZero p] {gs : List Gate} {ins : List (List Int)} : (ef p gs ins).length = ins.length := by simp [ef]
section
variable {base : Nat} {H : HH} {K : Value → HH → Prop} {A A' B : Option Addr} {n n' c c' m d : Nat} {P : Int} {gs : List Gate} {outs : List Int} {ins : List (List Int)}
theorem h_evg (hG : Gl H) (hT : GT H) (hg : Gs H A n gs) (ho : Outs H A' n' outs) (hi : MatC H B m ins) (hnn : ∀ g ∈ gs, 0 ≤ g.k) (hni : ∀ l ∈ ins, ∀ x ∈ l, 0 ≤ x) (hz1 : ins.length ≤ 1000) (hz : ∀ l ∈ ins, l.length ≤ 100000)
    (hk1 : ∀ (p : Nat) (_ : NeZero p), Sup p → P = p → VOK P gs outs → fitsB P gs ins = true → ∀ A1 c1 H', Ext H H' → Row H' A1 gs.length (vs (evL gs (ef p gs ins) gs.length)) → gs.length ≤ c1 → K (.tuple #[.slice A1 gs.length c1, .int .i64 0]) H')
    (hk2 : ¬ (validB P gs outs = true ∧ fitsB P gs ins = true) → ∀ H', Ext H H' → K (.tuple #[.slice none 0 0, .int .i64 1]) H') :
    HCall Tryd.prog base 14 #[.agg #[.int .u64 P, .slice A n c, .slice A' n' c'], .slice B m d] H K := by
  refine cleartext_EvaluateGates.spec ?_
  unfold cleartext_EvaluateGates.sh
  refine h_cbox (fun xb H1 X1 cb => ⟨_, rfl, _, _, _, _, _, _, _, cb.all, h_valid (hG.ext X1) (hg.ext X1) (ho.ext X1) (fun H2 X2 => ⟨_, rfl, ?_⟩)⟩)
  cases hval : validB P gs outs with
  | false =>
    rw [if_pos (by decide)]
    exact hk2 (fun h => by rw [hval] at h; cases h.1) H2 (X1.trans X2)
  | true =>
  rw [if_neg (by decide)]
  have hv := validB_iff.1 hval
  have X12 := X1.trans X2
  refine ⟨_, _, _, _, _, _, _, (cb.ext X2).all, h_counted (outs := outs) (hg.ext X12) (hi.ext X12) hv hnn hz1 hz (fun hfit F Aw cw H3 XF om => ⟨_, _, _, _, rfl, ?_⟩) (fun hno H3 X3 => ⟨_, _, _, _, rfl, ?_⟩)⟩
  rotate_left
  · rw [if_pos (by decide)]
    exact hk2 (fun h => by rw [hno] at h; cases h.2) H3 (X12.trans X3)
  rw [if_neg (by decide)]
  obtain ⟨p, hp, rfl⟩ := supB_iff.1 hv.sup
  have hz' := hp.ne
  have hp0 : 0 < p := by have := hp.le; have := hp; unfold Sup at this; omega
  have XH3 := om.frz.ext
  have X2F := XF
  have X1F := X2.trans XF
  have XF0 : Ext H F := X12.trans XF
  have gsn := hg.1
  have mm := hi.1
  subst gsn
  rw [eff_ms hfit hni hp0] at om
  have hef : (ef p gs ins).length = m := by rw [ef_len]; exact mm.symm
  have hrl : ∀ j, j < m → (rowL (ef p gs ins) j).length = cnt gs gs.length ((j : Int) + 1) := fun j hj => by
    rw [rowL_ef (by omega), List.length_map, effR_len]
    exact ((fitsB_iff.1 hfit).2 j (by omega)).1
  have hk1 := hk1 p hz' hp rfl hv hfit
  generalize ef p gs ins = w at om hef hrl hk1
  have cb3 := (cb.ext X1F).ext XH3
  refine ⟨_, fc0 xb, _, cb3.qp, _, _, _, _, _, _, _, (show AQ Tryd.prog (Instr.build tKn #[(0, .int .u64 (p : Int)), (2, .slice Aw m cw)]) (.agg #[.int .u64 (p : Int), .slice none 0 0, .slice Aw m cw]) from fun W => by kernel_rfl), ?_⟩
  refine h_box (fun b hb hbase => ⟨_, rfl, ?_⟩)
  have X4 : Ext H3 (upd H3 b (.cells (Value.agg #[.int .u64 (p : Int), .slice none 0 0, .slice Aw m cw]).cells tKn)) := Ext.upd hb _
  have kb0 : KB (upd H3 b (.cells (Value.agg #[.int .u64 (p : Int), .slice none 0 0, .slice Aw m cw]).cells tKn)) b p none 0 0 Aw m cw := upd_self _ _ _
  have hFb : F b = none := XH3.none hb
  have om4 := om.more X4
  have cb4 := cb3.ext X4
  generalize upd H3 b (.cells (Value.agg #[.int .u64 (p : Int), .slice none 0 0, .slice Aw m cw]).cells tKn) = H4 at X4 kb0 om4 cb4 ⊢
  refine ⟨_, fc1 xb, _, _, _, cb4.qgs, ?_⟩
  rw [← wsAt_zero gs w] at om4
  refine cleartext_EvaluateGates.loop0 (fun k y H' => ∃ i : Nat, y = i ∧ i ≤ gs.length ∧ k = gs.length - i ∧ ∃ Av cv, KB H' b p Av i cv Aw m cw ∧ Own base H' 22 1 (.slice Av i cv) i (us (vs (evL gs w i))) ∧ Frz F H' (.slice Av i cv) ∧ OwnMC base F H' (.slice Aw m cw) m (ms (wsAt gs w i))) gs.length
    ⟨0, rfl, Nat.zero_le _, rfl, none, 0, kb0, Own.nil _ _ _ _, ⟨om4.frz.ext, fun b hb => by simp [Value.ownBlock] at hb⟩, om4⟩ ?_
  rintro k y fr H5 ⟨i, rfl, hi', rfl, Av, cv, kb, ov, fv, om5⟩
  unfold cleartext_EvaluateGates.B0
  have XF5 := om5.frz.ext
  by_cases hlt : i < gs.length
  · rw [if_pos (decide_eq_true (by omega))]
    obtain ⟨a, q1, q2⟩ := (hg.ext XF0).at c (i := i) hlt
    have gok := hv.gok hnn hlt
    refine ⟨a, q1, _, _, _, _, _, q2.all.up XF5, h_gvar (fun ad H6 X6 ga => ?_)⟩
    have kb6 := kb.ext X6
    obtain ⟨at_, t1, t2⟩ := (hT.ext (XF0.trans XF5)).at gok.kinds
    refine ⟨_, fk1 b, _, _, _, kb6.qv, _, fg0 ad, _, ga.kind, at_, t1, _, t2.up X6, _, _, _, _, _, ga.all, ?_⟩
    have om6 := om5.more X6
    refine h_gate hp hlt gok (nn_get hnn i) kb6 (ov.ext X6).row rfl om6 (fun h1 => ?_) (fun H7 om7 kp => ?_)
    · obtain ⟨f1, f2, f3⟩ := gok.inp h1
      obtain ⟨j, hj⟩ : ∃ j : Nat, (gs.getD i gate0).frm = (j : Int) + 1 := ⟨((gs.getD i gate0).frm - 1).toNat, by omega⟩
      have hjm : j < m := by have := (fitsB_iff.1 hfit).1 _ (getD_memG hlt) h1; omega
      refine ⟨j, hj, hjm, ?_⟩
      rw [hrl j hjm]
      exact cnt_lt hlt (Nat.le_refl _) (by rw [isIn_at h1 hj]; simp)
    · have kb7 : KB H7 b p Av i cv Aw m cw := kp b _ (om6.ne kb6 (by decide)) kb6
      have ov6 := ov.ext X6
      have ov7 : Own base H7 22 1 (.slice Av i cv) i (us (vs (evL gs w i))) := ov6.move (fun b' o hb' hx => kp b' o (fun e => by
        obtain ⟨_, cu, hc⟩ := ov6.known hb'
        exact om6.ne hc (by decide) e) hx)
      have fv7 : Frz F H7 (.slice Av i cv) := ⟨om7.frz.ext, fv.off⟩
      refine ⟨_, rfl, kb7.qv, ?_⟩
      refine h_pushR un32 inf22 rfl (by decide) rfl ov7 (by have := hv.len; omega) (R := fun H15 => QRun Tryd.prog (Instr.loadAt 39 (.pointer (some ⟨b, 1, none⟩))) H15 (.slice Av i cv)) (fun H15 he => kb7.qv.up he) (fun A8 c8 H8 o8 g8 => ?_)
      have nev : (Value.slice Av i cv).ownBlock ≠ some b := fun e => by
        obtain ⟨_, cu, hc⟩ := ov7.known e
        rw [kb7] at hc
        exact absurd (cells_tag hc) (by decide)
      have kb8 : KB H8 b p Av i cv Aw m cw := g8.keep b _ nev kb7
      have om8 : OwnMC base F H8 (.slice Aw m cw) m (ms (wsAt gs w (i + 1))) := om7.keep (fun b' o hb' hx => g8.keep b' o (fun e => by
        obtain ⟨_, cu, hc⟩ := ov7.known e
        obtain ⟨cu2, hc2⟩ := om7.known hb'
        rw [hc2] at hc
        exact absurd (cells_tag hc) (by decide)) hx) (fv7.grow g8).ext
      refine ⟨_, fk1 b, ?_⟩
      refine h_st info32 rfl kb8 hbase (by show 1 < 3; decide) ?_
      have ne8 : (Value.slice A8 (i + 1) c8).ownBlock ≠ some b := fun e => by
        obtain ⟨_, cu, hc⟩ := o8.known e
        rw [kb8] at hc
        exact absurd (cells_tag hc) (by decide)
      refine ⟨gs.length - i - 1, by omega, _, rfl, i + 1, nxt (n := 1000000) (by have := hv.len; omega) (by decide), by omega, by omega, A8, c8, ?_, ?_, (fv7.grow g8).upd hFb _, ?_⟩
      · show upd H8 b _ b = _
        rw [upd_self]; rfl
      · have := o8.far ne8 (.cells ((#[Value.int .u64 (p : Int), .slice Av i cv, .slice Aw m cw] : Array Value).setIfInBounds 1 (.slice A8 (i + 1) c8)) tKn (0, 0))
        rw [evL, vs_snoc, us_snoc]
        exact this
      · exact om8.keep (fun b' o hb' hx => by rw [upd_ne _ (fun e => by subst e; exact om8.ne kb8 (by decide) hb')]; exact hx) ((fv7.grow g8).upd hFb _).ext
  · rw [if_neg (fun h => hlt (by have := of_decide_eq_true h; omega))]
    obtain rfl : i = gs.length := by omega
    obtain ⟨_, _, e, hcap, _⟩ := ov.slice
    cases e
    exact ⟨_, fk1 b, _, _, _, kb.qv, hk1 _ _ H5 (XF0.trans XF5) ov.row hcap⟩
/-- The outputs' values. -/
def outL {p : Nat} [NeZero p] (outs : List Int) (v : List (Fin p)) : List (Fin p) := outs.map fun x => cf v x.toNat
theorem outL_len {p : Nat} [NeZero p] (outs : List Int) (v : List (Fin p)) : (outL outs v).length = outs.length := by simp [outL]
theorem h_eval33 (hG : Gl H) (hT : GT H) (hg : Gs H A n gs) (ho : Outs H A' n' outs) (hi : MatC H B m ins) (hnn : ∀ g ∈ gs, 0 ≤ g.k) (hni : ∀ l ∈ ins, ∀ x ∈ l, 0 ≤ x) (hz1 : ins.length ≤ 1000) (hz : ∀ l ∈ ins, l.length ≤ 100000)
    (hk1 : ∀ (p : Nat) (_ : NeZero p), Sup p → P = p → VOK P gs outs → fitsB P gs ins = true → ∀ A1 c1 H', Ext H H' → Row H' A1 outs.length (vs (outL outs (evL gs (ef p gs ins) gs.length))) → K (.tuple #[.slice A1 outs.length c1, .int .i64 0]) H')
    (hk2 : ¬ (validB P gs outs = true ∧ fitsB P gs ins = true) → ∀ H', Ext H H' → K (.tuple #[.slice none 0 0, .int .i64 1]) H') :
    HCall Tryd.prog base 12 #[.agg #[.int .u64 P, .slice A n c, .slice A' n' c'], .slice B m d] H K := by
  refine cleartext_Evaluate.spec ?_
  unfold cleartext_Evaluate.sh
  refine h_cbox (fun xb H1 X1 cb => ⟨_, rfl, _, _, _, _, _, _, _, cb.all, h_evg (hG.ext X1) (hT.ext X1) (hg.ext X1) (ho.ext X1) (hi.ext X1) hnn hni hz1 hz (fun p hz' hp hP hv hfit A1 c1 H2 X2 r2 _ => ⟨_, _, _, _, rfl, ?_⟩) (fun hno H2 X2 => ⟨_, _, _, _, rfl, ?_⟩)⟩)
  rotate_left
  · rw [if_pos (by decide)]
    exact hk2 hno H2 (X1.trans X2)
  rw [if_neg (by decide)]
  have X12 := X1.trans X2
  have hk1 := hk1 p hz' hp hP hv hfit
  generalize hw : evL gs (ef p gs ins) gs.length = v at r2 hk1
  have hvl : v.length = gs.length := by rw [← hw, evL_len]
  have on := ho.1
  subst on
  refine ⟨_, fc2 xb, _, _, _, (cb.ext X2).qouts, ?_⟩
  refine cleartext_Evaluate.loop0 (fun k A8 l8 c8 y H' => ∃ j : Nat, y = j ∧ j ≤ outs.length ∧ k = outs.length - j ∧ l8 = j ∧ Own base H' 22 1 (.slice A8 j c8) j (us (vs (outL (outs.take j) v))) ∧ Frz H2 H' (.slice A8 j c8)) outs.length ⟨0, rfl, Nat.zero_le _, rfl, rfl, Own.nil _ _ _ _, Frz.nil _⟩ ?_
  rintro k A8 l8 c8 y fr H3 ⟨j, rfl, hj, rfl, rfl, o3, f3⟩
  unfold cleartext_Evaluate.B0
  have holen := hv.olen
  by_cases hlt : l8 < outs.length
  · rw [if_pos (decide_eq_true (by omega))]
    obtain ⟨a, q1, q2⟩ := ((ho.ext X12).ext f3.ext).at c' (i := l8) hlt
    have hox := hv.outs (outs.getD l8 0) (by
      have : outs.getD l8 0 = outs[l8] := by simp [hlt]
      rw [this]; exact List.getElem_mem _)
    obtain ⟨a2, p1, p2⟩ := (r2.ext f3.ext).at c1 (i := outs.getD l8 0) hox.1 hox.2
    rw [vs_get] at p2
    refine ⟨a, q1, _, q2, a2, p1, _, p2, ?_⟩
    refine h_push un32 inf22 rfl (by decide) rfl o3 (by omega) (fun A4 c4 H4 o4 g4 => ?_)
    refine ⟨outs.length - l8 - 1, by omega, _, _, _, _, rfl, rfl, l8 + 1, nxt (n := 1000000) (by omega) (by decide), by omega, by omega, rfl, ?_, f3.grow g4⟩
    have : outL (outs.take (l8 + 1)) v = outL (outs.take l8) v ++ [cf v (outs.getD l8 0).toNat] := take_succ_map _ hlt 0
    rw [this, vs_snoc, us_snoc]
    exact o4
  · rw [if_neg (fun h => hlt (by have := of_decide_eq_true h; omega))]
    obtain rfl : l8 = outs.length := by omega
    rw [List.take_of_length_le (Nat.le_refl _)] at o3
    exact hk1 _ _ H3 (X12.trans f3.ext) o3.row
end
end Go.Proofs.YtjpaichcaaacbabDoor.HL
end
namespace Go.Proofs.YtjpaichcaaacbabDoor.HL
end Go.Proofs.YtjpaichcaaacbabDoor.HL
section
set_option linter.unusedVariables false
set_option linter.unusedSimpArgs false
set_option linter.unusedSectionVars false
set_option maxHeartbeats 8000000
set_option maxRecDepth 4000
namespace Go.Proofs.YtjpaichcaaacbabDoor.HL
open Go Go.Proofs.YtjpaichcaaacbabDoorNum Go.Proofs.YtjpaichcaaacbabDoor.FEv
section
variable {base : Nat} {H : HH} {K : Value → HH → Prop} {A A' : Option Addr} {n n' c c' : Nat} {p : Int}
theorem h_cvar {old : Value} {C : Addr → HH → Prop} (hk : ∀ b H', Ext H H' → CB H' b p A n c A' n' c' → C ⟨b, 0, none⟩ H') :
    HRun Tryd.prog base (Instr.alloc tC true old) H fun v H1 => ∃ a : Addr, v = .pointer (some a) ∧ HRun Tryd.prog base (Instr.storeAt tC (.pointer (some a)) (.agg #[.int .u64 p, .slice A n c, .slice A' n' c'])) H1 fun _ H2 => C a H2 :=
  h_var (vs := [.int .u64 p, .slice A n c, .slice A' n' c']) (z := .agg #[.int .u64 0, .slice none 0 0, .slice none 0 0]) (by kernel_rfl) rfl (by kernel_rfl) rfl (fun b H' he hbase hn hb => hk _ H' he hb)
theorem lit_rd {gb T : Nat} {cs : Array Value} {xs : List Value} (h : cs.toList = xs) : Rd (upd H gb (.cells cs T)) (some ⟨gb, 0, none⟩) xs :=
  .inr ⟨_, rfl, fun i u hu => by
    rw [add0, cellH_blk (upd_self _ _ _), ← Array.getElem?_toList, h]
    exact hu⟩
theorem lit_o1 {x : Int} {C : Value → HH → Prop} (hk : ∀ A' H', Ext H H' → Outs H' A' 1 [x] → C (.slice A' 1 1) H') : HRun Tryd.prog base (Instr.buildSlice tInts 1 #[(0, .int .i64 x)]) H C := by
  have hfill : Instr.fill (fun i => some (i * 1, 1)) (madeCells (Value.int .i64 0).cells (1 * 1)) [(0, .int .i64 x)] = some #[.int .i64 x] := by kernel_rfl
  exact h_lit (sz := 1) (z := .int .i64 0) (cs := #[.int .i64 x]) unInts (by kernel_rfl) (by decide) hfill (by decide) (fun gb hgb hbase => hk _ _ (Ext.upd hgb _) ⟨rfl, lit_rd rfl⟩)
theorem aq_gate0 : (Tryd.prog.info? tGate).map (fun i => (i.zero, i.size, i.bytes)) = some (some (.agg (gv gate0).toArray), 5, 40) := by kernel_rfl
end
end Go.Proofs.YtjpaichcaaacbabDoor.HL
end
section
set_option linter.unusedVariables false
set_option linter.unusedSimpArgs false
set_option linter.unusedSectionVars false
set_option maxHeartbeats 8000000
namespace Go.Proofs.YtjpaichcaaacbabDoor.HL
open Go Go.Proofs.YtjpaichcaaacbabDoorNum Go.Proofs.YtjpaichcaaacbabDoor.FEv
/-- A circuit and inputs in memory, small. -/
structure In33 (H : HH) (A : Option Addr) (n : Nat) (gs : List Gate) (A' : Option Addr) (n' : Nat) (outs : List Int) (B : Option Addr) (m : Nat) (ins : List (List Int)) : Prop where
  G : Gl H
  T : GT H
  g : Gs H A n gs
  o : Outs H A' n' outs
  i : MatC H B m ins
  nn : ∀ g ∈ gs, 0 ≤ g.k
  ni : ∀ l ∈ ins, ∀ x ∈ l, 0 ≤ x
  fg : gs.length ≤ 60
  fo : outs.length ≤ 60
  fi : ins.length ≤ 20
  fr : ∀ l ∈ ins, l.length ≤ 60
section
variable {base : Nat} {H H' : HH} {K : Value → HH → Prop} {A A' B : Option Addr} {n n' c c' m d : Nat} {P : Int} {gs : List Gate} {outs : List Int} {ins : List (List Int)}
theorem In33.ext (I : In33 H A n gs A' n' outs B m ins) (X : Ext H H') : In33 H' A n gs A' n' outs B m ins :=
  ⟨I.G.ext X, I.T.ext X, I.g.ext X, I.o.ext X, I.i.ext X, I.nn, I.ni, I.fg, I.fo, I.fi, I.fr⟩
theorem evg_no (I : In33 H A n gs A' n' outs B m ins) (h : ¬ (validB P gs outs = true ∧ fitsB P gs ins = true)) (hk : ∀ H', Ext H H' → K (.tuple #[.slice none 0 0, .int .i64 1]) H') : HCall Tryd.prog base 14 #[.agg #[.int .u64 P, .slice A n c, .slice A' n' c'], .slice B m d] H K :=
  h_evg I.G I.T I.g I.o I.i I.nn I.ni (by have := I.fi; omega) (fun l hl => by have := I.fr l hl; omega) (fun p hz hp hP hv hf => absurd ⟨validB_iff.2 hv, hf⟩ h) (fun _ => hk)
theorem ev_no (I : In33 H A n gs A' n' outs B m ins) (h : ¬ (validB P gs outs = true ∧ fitsB P gs ins = true)) (hk : ∀ H', Ext H H' → K (.tuple #[.slice none 0 0, .int .i64 1]) H') : HCall Tryd.prog base 12 #[.agg #[.int .u64 P, .slice A n c, .slice A' n' c'], .slice B m d] H K :=
  h_eval33 I.G I.T I.g I.o I.i I.nn I.ni (by have := I.fi; omega) (fun l hl => by have := I.fr l hl; omega) (fun p hz hp hP hv hf => absurd ⟨validB_iff.2 hv, hf⟩ h) (fun _ => hk)
end
section
variable {p : Nat} [hz : NeZero p] {base : Nat} {H H' : HH} {K : Value → HH → Prop} {A A' B : Option Addr} {n n' c c' m d : Nat} {gs : List Gate} {outs : List Int} {ins : List (List Int)}
theorem evg_ok (I : In33 H A n gs A' n' outs B m ins) (hv : VOK p gs outs) (hf : fitsB p gs ins = true) (hk : ∀ A1 c1 H', Ext H H' → Row H' A1 gs.length (vs (evL gs (ef p gs ins) gs.length)) → gs.length ≤ c1 → K (.tuple #[.slice A1 gs.length c1, .int .i64 0]) H') : HCall Tryd.prog base 14 #[.agg #[.int .u64 p, .slice A n c, .slice A' n' c'], .slice B m d] H K :=
  h_evg I.G I.T I.g I.o I.i I.nn I.ni (by have := I.fi; omega) (fun l hl => by have := I.fr l hl; omega) (fun q hz' hp hP _ _ A1 c1 H' X r hc => by
    obtain rfl : q = p := by omega
    exact hk A1 c1 H' X r hc) (fun h => absurd ⟨validB_iff.2 hv, hf⟩ h)
theorem ev_ok (I : In33 H A n gs A' n' outs B m ins) (hv : VOK p gs outs) (hf : fitsB p gs ins = true) (hk : ∀ A1 c1 H', Ext H H' → Row H' A1 outs.length (vs (outL outs (evL gs (ef p gs ins) gs.length))) → K (.tuple #[.slice A1 outs.length c1, .int .i64 0]) H') : HCall Tryd.prog base 12 #[.agg #[.int .u64 p, .slice A n c, .slice A' n' c'], .slice B m d] H K :=
  h_eval33 I.G I.T I.g I.o I.i I.nn I.ni (by have := I.fi; omega) (fun l hl => by have := I.fr l hl; omega) (fun q hz' hp hP _ _ A1 c1 H' X r => by
    obtain rfl : q = p := by omega
    exact hk A1 c1 H' X r) (fun h => absurd ⟨validB_iff.2 hv, hf⟩ h)
end
/-- The circuit is valid and the inputs fit, over a prime. -/
theorem ok_split {P : Int} {gs : List Gate} {outs : List Int} {ins : List (List Int)} {Q : Prop} (h1 : ∀ (p : Nat) (_ : NeZero p), Sup p → P = p → VOK p gs outs → fitsB p gs ins = true → Q) (h2 : ¬ (validB P gs outs = true ∧ fitsB P gs ins = true) → Q) : Q := by
  by_cases h : validB P gs outs = true ∧ fitsB P gs ins = true
  · have hv := validB_iff.1 h.1
    obtain ⟨p, hp, rfl⟩ := supB_iff.1 hv.sup
    exact h1 p hp.ne hp rfl hv h.2
  · exact h2 h
section
end
end Go.Proofs.YtjpaichcaaacbabDoor.HL
end
section
set_option linter.unusedVariables false
set_option linter.unusedSimpArgs false
set_option linter.unusedSectionVars false
set_option maxHeartbeats 8000000
namespace Go.Proofs.YtjpaichcaaacbabDoor.HL
open Go Go.Proofs.YtjpaichcaaacbabDoorNum Go.Proofs.YtjpaichcaaacbabDoor.FEv
theorem gc_take : ∀ (gs : List Gate) (k : Nat), (gc gs).take (k * 5) = gc (gs.take k)
  | [], k => by simp [gc]
  | g :: gs, 0 => by simp [gc]
  | g :: gs, k + 1 => by
    have := gc_take gs k
    unfold gc at this ⊢
    rw [List.take_succ_cons, List.flatMap_cons, List.flatMap_cons, ← this, List.take_append]
    rw [List.take_of_length_le (by show 5 ≤ _; omega)]
    congr 2
    show (k + 1) * 5 - 5 = k * 5
    omega
theorem is_take (l : List Int) (k : Nat) : us (l.take k) = (us l).take k := by simp [us]
section
variable {base : Nat} {H : HH} {A A' B : Option Addr} {n n' c c' m d : Nat} {P : Int} {gs : List Gate} {outs : List Int} {ins : List (List Int)}
theorem Gs.take (h : Gs H A n gs) {k : Nat} (hk : k ≤ n) : Gs H A k (gs.take k) := ⟨by rw [List.length_take]; have := h.1; omega, by have := h.2.take (k * 5); rwa [gc_take] at this⟩
theorem Row.take {l : List Int} (h : Row H A n l) {k : Nat} (hk : k ≤ n) : Row H A k (l.take k) := ⟨by rw [List.length_take]; have := h.1; omega, by have := h.2.take k; rwa [is_take]⟩
theorem Outs.none (H : HH) : Outs H none 0 [] := ⟨rfl, .inl rfl⟩
end
section
end
end Go.Proofs.YtjpaichcaaacbabDoor.HL
end
section
set_option linter.unusedVariables false
set_option linter.unusedSimpArgs false
set_option linter.unusedSectionVars false
set_option maxHeartbeats 8000000
namespace Go.Proofs.YtjpaichcaaacbabDoor.HL
open Go Go.Proofs.YtjpaichcaaacbabDoorNum Go.Proofs.YtjpaichcaaacbabDoor.FEv
/-- A row of slices of the call's own; the one at k is of the call's own too, the others are frozen in F. -/
structure Sp (base : Nat) (F H : HH) (A : Option Addr) (n c k : Nat) (A1 : Option Addr) (q c1 : Nat) (ins : List (List Int)) (l : List Int) : Prop where
  ext : Ext F H
  rs : ∃ rs : List Value, Own base H 39 1 (.slice A n c) n rs ∧ rs.length = ins.length ∧ rs[k]? = some (.slice A1 q c1) ∧ ∀ (i : Nat) (x : List Int), i ≠ k → ins[i]? = some x → ∃ A' c', rs[i]? = some (.slice A' x.length c') ∧ x.length ≤ c' ∧ Rd F A' (us x)
  row : Own base H 22 1 (.slice A1 q c1) q (us l)
  off : ∀ b, (Value.slice A n c).ownBlock = some b → F b = none
  off1 : ∀ b, (Value.slice A1 q c1).ownBlock = some b → F b = none
section
variable {base : Nat} {H H2 H' F : HH} {A A1 B : Option Addr} {n c k q c1 m d : Nat} {ins : List (List Int)} {l : List Int} {K : Unit → HH → Prop}
/-- A word of the row changes. -/
theorem Sp.set (h : Sp base F H A n c k A1 q c1 ins l) (hk : k < n) {t : Nat} (ht : t < q) (x : Int) (hK : ∀ H', Sp base F H' A n c k A1 q c1 ins (l.set t x) → K () H') :
    ∃ a, AQ Tryd.prog (Instr.indexAt 35 (.slice A n c) (.int .i64 k)) (.pointer (some a)) ∧ ∃ (A' : Option Addr) (l' c' : Nat), QRun Tryd.prog (Instr.loadAt 39 (.pointer (some a))) H (.slice A' l' c') ∧
      ∃ a2, AQ Tryd.prog (Instr.indexAt 39 (.slice A' l' c') (.int .i64 t)) (.pointer (some a2)) ∧ HRun Tryd.prog base (Instr.storeAt 22 (.pointer (some a2)) (.int .u64 x)) H K := by
  obtain ⟨rs, h1, h2, h3, h4⟩ := h.rs
  obtain ⟨g, cur, e1, hb, hg, hi, hc⟩ := Own.at h1 hk
  subst e1
  obtain ⟨g2, cur2, e2, hb2, hg2, hi2, hc2⟩ := Own.at h.row ht
  subst e2
  have hne : g ≠ g2 := fun e => by
    subst e
    rw [hg] at hg2
    exact absurd (cells_tag hg2) (by decide)
  have hn : F g2 = none := h.off1 g2 (by simp [Value.ownBlock])
  refine ⟨_, aq_own un23 (by kernel_rfl) hk, _, _, _, q_ld (by kernel_rfl) (by rw [cellH_blk hg]; exact hc k _ h3), _, aq_own un32 info22 ht, h_st info22 rfl hg2 hb2 hi2 (hK _ ⟨ext_same h.ext hn (fun k hk => upd_ne _ hk), ⟨rs, h1.far (by simp [Value.ownBlock]; exact hne) _, h2, h3, h4⟩, ?_, h.off, h.off1⟩)⟩
  have := Own.put h.row (by simp [Value.ownBlock]) hg2 t (.int .u64 x)
  rwa [show (us l).set t (.int .u64 x) = us (l.set t x) by simp [us, List.map_set]] at this
end
section
variable {gs : List Gate} {ins : List (List Int)} {k : Nat}
theorem mem_setL {l y : List Int} (h : y ∈ ins.set k l) : y = l ∨ y ∈ ins := (List.mem_or_eq_of_mem_set h).elim .inr .inl
theorem In33.set {H H' : HH} {A A' B B' : Option Addr} {n n' m : Nat} {outs : List Int} (I : In33 H A n gs A' n' outs B m ins) (X : Ext H H') {l : List Int} (M : MatC H' B' m (ins.set k l)) (h1 : ∀ x ∈ l, 0 ≤ x) (h2 : l.length ≤ 60) : In33 H' A n gs A' n' outs B' m (ins.set k l) :=
  ⟨I.G.ext X, I.T.ext X, I.g.ext X, I.o.ext X, M, I.nn, fun y hy => by
    rcases mem_setL hy with rfl | h
    · exact h1
    · exact I.ni y h, I.fg, I.fo, by rw [List.length_set]; exact I.fi, fun y hy => by
    rcases mem_setL hy with rfl | h
    · exact h2
    · exact I.fr y h⟩
end
section
end
end Go.Proofs.YtjpaichcaaacbabDoor.HL
end
section
set_option linter.unusedVariables false
set_option linter.unusedSimpArgs false
set_option linter.unusedSectionVars false
set_option maxHeartbeats 8000000
namespace Go.Proofs.YtjpaichcaaacbabDoor.HL
open Go Go.Proofs.YtjpaichcaaacbabDoorNum Go.Proofs.YtjpaichcaaacbabDoor.FEv
structure S2 (base : Nat) (F H : HH) (v : Value) (n : Nat) (m : List (List Int)) (v' : Value) (n' : Nat) (m' : List (List Int)) : Prop where
  x : OwnMC base F H v n m
  y : OwnMC base F H v' n' m'
  ne : ∀ b, v.ownBlock = some b → v'.ownBlock ≠ some b
section
variable {base : Nat} {F H H' : HH} {v v' w : Value} {n n' q : Nat} {m m' : List (List Int)}
theorem S2.symm (s : S2 base F H v n m v' n' m') : S2 base F H v' n' m' v n m := ⟨s.y, s.x, fun b h1 h2 => s.ne b h2 h1⟩
theorem S2.more (s : S2 base F H v n m v' n' m') (X : Ext H H') : S2 base F H' v n m v' n' m' := ⟨s.x.more X, s.y.more X, s.ne⟩
theorem S2.nil (base : Nat) (H : HH) : S2 base H H (.slice none 0 0) 0 [] (.slice none 0 0) 0 [] := ⟨OwnMC.nil _ _, OwnMC.nil _ _, fun b h => by simp [Value.ownBlock] at h⟩
/-- A row of the call's own that is new since H is frozen. -/
theorem S2.freeze {T : Nat} {xs : List Value} (s : S2 base F H v n m v' n' m') (hf : Frz H H' w) (ho : Own base H' T 1 w q xs) :
    ∃ F', Ext F F' ∧ S2 base F' H' v n m v' n' m' ∧ ∃ A c, w = .slice A q c ∧ q ≤ c ∧ Rd F' A xs := by
  have s' := s.more hf.ext
  obtain ⟨h1, h2⟩ := ho
  rcases h2 with ⟨rfl, rfl⟩ | ⟨g, cap, cur, rfl, hb, hg, r1, r2, r3, r4⟩
  · exact ⟨F, .refl F, s', none, 0, rfl, Nat.le_refl _, .inl (List.eq_nil_of_length_eq_zero (by rw [h1, Nat.zero_mul]))⟩
  · have hn : H g = none := hf.off g (by simp [Value.ownBlock])
    have hn0 : F g = none := s.x.frz.ext.none hn
    have X : Ext (upd F g (.cells cur T (0, 0))) H' := fun b o h => by
      by_cases e : b = g
      · subst e; rw [upd_self] at h; cases h; exact hg
      · rw [upd_ne _ e] at h; exact hf.ext _ _ (s.x.frz.ext b o h)
    have off : ∀ {u : Value} {k : Nat} {l : List (List Int)}, OwnMC base F H u k l → Frz (upd F g (.cells cur T (0, 0))) H' u := fun h => ⟨X, fun b hbb => by
      have hne : b ≠ g := fun e => by
        obtain ⟨cu, hc⟩ := h.known hbb
        rw [e, hn] at hc; cases hc
      rw [upd_ne _ hne]
      exact h.frz.off b hbb⟩
    refine ⟨_, Ext.upd hn0 _, ⟨s'.x.froze (Ext.upd hn0 _) (off s.x), s'.y.froze (Ext.upd hn0 _) (off s.y), s.ne⟩, _, _, rfl, r1, .inr ⟨_, rfl, fun i u hu => ?_⟩⟩
    have hadd : (⟨g, 0, none⟩ : Addr).add i = ⟨g, i, none⟩ := by unfold Addr.add; split <;> simp_all
    rw [hadd, cellH_blk (upd_self _ _ _), ← Array.getElem?_toList]
    rw [← r4, List.getElem?_take] at hu
    split at hu
    · exact hu
    · cases hu
/-- A slice of one row. -/
theorem S2.lit (s : S2 base F H v n m v' n' m') {A1 : Option Addr} {n1 c1 : Nat} {C : Value → HH → Prop} (hk : ∀ F' A' H', Ext F F' → S2 base F' H' v n m v' n' m' → Rd F' A' [.slice A1 n1 c1] → C (.slice A' 1 1) H') :
    HRun Tryd.prog base (Instr.buildSlice 35 1 #[(0, .slice A1 n1 c1)]) H C := by
  have hfill : Instr.fill (fun i => some (i * 1, 1)) (madeCells (Value.slice none 0 0).cells (1 * 1)) [(0, .slice A1 n1 c1)] = some #[.slice A1 n1 c1] := by
    simp [Instr.fill, madeCells, Value.cells, show Array.range 1 = #[0] from by decide]
  refine h_lit (sz := 1) (z := .slice none 0 0) (cs := #[.slice A1 n1 c1]) un23 (by kernel_rfl) (by decide) hfill (by decide) (fun gb hgb hbase => ?_)
  obtain ⟨F', h1, h2, A', c', e, _, h3⟩ := s.freeze (H' := upd H gb (.cells #[.slice A1 n1 c1] 39)) ⟨Ext.upd hgb _, fun b hb => by
    have e : gb = b := by simpa [Value.ownBlock] using hb
    rw [← e]; exact hgb⟩ (Own.lit (H := H) (T := 39) (sz := 1) hbase #[.slice A1 n1 c1] 1 (by decide) rfl)
  cases e
  exact hk F' _ _ h1 h2 h3
/-- A row of noughts. -/
theorem S2.zeros (s : S2 base F H v n m v' n' m') {q : Nat} (hq : q ≤ 1000000) {k1 k2 : IntKind} {C : Value → HH → Prop} (hk : ∀ F' A' c' H', Ext F F' → S2 base F' H' v n m v' n' m' → Row F' A' q (List.replicate q 0) → q ≤ c' → C (.slice A' q c') H') :
    HRun Tryd.prog base (Instr.makeSlice 39 (.int k1 q) (.int k2 q)) H C :=
  h_mkW hq (fun g H' hgb o f => by
    obtain ⟨F', h1, h2, A', c', e, hc, h3⟩ := s.freeze f o
    rw [e]
    exact hk F' A' c' H' h1 h2 ⟨by simp, h3⟩ hc)
end
end Go.Proofs.YtjpaichcaaacbabDoor.HL
end
section
set_option linter.unusedVariables false
set_option linter.unusedSimpArgs false
set_option linter.unusedSectionVars false
set_option maxHeartbeats 8000000
namespace Go.Proofs.YtjpaichcaaacbabDoor.HL
open Go Go.Proofs.YtjpaichcaaacbabDoorNum Go.Proofs.YtjpaichcaaacbabDoor.FEv
section
variable {p : Nat} [NeZero p] {gs : List Gate} {a b : List (List Int)}
theorem In33.more {H H' : HH} {A A' B B' : Option Addr} {n n' m m' : Nat} {outs : List Int} (I : In33 H A n gs A' n' outs B m a) (X : Ext H H') (M : MatC H' B' m' b) (h0 : b.length ≤ 20) (h1 : ∀ l ∈ b, ∀ x ∈ l, 0 ≤ x) (h2 : ∀ l ∈ b, l.length ≤ 60) : In33 H' A n gs A' n' outs B' m' b :=
  ⟨I.G.ext X, I.T.ext X, I.g.ext X, I.o.ext X, M, I.nn, h1, I.fg, I.fo, h0, h2⟩
end
section
end
section
end
end Go.Proofs.YtjpaichcaaacbabDoor.HL
end
section
set_option linter.unusedVariables false
set_option linter.unusedSimpArgs false
set_option linter.unusedSectionVars false
set_option maxHeartbeats 8000000
namespace Go.Proofs.YtjpaichcaaacbabDoor.HL
open Go Go.Proofs.YtjpaichcaaacbabDoorNum Go.Proofs.YtjpaichcaaacbabDoor.FEv
/-- Gate j reads another party. -/
def upF (gs : List Gate) (j : Nat) (x : Int) : List Gate := gs.set j ⟨(gs.getD j gate0).kind, x, (gs.getD j gate0).a, (gs.getD j gate0).b, (gs.getD j gate0).k⟩
theorem gc_upF : ∀ (gs : List Gate) (j : Nat) (x : Int), (gc gs).set (j * 5 + 1) (.int .i64 x) = gc (upF gs j x)
  | [], j, x => by simp [gc, upF]
  | g :: gs, 0, x => rfl
  | g :: gs, j + 1, x => by
    have ih := gc_upF gs j x
    have e : upF (g :: gs) (j + 1) x = g :: upF gs j x := by simp [upF]
    rw [e]
    show (gv g ++ gc gs).set ((j + 1) * 5 + 1) _ = gv g ++ gc (upF gs j x)
    have hl : (gv g).length = 5 := rfl
    rw [List.set_append_right _ _ (by rw [hl]; omega), hl, show (j + 1) * 5 + 1 - 5 = j * 5 + 1 by omega, ih]
/-- A row of gates of the call's own. -/
structure Rl (base : Nat) (F H : HH) (A : Option Addr) (n c : Nat) (gs : List Gate) : Prop where
  ext : Ext F H
  own : Own base H tGate 5 (.slice A n c) n (gc gs)
  off : ∀ b, (Value.slice A n c).ownBlock = some b → F b = none
section
variable {base : Nat} {F H H' : HH} {K : Unit → HH → Prop} {A : Option Addr} {n c : Nat} {gs : List Gate}
theorem gc_len (gs : List Gate) : (gc gs).length = gs.length * 5 := by
  induction gs with
  | nil => rfl
  | cons g gs ih =>
    show (gv g ++ gc gs).length = _
    rw [List.length_append, ih, List.length_cons]
    show 5 + _ = _
    omega
theorem Rl.len (h : Rl base F H A n c gs) : n = gs.length := by have := h.own.1; rw [gc_len] at this; omega
theorem Rl.gates (h : Rl base F H A n c gs) : Gs H A n gs := by
  obtain ⟨A', c', e, _, h2⟩ := h.own.slice
  cases e
  exact ⟨h.len, h2⟩
theorem Rl.put (h : Rl base F H A n c gs) {j : Nat} (hj : j < n) (x : Int) (hK : ∀ H', Rl base F H' A n c (upF gs j x) → K () H') :
    ∃ a, AQ Tryd.prog (Instr.indexAt tGates (.slice A n c) (.int .i64 j)) (.pointer (some a)) ∧ ∃ a1, AQ Tryd.prog (Instr.fieldAt tGate (.pointer (some a)) 1) (.pointer (some a1)) ∧ HRun Tryd.prog base (Instr.storeAt 3 (.pointer (some a1)) (.int .i64 x)) H K := by
  obtain ⟨g, cap, cur, e1, hb, hg, r1, r2, r3⟩ := h.own.form (by omega)
  cases e1
  refine ⟨_, aq_ix (ad := ⟨g, 0, none⟩) unGates infoG (by omega) (by omega), _, fg1 _, ?_⟩
  rw [Int.toNat_natCast, show ((⟨g, 0, none⟩ : Addr).add (j * 5)).add 1 = ⟨g, j * 5 + 1, none⟩ by rw [addr_add']; unfold Addr.add; split <;> simp_all]
  refine h_st info3 rfl hg hb (by omega) (hK _ ⟨?_, ?_, h.off⟩)
  · exact ext_same h.ext (h.off g (by simp [Value.ownBlock])) (fun k hk => upd_ne _ hk)
  · have := Own.put h.own (by simp [Value.ownBlock]) hg (j * 5 + 1) (.int .i64 x)
    rwa [gc_upF] at this
theorem Rl.at (h : Rl base F H A n c gs) {j : Nat} (hj : j < n) : ∃ a, AQ Tryd.prog (Instr.indexAt tGates (.slice A n c) (.int .i64 j)) (.pointer (some a)) ∧ GAt H a (gs.getD j gate0) := h.gates.at c hj
end
section
end
section
variable {base : Nat} {H : HH} {A A' : Option Addr} {n n' c c' : Nat} {p : Int} {gs : List Gate}
/-- A circuit's variable, with its block. -/
theorem h_cvar3 {old : Value} {C : Addr → HH → Prop} (hk : ∀ b H', Ext H H' → H b = none → base ≤ b → CB H' b p A n c A' n' c' → C ⟨b, 0, none⟩ H') :
    HRun Tryd.prog base (Instr.alloc tC true old) H fun v H1 => ∃ a : Addr, v = .pointer (some a) ∧ HRun Tryd.prog base (Instr.storeAt tC (.pointer (some a)) (.agg #[.int .u64 p, .slice A n c, .slice A' n' c'])) H1 fun _ H2 => C a H2 :=
  h_var (vs := [.int .u64 p, .slice A n c, .slice A' n' c']) (z := .agg #[.int .u64 0, .slice none 0 0, .slice none 0 0]) (by kernel_rfl) rfl (by kernel_rfl) rfl (fun b H' he hbase hn hb => hk _ H' he hn hbase hb)
theorem gv_one {g : Gate} {u : Value} (h : u ∈ gv g) : u.oneCell' = true := by
  unfold gv at h
  simp only [List.mem_cons, List.not_mem_nil, or_false] at h
  rcases h with rfl | rfl | rfl | rfl | rfl <;> rfl
/-- The circuit's gates are another row. -/
theorem cb_gates {b : Nat} {A1 : Option Addr} {n1 c1 : Nat} {K : Unit → HH → Prop} (h : CB H b p A n c A' n' c') (hb : base ≤ b) (hK : ∀ H', CB H' b p A1 n1 c1 A' n' c' → (∀ k, k ≠ b → H' k = H k) → K () H') :
    HRun Tryd.prog base (Instr.storeAt tGates (.pointer (some ⟨b, 1, none⟩)) (.slice A1 n1 c1)) H K :=
  h_st (by kernel_rfl) rfl h hb (show 1 < 3 by decide) (hK _ (upd_self _ _ _) (fun k hk => upd_ne _ hk))
end
section
end
end Go.Proofs.YtjpaichcaaacbabDoor.HL
end

/- Part M of: The statement ProductProofZeroKnowledge: the law answers true whatever its arguments; no condition. -/
import Derived.Test.YtjkggiemnfigbaaZProductProofZeroKnowledgeL
import Derived.KernelRfl
import Derived.Test.YtjkggiemnfigbaaProg
import Derived.Laws.Tables
section
set_option linter.unusedVariables false
set_option linter.unusedSimpArgs false
set_option linter.unusedSectionVars false
namespace Go.Proofs.Ytjkggiemnfigbaa.HL
open Go Go.Proofs.YtjkggiemnfigbaaNum Go.Proofs.Ytjkggiemnfigbaa.FEv
section
variable {P : Program} {base : Nat} {H : HH}
theorem h_sta {t b T : Nat} {old : Array Value} {vs : List Value} {K : Unit → HH → Prop} (hz : (P.info? t).map (·.size) = some vs.length) (h1 : vs.all (·.oneCell') = true) (hb : H b = some (.cells old T (0, 0))) (hbase : base ≤ b) (ho : old.size = vs.length) (h : K () (upd H b (.cells vs.toArray T (0, 0)))) : HRun P base (Instr.storeAt t (.pointer (some ⟨b, 0, none⟩)) (.agg vs.toArray)) H K := by
  refine h_do (cs' := vs.toArray) hb hbase (by simp [ho]) (fun W hs => ⟨W.setRow b vs.toArray, ?_, rfl, rfl, rfl, ?_, ?_, ?_⟩) h
  · have := run_storeVar_row (P := P) W b T t old vs.toArray (hs b _ hb) (by simpa using hz) (by simpa using ho) (by simpa using h1)
    simp [Instr.storeAt, Instr.sureAddr, this]
  · simp [World.setRow]
  · intro k hk
    simp only [World.setRow, Array.getElem?_modify]
    rw [if_neg (fun e => hk e.symm)]
  · exact setRow_heap W b old vs.toArray T (0, 0) (hs b _ hb)
theorem h_var {t : Nat} {old z : Value} {vs : List Value} (hz0 : (P.info? t).bind (·.zero) = some z) (hzc : z.cells.size = vs.length) (hz : (P.info? t).map (·.size) = some vs.length) (h1 : vs.all (·.oneCell') = true) {C : Addr → HH → Prop}
    (hk : ∀ b H', Ext H H' → base ≤ b → H b = none → H' b = some (.cells vs.toArray t (0, 0)) → C ⟨b, 0, none⟩ H') :
    HRun P base (Instr.alloc t true old) H fun v H1 => ∃ a : Addr, v = .pointer (some a) ∧ HRun P base (Instr.storeAt t (.pointer (some a)) (.agg vs.toArray)) H1 fun _ H2 => C a H2 :=
  h_alloc hz0 (fun b hb hbase => ⟨_, rfl, h_sta hz h1 (upd_self _ _ _) hbase hzc (hk b _ (fun k o hk => by
    have : k ≠ b := fun e => by rw [e, hb] at hk; cases hk
    rw [upd_ne _ this, upd_ne _ this]; exact hk) hbase hb (upd_self _ _ _))⟩)
end
def PtAt (H : HH) (a : Addr) (q : Int × Int) : Prop := cellH H (a.add 0) = some (.int .u64 q.1) ∧ cellH H (a.add 1) = some (.int .u64 q.2)
section
variable {base : Nat} {H : HH} {a : Addr} {q : Int × Int}
theorem PtAt.ext {H' : HH} (h : PtAt H a q) (he : Ext H H') : PtAt H' a q := ⟨cellH_ext he h.1, cellH_ext he h.2⟩
theorem PtAt.x (h : PtAt H a q) : QRun Try.prog (Instr.loadAt 22 (.pointer (some (a.add 0)))) H (.int .u64 q.1) := q_ld sc22 h.1
theorem PtAt.y (h : PtAt H a q) : QRun Try.prog (Instr.loadAt 22 (.pointer (some (a.add 1)))) H (.int .u64 q.2) := q_ld sc22 h.2
end
def pc (l : List (Int × Int)) : List Value := l.flatMap fun q => [.int .u64 q.1, .int .u64 q.2]
def Pts (H : HH) (A : Option Addr) (n : Nat) (l : List (Int × Int)) : Prop := n = l.length ∧ Rd H A (pc l)
section
variable {base : Nat} {H : HH} {A : Option Addr} {n : Nat} {l : List (Int × Int)} {i : Int}
theorem Pts.ext {H' : HH} (h : Pts H A n l) (he : Ext H H') : Pts H' A n l := ⟨h.1, h.2.ext he⟩
theorem Pts.nil : Pts H none 0 [] := ⟨rfl, .inl rfl⟩
theorem addr_add' (a : Addr) (m n : Nat) : (a.add m).add n = a.add (m + n) := by
  unfold Addr.add
  by_cases hm : m = 0 <;> by_cases hn : n = 0 <;> simp_all [Nat.add_assoc]
end
section
end
def RowI (H : HH) (A : Option Addr) (n : Nat) (l : List Nat) : Prop := n = l.length ∧ Rd H A (ns l)
theorem RowI.ext {H H' : HH} {A : Option Addr} {n : Nat} {l : List Nat} (h : RowI H A n l) (he : Ext H H') : RowI H' A n l := ⟨h.1, h.2.ext he⟩
theorem RowI.nil {H : HH} : RowI H none 0 [] := ⟨rfl, .inl rfl⟩
theorem RowI.at {H : HH} {A : Option Addr} {n : Nat} {l : List Nat} (h : RowI H A n l) (c : Nat) {j : Nat} (hj : j < n) : ∃ a, AQ Try.prog (Instr.indexAt 88 (.slice A n c) (.int .i64 j)) (.pointer (some a)) ∧ QRun Try.prog (Instr.loadAt 3 (.pointer (some a))) H (.int .i64 ((l.getD j 0 : Nat) : Int)) := by
  obtain ⟨e, h⟩ := h
  subst e
  exact Piv.at h c hj
end Go.Proofs.Ytjkggiemnfigbaa.HL
end
section
set_option linter.unusedVariables false
set_option linter.unusedSimpArgs false
set_option linter.unusedSectionVars false
set_option maxHeartbeats 1000000
namespace Go.Proofs.Ytjkggiemnfigbaa.HL
open Go Go.Proofs.YtjkggiemnfigbaaNum Go.Proofs.Ytjkggiemnfigbaa.FEv
theorem Rd.take {H : HH} {A : Option Addr} {xs : List Value} (h : Rd H A xs) (k : Nat) : Rd H A (xs.take k) := by
  rcases h with e | ⟨ad, e, hc⟩
  · exact .inl (by rw [e]; simp)
  · exact .inr ⟨ad, e, fun i u hu => hc i u (by
      rw [List.getElem?_take] at hu
      split at hu
      · exact hu
      · cases hu)⟩
theorem dec {j : Nat} (h : 0 < j) (hj : j ≤ 1000000) : IntKind.i64.wrap ((j : Int) - 1 - 1) = ((j - 1 : Nat) : Int) - 1 := by
  unfold IntKind.wrap
  simp [IntKind.bits, IntKind.signed]
  omega
theorem dec1 {j : Nat} (hj : j ≤ 1000000) : IntKind.i64.wrap ((j : Int) - 1) = (j : Int) - 1 := by
  unfold IntKind.wrap
  simp [IntKind.bits, IntKind.signed]
  omega
theorem w64 {x : Int} (h0 : -9223372036854775808 ≤ x) (h1 : x < 9223372036854775808) : IntKind.i64.wrap x = x := by
  unfold IntKind.wrap
  simp [IntKind.bits, IntKind.signed]
  omega
section
variable {p : Nat} [NeZero p] {base : Nat} {H : HH} {K : Value → HH → Prop} {A A' : Option Addr} {n n' c c' : Nat}
theorem drop_cf {f : List (Fin p)} {j : Nat} (h : j < f.length) : f.drop j = cf f j :: f.drop (j + 1) := getD_cons_drop h 0
theorem h_eval (hp : Sup p) {f : List (Fin p)} (h : Row H A n (vs f)) (hz : f.length ≤ 1000) (x : Fin p) (hk : K (.int .u64 (V (peval f x))) H) : HCall Try.prog base 23 #[.int .u64 p, .slice A n c, .int .u64 (V x)] H K := by
  refine poly_Eval.spec ?_
  unfold poly_Eval.sh
  have e1 := h.1
  rw [vs_length] at e1
  rw [dec1 (by omega)]
  refine poly_Eval.loop0 (fun k y z H' => H' = H ∧ ∃ j : Nat, j ≤ n ∧ k = j ∧ z = (j : Int) - 1 ∧ y = V (peval (f.drop j) x)) n ⟨rfl, n, Nat.le_refl _, rfl, rfl, by rw [List.drop_eq_nil_of_le (by omega), peval_nil, V_zero]⟩ ?_
  rintro k y z g H' ⟨rfl, j, hj, rfl, rfl, rfl⟩
  unfold poly_Eval.B0
  split
  · rename_i e
    have e := of_decide_eq_true e
    have hj0 : 0 < k := by omega
    obtain ⟨a1, q1, q2⟩ := h.at c (i := (k : Int) - 1) (by omega) (by omega)
    rw [show ((k : Int) - 1).toNat = k - 1 by omega, vs_get] at q2
    refine ⟨_, h_mul hp _ _ ⟨rfl, rfl⟩, a1, q1, _, q2, _, h_add hp _ _ ⟨rfl, rfl⟩, ?_⟩
    refine ⟨k - 1, by omega, _, _, rfl, rfl, rfl, k - 1, by omega, rfl, dec hj0 (by omega), ?_⟩
    rw [drop_cf (show k - 1 < f.length by omega), show k - 1 + 1 = k by omega, peval_cons]
    congr 1
    grind
  · rename_i e
    have e : ¬ ((k : Int) - 1 ≥ 0) := fun h => e (decide_eq_true h)
    have : k = 0 := by omega
    subst this
    exact hk
end
end Go.Proofs.Ytjkggiemnfigbaa.HL
end
section
set_option linter.unusedVariables false
set_option linter.unusedSimpArgs false
set_option linter.unusedSectionVars false
set_option maxHeartbeats 2000000
namespace Go.Proofs.Ytjkggiemnfigbaa.HL
open Go Go.RowKit Go.Proofs.YtjkggiemnfigbaaW.PrintWords Go.Proofs.YtjkggiemnfigbaaW.PrintMore Go.Proofs.Ytjkggiemnfigbaa.PF Go.Proofs.YtjkggiemnfigbaaNum Go.Proofs.Ytjkggiemnfigbaa.FEv
section
variable {p : Nat} [NeZero p] {base : Nat} {H : HH} {K : Value → HH → Prop} {A A' A'' : Option Addr} {n n' n'' c c' c'' : Nat}
theorem h_reduce1 (hp : Sup p) (m : Int) (h0 : 0 ≤ m) (h1 : m < 18446744073709551616) (hk : K (.int .u64 (V (E m : Fin p))) H) : HCall Try.prog base 54 #[.int .u64 p, .int .u64 m] H K := by
  obtain ⟨k, hk'⟩ := (reduce_ev hp m h0 h1).rounds
  exact (HCall.drew (enters Try.func54 (by kernel_rfl)) (fun W => field_Reduce.calls k _ _ _ W hk')).to hk
theorem h_prove (hp : Sup p) {t : Nat} {a b r : List (Fin p)} (ha : Row H A n (vs a)) (hb : Row H A' n' (vs b)) (hr : Row H A'' n'' (vs r)) (t1 : 1 ≤ t) (t2 : t ≤ 100) (la : a.length = t + 1) (lb : b.length = t + 1) (lr : r.length = t * t) (hc : n'' ≤ c'')
    (hk : ∀ A1 c1 A2 c2 H', Ext H H' → MatC H' A1 t (ms (pD t r (pL t a b))) → Row H' A2 (t + 1) (vs (pC t r (pL t a b))) → t + 1 ≤ c2 → K (.tuple #[.slice A1 t c1, .slice A2 (t + 1) c2]) H') :
    HCall Try.prog base 17 #[.int .u64 p, .int .i64 t, .slice A n c, .slice A' n' c', .slice A'' n'' c''] H K := by
  have e1 := ha.1
  have e2 := hb.1
  have e3 := hr.1
  subst e1 e2 e3
  rw [vs_length] at hc
  have htt : t * t ≤ 10000 := Nat.mul_le_mul t2 t2
  have hpf := X.proveF_eq hp (t := t) a b r t1 (by omega) (by omega) (by omega) (by omega) (by omega)
  have lD : (ms (pD t r (pL t a b))).length = t := by rw [ms_length, pD_len]
  have lC : (vs (pC t r (pL t a b))).length = t + 1 := by rw [vs_length, pC_len (pL_len t a b)]
  have mz : ∀ {x : Nat}, x ≤ 10000 → x ≤ maxLen := fun h => by unfold maxLen; omega
  refine HCall.fresh (Q := fun W W' v => ∃ v0 v1, v = .tuple #[v0, v1] ∧ Kd.S (Kd.slice 22 (Kd.int .u64)) 23 W' W.heap.size (fun k_ => some k_ ≠ (v1 : Value).ownBlock) v0 (ms (pD t r (pL t a b))) ∧ Kd.R (Kd.int .u64) 22 W' W.heap.size (fun k_ => some k_ ≠ (v0 : Value).ownBlock) v1 (vs (pC t r (pL t a b)))) (enters Try.func17 (by kernel_rfl)) (fun W hs hb' => ?_) (fun W W' v hs hb' hq X => ?_)
  · have := X.prove_calls' (p : Int) (t : Int) A c (vs a) A' c' (vs b) A'' c'' (vs r) _ _ W (kd_row hs ha (by rw [vs_length]; exact mz (by omega))) (kd_row hs hb (by rw [vs_length]; exact mz (by omega))) (kd_row hs hr (by rw [vs_length]; exact mz (by omega))) (by rw [vs_length]; exact hc) hpf
    exact this.mono fun e W' ⟨v0, v1, h1, h2, h3, h4⟩ => ⟨_, h1, ⟨v0, v1, rfl, h2, h3⟩, h4⟩
  · obtain ⟨v0, v1, rfl, k0, k1⟩ := hq
    obtain ⟨A1, c1, rfl, hc1, M⟩ := mat_more (H := H) hb' k0
    obtain ⟨A2, c2, rfl, o2⟩ := row_more (H := H) hb' k1
    obtain ⟨A3, c3, e3, hc3, _⟩ := o2.slice
    cases e3
    have R2 := o2.row
    rw [lD] at M
    rw [lC] at R2
    have := hk A1 c1 A2 c2 _ X M R2 (by rw [lC] at hc3; exact hc3)
    rw [lD, lC]
    exact this
end
end Go.Proofs.Ytjkggiemnfigbaa.HL
end
section
set_option linter.unusedVariables false
set_option linter.unusedSimpArgs false
set_option linter.unusedSectionVars false
set_option maxHeartbeats 1000000
namespace Go.Proofs.Ytjkggiemnfigbaa.HL
open Go Go.Proofs.YtjkggiemnfigbaaNum Go.Proofs.Ytjkggiemnfigbaa.FEv
section
variable {base : Nat} {H H' F : HH} {v : Value} {b : Nat}
theorem Own.same {T sz n : Nat} {xs : List Value} (h : Own base H T sz v n xs) (hb : v.ownBlock ≠ some b) (he : ∀ k, k ≠ b → H' k = H k) : Own base H' T sz v n xs :=
  h.move (fun g o hg ho => by rw [he g (fun e => hb (by rw [hg, e]))]; exact ho)
theorem Frz.same (h : Frz F H v) (hF : F b = none) (he : ∀ k, k ≠ b → H' k = H k) : Frz F H' v :=
  ⟨fun k o hk => by rw [he k (fun e => by rw [e, hF] at hk; cases hk)]; exact h.ext k o hk, h.off⟩
end
section
variable {p : Nat} [NeZero p] {base : Nat} {H : HH} {K : Value → HH → Prop} {A A' : Option Addr} {n n' c c' : Nat}
theorem h_put2 {T q c : Nat} {g : Nat} {xs : List Value} (hT : (Try.prog.info? T).map (·.size) = some 1) (ho : Own base H T 1 (.slice (some ⟨g, 0, none⟩) q c) q xs) {j : Nat} (hj : j < q) {u : Value} (hu : u.oneCell' = true) {K : Unit → HH → Prop}
    (hk : ∀ H', Own base H' T 1 (.slice (some ⟨g, 0, none⟩) q c) q (xs.set j u) → (∀ k, k ≠ g → H' k = H k) → K () H') : HRun Try.prog base (Instr.storeAt T (.pointer (some ⟨g, j, none⟩)) u) H K := by
  obtain ⟨g', cur, e1, e2, e3, e4, e5⟩ := ho.at hj
  cases e1
  refine h_st hT hu e3 e2 e4 (hk _ (ho.put (by simp [Value.ownBlock]) e3 j u) (fun k hk => upd_ne _ hk))
end
end Go.Proofs.Ytjkggiemnfigbaa.HL
end
section
set_option linter.unusedVariables false
set_option linter.unusedSimpArgs false
set_option linter.unusedSectionVars false
set_option maxHeartbeats 1000000
namespace Go.Proofs.Ytjkggiemnfigbaa.HL
open Go Go.Proofs.YtjkggiemnfigbaaNum Go.Proofs.Ytjkggiemnfigbaa.FEv
section
end
section
variable {base : Nat} {H : HH}
/-- A set of words. -/
def SetW (H : HH) (b : Nat) (xs : List Int) : Prop := ∃ (es : Array MapEntry) (clock : Nat), H b = some (.map es clock) ∧ es.toList.map (fun e => (e.key, e.val)) = xs.map fun x => (Value.int .u64 x, Value.bool true)
end
end Go.Proofs.Ytjkggiemnfigbaa.HL
end
section
set_option linter.unusedVariables false
set_option linter.unusedSimpArgs false
set_option linter.unusedSectionVars false
set_option maxHeartbeats 1000000
namespace Go.Proofs.Ytjkggiemnfigbaa.HL
open Go Go.Proofs.YtjkggiemnfigbaaNum Go.Proofs.Ytjkggiemnfigbaa.FEv
theorem SetW.ext {H H' : HH} {b : Nat} {xs : List Int} (h : SetW H b xs) (he : Ext H H') : SetW H' b xs := by
  obtain ⟨es, c, h1, h2⟩ := h
  exact ⟨es, c, he _ _ h1, h2⟩
section
end
section
end
end Go.Proofs.Ytjkggiemnfigbaa.HL
end
section
set_option linter.unusedVariables false
set_option linter.unusedSimpArgs false
set_option linter.unusedSectionVars false
set_option maxHeartbeats 2000000
namespace Go.Proofs.Ytjkggiemnfigbaa.HL
open Go Go.Proofs.YtjkggiemnfigbaaNum Go.Proofs.Ytjkggiemnfigbaa.FEv
section
variable {p : Nat} [NeZero p] {base : Nat} {H : HH} {K : Value → HH → Prop} {A A' : Option Addr} {n n' c c' : Nat}
theorem mk_succ {α : Type} (f : Nat → α) (i : Nat) : (List.range (i + 1)).map f = (List.range i).map f ++ [f i] := by rw [List.range_succ, List.map_append]; rfl
theorem row_lit {x : Int} {C : Value → HH → Prop} (hk : ∀ A' H', Ext H H' → Rd H' A' [.int .u64 x] → C (.slice A' 1 1) H') : HRun Try.prog base (Instr.buildSlice 23 1 #[(0, .int .u64 x)]) H C := by
  have hfill : Instr.fill (fun i => some (i * 1, 1)) (madeCells (Value.int .u64 0).cells (1 * 1)) [(0, .int .u64 x)] = some #[.int .u64 x] := by
    simp [Instr.fill, madeCells, Value.cells, show Array.range 1 = #[0] from by decide]
  refine h_lit (sz := 1) (z := .int .u64 0) (cs := #[.int .u64 x]) un32 (by kernel_rfl) (by decide) hfill (by decide) (fun gb hgb hbase => hk _ _ (Ext.upd hgb _) (.inr ⟨_, rfl, fun i w hw => ?_⟩))
  match i, hw with
  | 0, hw =>
    cases hw
    show cellH _ ((⟨gb, 0, none⟩ : Addr).add 0) = _
    simp [Addr.add, cellH, upd_self]
theorem row_lit0 {C : Value → HH → Prop} (hk : ∀ A' c' H', Ext H H' → Own base H' 22 1 (.slice A' 0 c') 0 [] → Fresh H (.slice A' 0 c') → C (.slice A' 0 c') H') : HRun Try.prog base (Instr.buildSlice 23 0 #[]) H C := by
  refine h_lit0 (sz := 1) un32 (by rw [info22]) (fun b hb hbase => ?_)
  refine hk _ _ _ (Ext.upd hb _) (by simpa using Own.lit (H := H) (T := 22) (sz := 1) hbase #[] 0 (by decide) (by simp)) (fun b' hb' => ?_)
  have e : b = b' := by simpa [Value.ownBlock] using hb'
  rw [← e]; exact hb
/-- Words that are read are appended to a row of the call's own. -/
theorem h_appR {ty : Nat} {v : Value} {F : HH} {k m : Nat} {l f : List (Fin p)} {B : Option Addr} {d : Nat} (ho : Own base H 22 1 v k (us (vs l))) (hf : Frz F H v) (hm : m = f.length) (hl : k + m ≤ 100000) (hr : Rd H B (us (vs f))) {C : Option Addr → Nat → Nat → HH → Prop} (hk : ∀ A' c' H', Own base H' 22 1 (.slice A' (k + m) c') (k + m) (us (vs (l ++ f))) → Frz F H' (.slice A' (k + m) c') → C A' (k + m) c' H') :
    HRun Try.prog base (Builtin.append_ #[23, 23] ty #[v, .slice B m d]) H fun v H1 => ∃ (A' : Option Addr) (l' c' : Nat), v = .slice A' l' c' ∧ C A' l' c' H1 := by
  refine h_app (m := m) (ys := us (vs f)) un32 inf22 rfl (by decide) ho hr (by simp [hm]) (fun u hu => by obtain ⟨x, _, rfl⟩ := List.mem_map.1 hu; rfl) (fun e => ?_) (by omega) (by decide) (fun A' c' H' ho g => ⟨_, _, _, rfl, hk A' c' H' ?_ (hf.grow g)⟩)
  · rcases hr with e2 | ⟨ad, e2, _⟩
    · rw [hm]; simpa [us, vs] using e2
    · rw [e] at e2; cases e2
  · have : us (vs l) ++ us (vs f) = us (vs (l ++ f)) := by simp [us, vs]
    rwa [this] at ho
end
end Go.Proofs.Ytjkggiemnfigbaa.HL
end
namespace Go.Proofs.Ytjkggiemnfigbaa.HL
end Go.Proofs.Ytjkggiemnfigbaa.HL
namespace Go.Proofs.Ytjkggiemnfigbaa.HL
end Go.Proofs.Ytjkggiemnfigbaa.HL
section
set_option linter.unusedVariables false
set_option linter.unusedSimpArgs false
set_option linter.unusedSectionVars false
set_option maxHeartbeats 4000000
namespace Go.Proofs.Ytjkggiemnfigbaa.HL
open Go Go.Proofs.YtjkggiemnfigbaaNum Go.Proofs.Ytjkggiemnfigbaa.FEv
theorem aq_remP {P : Program} {k : IntKind} {t : TypeId} {x y : Operand} {a b : Int} (hb : b ≠ 0) : AQ P (binSem .rem t x y (.int k a) (.int k b)) (.int k (Int.tmod a b)) := fun W => by
  simp [binSem, eqGuard, binOp, Op.intDiv, hb, bind, Sem.bind, pure, Sem.run]
section
variable {p : Nat} [NeZero p] {base : Nat} {H : HH} {K : Value → HH → Prop} {A A' : Option Addr} {n n' c c' : Nat}
theorem vsum_step (x : Fin p) (i : Nat) (f : Nat → Fin p) (w : Fin p) : w - vsum x i f - x ^ (i + 1) * f i = w - vsum x (i + 1) f := by
  unfold vsum
  show _ = w - (sumF i _ + _)
  grind
theorem vsum_nil (x : Fin p) (f : Nat → Fin p) (w : Fin p) : w = w - vsum x 0 f := by unfold vsum; show w = w - 0; grind
theorem V_beq (a b : Fin p) : (V a == V b) = decide (a = b) := by
  by_cases h : a = b
  · rw [h]; simp
  · have : V a ≠ V b := fun e => h (V_inj.1 e)
    simp [h, this]
theorem h_verify (hp : Sup p) (x a b y : Fin p) {d : List (Fin p)} (h : Row H A n (vs d)) (hz : d.length ≤ 1000) (hk : K (.bool (decide (a * b - vsum x d.length (cf d) = y))) H) : HCall Try.prog base 22 #[.int .u64 p, .int .u64 (V x), .int .u64 (V a), .int .u64 (V b), .slice A n c, .int .u64 (V y)] H K := by
  refine productproof_Verify.spec ?_
  unfold productproof_Verify.sh
  have e1 := h.1
  rw [vs_length] at e1
  have hx := V64 hp x
  refine h_mul hp _ _ ⟨_, rfl, h_reduce1 hp _ hx.1 (by omega) ⟨_, rfl, ?_⟩⟩
  rw [E_V]
  refine productproof_Verify.loop0 (fun k y1 y2 y3 H' => H' = H ∧ ∃ i : Nat, y3 = i ∧ i ≤ n ∧ k = n - i ∧ y1 = V (a * b - vsum x i (cf d)) ∧ y2 = V (x ^ (i + 1))) n ⟨rfl, 0, rfl, Nat.zero_le _, rfl, by rw [← vsum_nil], by rw [pw_one]⟩ ?_
  rintro k y1 y2 y3 g H' ⟨rfl, i, rfl, hi, rfl, rfl, rfl⟩
  unfold productproof_Verify.B0
  split
  · rename_i e
    have e := of_decide_eq_true e
    obtain ⟨a1, q1, q2⟩ := h.at c (i := i) (by omega) e
    rw [Int.toNat_natCast, vs_get] at q2
    refine ⟨a1, q1, _, q2, h_mul hp _ _ ⟨_, rfl, h_sub hp _ _ ⟨_, rfl, h_mul hp _ _ ⟨_, rfl, ?_⟩⟩⟩⟩
    exact ⟨n - i - 1, by omega, _, _, _, rfl, rfl, rfl, rfl, i + 1, nxt (n := n) (by omega) (by unfold maxLen; omega), by omega, by omega, by rw [vsum_step], by rw [pw_succ x (i + 1)]⟩
  · rename_i e
    have e : ¬ ((i : Int) < (n : Int)) := fun h => e (decide_eq_true h)
    have : i = d.length := by omega
    subst this
    rw [V_beq]
    exact hk
/-- The values of the rows at x. -/
def valsL (ds : List (List (Fin p))) (x : Fin p) : List (Fin p) := ds.map (fun d => peval d x)
@[simp] theorem valsL_len (ds : List (List (Fin p))) (x : Fin p) : (valsL ds x).length = ds.length := by simp [valsL]
theorem cf_valsL (ds : List (List (Fin p))) (x : Fin p) (i : Nat) : cf (valsL ds x) i = peval (rowN ds i) x := by
  unfold cf valsL rowN
  rw [List.getD_eq_getElem?_getD, List.getD_eq_getElem?_getD, List.getElem?_map]
  cases ds[i]? with
  | none => rfl
  | some d => rfl
theorem h_vals (hp : Sup p) {ds : List (List (Fin p))} (h : Mat H A n (ms ds)) (hz : Sm ds) (x : Fin p) (hk : ∀ A1 c1 H', Ext H H' → Row H' A1 ds.length (vs (valsL ds x)) → K (.slice A1 ds.length c1) H') : HCall Try.prog base 24 #[.int .u64 p, .slice A n c, .int .u64 (V x)] H K := by
  refine privitylaw21_valuesAt.spec ?_
  unfold privitylaw21_valuesAt.sh
  have e1 := h.1
  rw [ms_length] at e1
  have hz1 := hz.1
  refine privitylaw21_valuesAt.loop0 (fun k A1 l1 c1 y H' => ∃ j : Nat, y = j ∧ j ≤ n ∧ k = n - j ∧ l1 = j ∧ Own base H' 22 1 (.slice A1 j c1) j (us (vs ((ds.take j).map fun d => peval d x))) ∧ Frz H H' (.slice A1 j c1)) n ⟨0, rfl, Nat.zero_le _, by omega, rfl, Own.nil _ _ _ _, Frz.nil _⟩ ?_
  rintro k A1 l1 c1 y g H' ⟨j, rfl, hj, hm', rfl, ho, hf⟩
  unfold privitylaw21_valuesAt.B0
  split
  · rename_i e
    have e := of_decide_eq_true e
    obtain ⟨a1, q1, A2, c2, q2, q3⟩ := (h.ext hf.ext).at c (i := l1) (by omega) e
    rw [Int.toNat_natCast, ms_get] at q3 q2
    refine ⟨a1, q1, _, _, _, q2, ?_⟩
    refine h_eval hp q3 (hz.row (by omega)) x ⟨_, rfl, ?_⟩
    refine h_push un32 inf22 rfl (by decide) rfl ho (by omega) (fun A3 c3 H3 ho3 g3 => ?_)
    refine ⟨k - 1, by omega, _, _, _, _, rfl, rfl, l1 + 1, nxt (n := n) (by omega) (by unfold maxLen; omega), by omega, by omega, rfl, ?_, hf.grow g3⟩
    rw [take_succ_map _ (d := []) (by omega), vs_snoc, us_snoc]
    exact ho3
  · rename_i e
    have e : ¬ ((l1 : Int) < (n : Int)) := fun h => e (decide_eq_true h)
    have : l1 = ds.length := by omega
    subst this
    rw [List.take_of_length_le (Nat.le_refl _)] at ho
    exact hk _ _ _ hf.ext ho.row
end
abbrev tCase : Nat := 25
theorem fz (b j : Nat) (hj : j < 5) : AQ Try.prog (Instr.fieldAt tCase (.pointer (some ⟨b, 0, none⟩)) j) (.pointer (some ⟨b, j, none⟩)) := by
  match j, hj with
  | 0, _ => have := aq_fld (P := Try.prog) (s := tCase) (f := 0) (off := 0) (sz := 1) (by kernel_rfl) (by decide) ⟨b, 0, none⟩; rwa [add0] at this
  | 1, _ => have := aq_fld (P := Try.prog) (s := tCase) (f := 1) (off := 1) (sz := 1) (by kernel_rfl) (by decide) ⟨b, 0, none⟩; rwa [add0] at this
  | 2, _ => have := aq_fld (P := Try.prog) (s := tCase) (f := 2) (off := 2) (sz := 1) (by kernel_rfl) (by decide) ⟨b, 0, none⟩; rwa [add0] at this
  | 3, _ => have := aq_fld (P := Try.prog) (s := tCase) (f := 3) (off := 3) (sz := 1) (by kernel_rfl) (by decide) ⟨b, 0, none⟩; rwa [add0] at this
  | 4, _ => have := aq_fld (P := Try.prog) (s := tCase) (f := 4) (off := 4) (sz := 1) (by kernel_rfl) (by decide) ⟨b, 0, none⟩; rwa [add0] at this
/-- What lies in a case's variable. -/
def ZB (H : HH) (b : Nat) (P T : Int) (A2 : Option Addr) (n2 c2 : Nat) (A3 : Option Addr) (n3 c3 : Nat) (A4 : Option Addr) (n4 c4 : Nat) : Prop := H b = some (.cells #[.int .u64 P, .int .i64 T, .slice A2 n2 c2, .slice A3 n3 c3, .slice A4 n4 c4] tCase (0, 0))
section
variable {base : Nat} {H : HH} {K : Value → HH → Prop} {A2 A3 A4 : Option Addr} {n2 n3 n4 c2 c3 c4 b : Nat} {P T : Int} {la lb lr : List Int}
theorem ZB.ext {H' : HH} (h : ZB H b P T A2 n2 c2 A3 n3 c3 A4 n4 c4) (he : Ext H H') : ZB H' b P T A2 n2 c2 A3 n3 c3 A4 n4 c4 := he _ _ h
theorem ZB.zp (h : ZB H b P T A2 n2 c2 A3 n3 c3 A4 n4 c4) : QRun Try.prog (Instr.loadAt 22 (.pointer (some ⟨b, 0, none⟩))) H (.int .u64 P) := q_ld sc22 (by rw [cellH_blk h]; rfl)
theorem ZB.zt (h : ZB H b P T A2 n2 c2 A3 n3 c3 A4 n4 c4) : QRun Try.prog (Instr.loadAt 3 (.pointer (some ⟨b, 1, none⟩))) H (.int .i64 T) := q_ld sc3 (by rw [cellH_blk h]; rfl)
theorem ZB.za (h : ZB H b P T A2 n2 c2 A3 n3 c3 A4 n4 c4) : QRun Try.prog (Instr.loadAt 23 (.pointer (some ⟨b, 2, none⟩))) H (.slice A2 n2 c2) := q_ld sc32 (by rw [cellH_blk h]; rfl)
theorem ZB.zb (h : ZB H b P T A2 n2 c2 A3 n3 c3 A4 n4 c4) : QRun Try.prog (Instr.loadAt 23 (.pointer (some ⟨b, 3, none⟩))) H (.slice A3 n3 c3) := q_ld sc32 (by rw [cellH_blk h]; rfl)
theorem ZB.zr (h : ZB H b P T A2 n2 c2 A3 n3 c3 A4 n4 c4) : QRun Try.prog (Instr.loadAt 23 (.pointer (some ⟨b, 4, none⟩))) H (.slice A4 n4 c4) := q_ld sc32 (by rw [cellH_blk h]; rfl)
theorem ZB.all (h : ZB H b P T A2 n2 c2 A3 n3 c3 A4 n4 c4) : QRun Try.prog (Instr.loadAt tCase (.pointer (some ⟨b, 0, none⟩))) H (.agg #[.int .u64 P, .int .i64 T, .slice A2 n2 c2, .slice A3 n3 c3, .slice A4 n4 c4]) :=
  q_lda (cs := [.int .u64 P, .int .i64 T, .slice A2 n2 c2, .slice A3 n3 c3, .slice A4 n4 c4]) (by kernel_rfl) (by kernel_rfl) (fun j u hu => by
    rw [add0, cellH_blk h, ← Array.getElem?_toList]
    exact hu)
theorem h_zbox (hk : ∀ b H', Ext H H' → ZB H' b P T A2 n2 c2 A3 n3 c3 A4 n4 c4 → K (.pointer (some ⟨b, 0, none⟩)) H') : HRun Try.prog base (Instr.box tCase (.agg #[.int .u64 P, .int .i64 T, .slice A2 n2 c2, .slice A3 n3 c3, .slice A4 n4 c4])) H K :=
  h_box (fun b hb hbase => hk b _ (Ext.upd hb _) (upd_self _ _ _))
/-- A valid case. -/
structure VC (P T : Int) (la lb lr : List Int) (q : Nat) [NeZero q] (t : Nat) (a b r : List (Fin q)) : Prop where
  sup : Sup q
  ep : P = q
  et : T = t
  ea : la = vs a
  eb : lb = vs b
  er : lr = vs r
  t1 : 1 ≤ t
  t4 : t ≤ 4
  al : a.length = t + 1
  bl : b.length = t + 1
  rl : r.length = t * t
theorem liftV {q : Nat} [NeZero q] {l : List Int} (h : ∀ x ∈ l, 0 ≤ x) (h2 : ∀ x ∈ l, x < (q : Int)) : vs (l.map E : List (Fin q)) = l := by
  unfold vs
  rw [List.map_map]
  conv => rhs; rw [← List.map_id l]
  exact List.map_congr_left (fun x hx => V_E_lt (h x hx) (h2 x hx))
theorem below_of {p most : Int} {l : List Int} (h : belowB p l most = true) : (l.length : Int) ≤ most ∧ ∀ x ∈ l, x < p := by
  unfold belowB at h
  rw [Bool.and_eq_true, List.all_eq_true] at h
  exact ⟨of_decide_eq_true h.1, fun x hx => of_decide_eq_true (h.2 x hx)⟩
theorem h_vcase (ha : Row H A2 n2 la) (hb : Row H A3 n3 lb) (hr : Row H A4 n4 lr) (na : ∀ x ∈ la, 0 ≤ x) (nb : ∀ x ∈ lb, 0 ≤ x) (nr : ∀ x ∈ lr, 0 ≤ x) (ma : la.length ≤ maxLen) (mb : lb.length ≤ maxLen) (mr : lr.length ≤ maxLen)
    (hk1 : ∀ (q : Nat) (_ : NeZero q) (t : Nat) (a b r : List (Fin q)), VC P T la lb lr q t a b r → ∀ H', Ext H H' → K (.bool true) H') (hk2 : ∀ H', Ext H H' → K (.bool false) H') :
    HCall Try.prog base 15 #[.agg #[.int .u64 P, .int .i64 T, .slice A2 n2 c2, .slice A3 n3 c3, .slice A4 n4 c4]] H K := by
  refine privitylaw21_validCase.spec ?_
  unfold privitylaw21_validCase.sh
  refine h_zbox (fun b H1 X1 zb => ⟨_, rfl, _, fz b 0 (by decide), _, zb.zp, h_sup P ⟨_, rfl, ?_⟩⟩)
  split
  rotate_left
  · exact hk2 H1 X1
  rename_i e0
  refine ⟨_, fz b 1 (by decide), _, zb.zt, ?_⟩
  split
  rotate_left
  · exact hk2 H1 X1
  rename_i e1
  have e1 := of_decide_eq_true e1
  refine ⟨_, fz b 1 (by decide), _, zb.zt, ?_⟩
  split
  rotate_left
  · exact hk2 H1 X1
  rename_i e2
  have e2 := of_decide_eq_true e2
  refine ⟨_, fz b 2 (by decide), _, _, _, zb.za, _, fz b 1 (by decide), _, zb.zt, ?_⟩
  split
  rotate_left
  · exact hk2 H1 X1
  rename_i e3
  refine ⟨_, fz b 3 (by decide), _, _, _, zb.zb, _, fz b 1 (by decide), _, zb.zt, ?_⟩
  split
  rotate_left
  · exact hk2 H1 X1
  rename_i e4
  refine ⟨_, fz b 4 (by decide), _, _, _, zb.zr, _, fz b 1 (by decide), _, zb.zt, _, fz b 1 (by decide), _, zb.zt, ?_⟩
  split
  rotate_left
  · exact hk2 H1 X1
  rename_i e5
  refine ⟨_, fz b 0 (by decide), _, zb.zp, _, fz b 2 (by decide), _, _, _, zb.za, h_below (ha.ext X1) ma ⟨_, rfl, ?_⟩⟩
  split
  rotate_left
  · exact hk2 H1 X1
  rename_i e6
  refine ⟨_, fz b 0 (by decide), _, zb.zp, _, fz b 3 (by decide), _, _, _, zb.zb, h_below (hb.ext X1) mb ⟨_, rfl, ?_⟩⟩
  split
  rotate_left
  · exact hk2 H1 X1
  rename_i e7
  refine ⟨_, fz b 0 (by decide), _, zb.zp, _, fz b 4 (by decide), _, _, _, zb.zr, h_below (hr.ext X1) mr ⟨_, rfl, ?_⟩⟩
  cases e8 : belowB P lr 16 with
  | false => exact hk2 H1 X1
  | true =>
    obtain ⟨q, hq, rfl⟩ := supB_iff.1 e0
    have hz := hq.ne
    obtain ⟨_, b6⟩ := below_of e6
    obtain ⟨_, b7⟩ := below_of e7
    obtain ⟨_, b8⟩ := below_of e8
    have l2 := ha.1
    have l3 := hb.1
    have l4 := hr.1
    have w1 : IntKind.i64.wrap (T + 1) = T + 1 := w64 (by omega) (by omega)
    rw [w1] at e3 e4
    have e3 : (n2 : Int) = T + 1 := by simpa using e3
    have e4 : (n3 : Int) = T + 1 := by simpa using e4
    have hT : T = 1 ∨ T = 2 ∨ T = 3 ∨ T = 4 := by omega
    have e5' : (n4 : Int) = T * T := by
      have e5 : (n4 : Int) = IntKind.i64.wrap (T * T) := by simpa using e5
      rcases hT with rfl | rfl | rfl | rfl <;> (rw [w64 (by decide) (by decide)] at e5; exact e5)
    have htt : T.toNat * T.toNat = n4 := by
      rcases hT with rfl | rfl | rfl | rfl <;> (simp at e5' ⊢; omega)
    exact hk1 q hz T.toNat (la.map E) (lb.map E) (lr.map E) ⟨hq, rfl, by omega, (liftV na b6).symm, (liftV nb b7).symm, (liftV nr b8).symm, by omega, by omega, by rw [List.length_map]; omega, by rw [List.length_map]; omega, by rw [List.length_map]; omega⟩ H1 X1
theorem row_lit2 {x y : Int} {C : Value → HH → Prop} (hk : ∀ A' H', Ext H H' → Row H' A' 2 [x, y] → C (.slice A' 2 2) H') : HRun Try.prog base (Instr.buildSlice 23 2 #[(0, .int .u64 x), (1, .int .u64 y)]) H C := by
  have hfill : Instr.fill (fun i => some (i * 1, 1)) (madeCells (Value.int .u64 0).cells (2 * 1)) [(0, .int .u64 x), (1, .int .u64 y)] = some #[.int .u64 x, .int .u64 y] := by kernel_rfl
  refine h_lit (sz := 1) (z := .int .u64 0) (cs := #[.int .u64 x, .int .u64 y]) un32 (by kernel_rfl) (by decide) hfill (by decide) (fun gb hgb hbase => ?_)
  have ho := Own.lit (H := H) (T := 22) (sz := 1) hbase #[.int .u64 x, .int .u64 y] 2 (by decide) (by simp)
  exact hk _ _ (Ext.upd hgb _) (Own.row (l := [x, y]) ho)
theorem row_lit1 {x : Int} {C : Value → HH → Prop} (hk : ∀ A' H', Ext H H' → Row H' A' 1 [x] → C (.slice A' 1 1) H') : HRun Try.prog base (Instr.buildSlice 23 1 #[(0, .int .u64 x)]) H C :=
  row_lit (fun A' H' X r => hk A' H' X ⟨rfl, r⟩)
theorem mat_lit1 {A : Option Addr} {n c : Nat} {l : List Int} (h : Row H A n l) {C : Value → HH → Prop} (hk : ∀ A' H', Ext H H' → Mat H' A' 1 [l] → C (.slice A' 1 1) H') : HRun Try.prog base (Instr.buildSlice 28 1 #[(0, .slice A n c)]) H C := by
  have hfill : Instr.fill (fun i => some (i * 1, 1)) (madeCells (Value.slice none 0 0).cells (1 * 1)) [(0, .slice A n c)] = some #[.slice A n c] := by kernel_rfl
  refine h_lit (sz := 1) (z := .slice none 0 0) (cs := #[.slice A n c]) un23 (by kernel_rfl) (by decide) hfill (by decide) (fun gb hgb hbase => ?_)
  have X : Ext H (upd H gb (.cells #[.slice A n c] 23)) := Ext.upd hgb _
  refine hk _ _ X ⟨rfl, [.slice A n c], rfl, .inr ⟨_, rfl, fun i u hu => ?_⟩, fun i l' hl => ?_⟩
  · rw [add0, cellH_blk (upd_self _ _ _), ← Array.getElem?_toList]
    exact hu
  · have hi := (List.getElem?_eq_some_iff.1 hl).1
    have : i = 0 := by simp at hi; exact hi
    subst this
    have : l = l' := by simpa using hl
    subst this
    exact ⟨A, c, by rw [h.1]; rfl, h.2.ext X⟩
theorem sup31P : Sup 31 := .inl rfl
theorem h_awakeP (hk : ∀ H', Ext H H' → K (.bool true) H') : HCall Try.prog base 16 #[] H K := by
  refine privitylaw21_awake.spec ?_
  unfold privitylaw21_awake.sh
  refine row_lit2 (fun A1 H1 X1 r1 => ⟨_, _, _, rfl, row_lit2 (fun A2 H2 X2 r2 => ⟨_, _, _, rfl, row_lit1 (fun A3 H3 X3 r3 => ⟨_, _, _, rfl, ?_⟩)⟩)⟩)
  have ra : Row H3 A1 2 (vs ([2, 3] : List (Fin 31))) := (r1.ext X2).ext X3
  have rb : Row H3 A2 2 (vs ([4, 5] : List (Fin 31))) := r2.ext X3
  have rr : Row H3 A3 1 (vs ([7] : List (Fin 31))) := r3
  refine h_prove (p := 31) (t := 1) sup31P ra rb rr (by decide) (by decide) rfl rfl rfl (by decide) (fun A4 c4 A5 c5 H4 X4 M4 R5 _ => ⟨_, _, _, _, _, _, rfl, ?_⟩)
  have eD : ms (pD 1 ([7] : List (Fin 31)) (pL 1 [2, 3] [4, 5])) = [[7, 15]] := by decide +kernel
  have eC : vs (pC 1 ([7] : List (Fin 31)) (pL 1 [2, 3] [4, 5])) = [8, 15] := by decide +kernel
  rw [eD] at M4
  rw [eC] at R5
  refine row_lit2 (fun A6 H6 X6 r6 => ⟨_, _, _, rfl, mat_lit1 r6 (fun A7 H7 X7 m7 => ⟨_, _, _, rfl, ?_⟩)⟩)
  refine h_same (M4.mat.ext (X6.trans X7)) m7 (by decide) (by decide) ⟨_, rfl, ?_⟩
  rw [if_pos (by decide)]
  refine row_lit2 (fun A8 H8 X8 r8 => ⟨_, _, _, rfl, ?_⟩)
  refine h_sameList (R5.ext (X6.trans (X7.trans X8))) r8 (by decide) ⟨_, rfl, ?_⟩
  rw [if_pos (by decide)]
  refine row_lit1 (fun A9 H9 X9 r9 => ⟨_, _, _, rfl, ?_⟩)
  have r9' : Row H9 A9 1 (vs ([6] : List (Fin 31))) := r9
  refine h_verify (p := 31) sup31P 2 8 14 7 r9' (by decide) ⟨_, rfl, ?_⟩
  rw [if_pos (by decide +kernel)]
  refine row_lit1 (fun A10 H10 X10 r10 => ⟨_, _, _, rfl, ?_⟩)
  have r10' : Row H10 A10 1 (vs ([6] : List (Fin 31))) := r10
  refine h_verify (p := 31) sup31P 2 8 14 8 r10' (by decide) ⟨_, rfl, ?_⟩
  have ef : (!decide ((8 : Fin 31) * 14 - vsum 2 ([6] : List (Fin 31)).length (cf [6]) = 8)) = true := by decide +kernel
  rw [ef]
  exact hk H10 (X1.trans (X2.trans (X3.trans (X4.trans (X6.trans (X7.trans (X8.trans (X9.trans X10))))))))
end
end Go.Proofs.Ytjkggiemnfigbaa.HL
end
section
set_option linter.unusedVariables false
set_option linter.unusedSimpArgs false
set_option linter.unusedSectionVars false
set_option maxHeartbeats 4000000
namespace Go.Proofs.Ytjkggiemnfigbaa.HL
open Go Go.Proofs.YtjkggiemnfigbaaNum Go.Proofs.Ytjkggiemnfigbaa.FEv
section
variable {base : Nat} {H0 H : HH} {A : Option Addr} {n c : Nat} {rs : List Value} {w : List (List Int)}
/-- Only a block has turned that is none of theirs. -/
theorem Rows.same (h : Rows base H0 H A n c rs w) {H' : HH} {g : Nat} (hn : H0 g = none) {cur : Array Value} {T : Nat} (hg : H g = some (.cells cur T (0, 0))) (hT : 23 ≠ T) (hd : ∀ (i : Nat) (v : Value), rs[i]? = some v → v.ownBlock ≠ some g) (he : ∀ k, k ≠ g → H' k = H k) : Rows base H0 H' A n c rs w where
  ext := fun b x hx => by rw [he b (fun e => by rw [e, hn] at hx; cases hx)]; exact h.ext b x hx
  own := h.own.same (h.own.tag hg hT) he
  fo := h.fo
  len := h.len
  rows := fun i l hl => by
    obtain ⟨A1, c1, h6, h7, h8⟩ := h.rows i l hl
    exact ⟨A1, c1, h6, h7.same (hd i _ h6) he, h8⟩
  dist := h.dist
theorem Rows.known (h : Rows base H0 H A n c rs w) {i : Nat} {v : Value} (hv : rs[i]? = some v) {b : Nat} (hb : v.ownBlock = some b) : ∃ cur, H b = some (.cells cur 22 (0, 0)) := by
  have hi : i < w.length := by
    have h1 := (List.getElem?_eq_some_iff.1 hv).1
    have h2 := h.own.1
    rw [h.len]; omega
  obtain ⟨A1, c1, h6, h7, _⟩ := h.rows i _ (List.getElem?_eq_getElem hi)
  rw [hv] at h6
  cases h6
  exact (h7.known hb).2
end
section
variable {p : Nat} [NeZero p] {base : Nat} {H : HH} {K : Value → HH → Prop} {A A' A'' : Option Addr} {n n' n'' c c' c'' : Nat}
theorem Row.sub {l : List Int} (h : Row H A n l) (hc : n ≤ c) {a b : Nat} (h1 : a ≤ b) (h2 : b ≤ l.length) : ∃ A' c', AQ Try.prog (Instr.sliceAt 23 (.slice A n c) (some (.int .i64 a)) (some (.int .i64 b)) none) (.slice A' (b - a) c') ∧ Row H A' (b - a) ((l.drop a).take (b - a)) ∧ b - a ≤ c' := by
  have e1 := h.1
  refine ⟨if c = a then A else A.map (·.add (a * 1)), c - a, fun W => ?_, ⟨by rw [List.length_take, List.length_drop]; omega, ?_⟩, by omega⟩
  · have he : Try.prog.elem 23 = 22 := by unfold Program.elem; rw [un32]
    have hh := run_slice_lh W 23 A n c (he.symm ▸ un32) .i64 .i64 a b (by omega) (by omega) (by omega)
    rw [run_sliceAt_slice W 23 _ _ _ _ (he.symm ▸ un32), hh, he, run_sz info22]
    simp only [Result.andThen, sliced, Int.toNat_natCast]
  · by_cases e : a = b
    · left
      rw [e, Nat.sub_self]
      rfl
    · rcases h.2 with h3 | ⟨ad, rfl, h3⟩
      · have := congrArg List.length h3
        rw [us_length] at this
        have : l.length = 0 := this
        omega
      · rw [if_neg (by omega)]
        refine .inr ⟨_, rfl, fun i u hu => ?_⟩
        rw [Nat.mul_one, addr_add']
        refine h3 _ u ?_
        unfold us at hu ⊢
        rw [List.map_take, List.map_drop, List.getElem?_take] at hu
        split at hu
        · rw [List.getElem?_drop] at hu; exact hu
        · cases hu
end
end Go.Proofs.Ytjkggiemnfigbaa.HL
end
namespace Go.Proofs.Ytjkggiemnfigbaa.HL
end Go.Proofs.Ytjkggiemnfigbaa.HL
section
set_option linter.unusedVariables false
set_option linter.unusedSimpArgs false
set_option linter.unusedSectionVars false
set_option maxHeartbeats 4000000
namespace Go.Proofs.Ytjkggiemnfigbaa.HL
open Go Go.Proofs.YtjkggiemnfigbaaNum Go.Proofs.Ytjkggiemnfigbaa.FEv
section
variable {p : Nat} [NeZero p] {base : Nat} {H : HH} {K : Value → HH → Prop} {A A' A2 A3 A4 : Option Addr} {n n' n2 n3 n4 c c' c2 c3 c4 : Nat}
theorem h_unlike10 {l : List Int} (h : Row H A n l) (hz : l.length ≤ 1000) (hk : ∀ b, K (.bool b) H) : HCall Try.prog base 27 #[.slice A n c] H K := by
  refine privityref10_Unlike.spec ?_
  unfold privityref10_Unlike.sh
  have e1 := h.1
  refine privityref10_Unlike.loop0 (fun k y H' => H' = H ∧ ∃ i : Nat, y = i ∧ i ≤ n ∧ k = n - i) n ⟨rfl, 0, rfl, Nat.zero_le _, rfl⟩ ?_
  rintro k y g H1 ⟨rfl, i, rfl, hi, rfl⟩
  unfold privityref10_Unlike.B0
  split
  · rename_i e
    have e := of_decide_eq_true e
    refine privityref10_Unlike.loop1 (fun k y H' => H' = H1 ∧ ∃ j : Nat, y = j ∧ j ≤ i ∧ k = i - j) i ⟨rfl, 0, rfl, Nat.zero_le _, rfl⟩ ?_
    rintro k2 y g H2 ⟨rfl, j, rfl, hj, rfl⟩
    unfold privityref10_Unlike.B1
    split
    · rename_i e2
      have e2 := of_decide_eq_true e2
      obtain ⟨a1, q1, q2⟩ := h.at c (i := i) (by omega) (by omega)
      obtain ⟨a2, p1, p2⟩ := h.at c (i := j) (by omega) (by omega)
      refine ⟨a1, q1, _, q2, a2, p1, _, p2, ?_⟩
      split
      · exact hk _
      · exact ⟨i - j - 1, by omega, _, rfl, rfl, j + 1, nxt (n := 1000) (by omega) (by decide), by omega, by omega⟩
    · exact ⟨n - i - 1, by omega, _, rfl, rfl, i + 1, nxt (n := 1000) (by omega) (by decide), by omega, by omega⟩
  · exact hk _
theorem vanish_snoc : ∀ (xs z : List (Fin p)) (x : Fin p), vanish (xs ++ [x]) z = vstep (vanish xs z) (0 - inv x)
  | [], z, x => rfl
  | y :: xs, z, x => by rw [List.cons_append, vanish, vanish, vanish_snoc xs]
def vsS (z : List (Fin p)) (d : Fin p) (j : Nat) : List (Fin p) := (List.range (z.length + 1)).map fun x => cf z x + if 1 ≤ x ∧ x < j + 1 then d * cf z (x - 1) else 0
@[simp] theorem vsS_len (z : List (Fin p)) (d : Fin p) (j : Nat) : (vsS z d j).length = z.length + 1 := by simp [vsS]
theorem vsS_zero (z : List (Fin p)) (d : Fin p) : z ++ [0] = vsS z d 0 := by
  apply cf_ext (by simp)
  intro i
  unfold vsS
  rw [cf_map_range, cf_append, cf_single]
  by_cases h : i < z.length
  · rw [if_pos h, if_pos (by omega), if_neg (by omega)]; grind
  · rw [if_neg h]
    by_cases h2 : i < z.length + 1
    · rw [if_pos h2, if_pos (by omega), if_neg (by omega), cf_ge (by omega)]; grind
    · rw [if_neg h2, if_neg (by omega)]
theorem vsS_step {z : List (Fin p)} {d : Fin p} {j : Nat} (h : j < z.length) : (vsS z d j).set (j + 1) (cf (vsS z d j) (j + 1) + d * cf z j) = vsS z d (j + 1) := by
  have e : cf (vsS z d j) (j + 1) = cf z (j + 1) := by
    unfold vsS
    rw [cf_map_range, if_pos (by omega), if_neg (by omega)]; grind
  rw [e]
  unfold vsS
  refine set_range _ _ (by omega) _ (by rw [if_pos (by omega), Nat.add_sub_cancel]) (fun x _ hx => ?_)
  by_cases h1 : 1 ≤ x ∧ x < j + 1
  · rw [if_pos h1, if_pos (by omega)]
  · rw [if_neg h1, if_neg (by omega)]
theorem vsS_full (z : List (Fin p)) (d : Fin p) : vsS z d z.length = vstep z d := by
  unfold vsS vstep
  apply List.map_congr_left
  intro x hx
  have := List.mem_range.1 hx
  by_cases h : x = 0
  · rw [if_neg (by omega), if_pos h]
  · rw [if_pos (by omega), if_neg h]
theorem h_rsub0 (hp : Sup p) (b : Fin p) (hk : K (.int .u64 (V (0 - b))) H) : HCall Try.prog base 51 #[.int .u64 p, .int .u64 0, .int .u64 (V b)] H K := by
  have h := h_rsub (base := base) hp (0 : Fin p) b hk
  rwa [V_zero] at h
theorem us_vs0 : us (vs [(0 : Fin p)]) = [.int .u64 0] := rfl
theorem us_vs1 (hp : Sup p) : us (vs [(1 : Fin p)]) = [.int .u64 1] := by simp [us, vs, V_one hp]
theorem h_vanish (hp : Sup p) {xs : List (Fin p)} (h : Row H A n (vs xs)) (hz : xs.length ≤ 100) (h0 : ∀ x ∈ xs, x ≠ 0) (hk : ∀ A1 c1 H', Ext H H' → Row H' A1 (xs.length + 1) (vs (vanish xs [1])) → K (.slice A1 (xs.length + 1) c1) H') : HCall Try.prog base 28 #[.int .u64 p, .slice A n c] H K := by
  refine privityref10_Vanish.spec ?_
  unfold privityref10_Vanish.sh
  have e1 := h.1
  rw [vs_length] at e1
  refine row_lit (fun A1 H1 X1 r1 => ⟨_, _, _, rfl, ?_⟩)
  rw [← us_vs1 hp] at r1
  refine privityref10_Vanish.loop0 (fun k A5 l5 c5 y H' => ∃ i : Nat, y = i ∧ i ≤ n ∧ k = n - i ∧ l5 = i + 1 ∧ Ext H H' ∧ Row H' A5 (i + 1) (vs (vanish (xs.take i) [1]))) n ⟨0, rfl, Nat.zero_le _, rfl, rfl, X1, rfl, r1⟩ ?_
  rintro k A5 l5 c5 y g H2 ⟨i, rfl, hi, rfl, rfl, X2, r2⟩
  unfold privityref10_Vanish.B0
  have hzl : (vanish (xs.take i) [1]).length = i + 1 := by rw [vanish_len, List.length_take]; simp; omega
  split
  · rename_i e
    have e := of_decide_eq_true e
    obtain ⟨a1, q1, q2⟩ := (h.ext X2).at c (i := i) (by omega) e
    rw [Int.toNat_natCast, vs_get] at q2
    have hil : i < xs.length := by omega
    have hcx : cf xs i = xs[i] := by unfold cf; simp [hil]
    have hne : cf xs i ≠ 0 := by rw [hcx]; exact h0 _ (List.getElem_mem _)
    have hnext : vanish (xs.take (i + 1)) [1] = vstep (vanish (xs.take i) [1]) (0 - inv (cf xs i)) := by
      have : xs.take (i + 1) = xs.take i ++ [cf xs i] := by
        rw [List.take_add_one, List.getElem?_eq_getElem hil, hcx]; rfl
      rw [this, vanish_snoc]
    refine ⟨a1, q1, _, q2, h_rinv hp hne ⟨_, _, rfl, h_rsub0 hp _ ⟨_, rfl, ?_⟩⟩⟩
    generalize (0 : Fin p) - inv (cf xs i) = d at hnext ⊢
    generalize vanish (xs.take i) [1] = z at *
    refine row_lit0 (fun A6 c6 H5 X5 o5 f5 => ⟨_, _, _, rfl, ?_⟩)
    refine h_appR (l := ([] : List (Fin p))) (f := z) o5 ⟨X5, f5⟩ hzl.symm (by omega) (r2.ext X5).2 (fun A8 c8 H8 o8 f8 => ?_)
    rw [List.nil_append] at o8; rw [Nat.zero_add] at o8 f8 ⊢
    refine row_lit (fun A9 H9 X9 r9 => ⟨_, _, _, rfl, ?_⟩)
    rw [← us_vs0 (p := p)] at r9
    refine h_appR (m := 1) (l := z) (f := [(0 : Fin p)]) (o8.ext X9) (f8.more X9) rfl (by omega) r9 (fun A10 c10 H10 o10 f10 => ?_)
    rw [vsS_zero z d] at o10
    refine privityref10_Vanish.loop1 (fun k y H' => ∃ j : Nat, y = j ∧ j ≤ i + 1 ∧ k = i + 1 - j ∧ Own base H' 22 1 (.slice A10 (i + 1 + 1) c10) (i + 1 + 1) (us (vs (vsS z d j))) ∧ Frz H2 H' (.slice A10 (i + 1 + 1) c10)) (i + 1) ⟨0, rfl, Nat.zero_le _, rfl, o10, f10⟩ ?_
    rintro k1 y g1 H11 ⟨j, rfl, hj, rfl, o11, f11⟩
    unfold privityref10_Vanish.B1
    split
    · rename_i e2
      have e2 := of_decide_eq_true e2
      have hnx : IntKind.i64.wrap ((j : Int) + 1) = ((j + 1 : Nat) : Int) := nxt (n := 1000) (by omega) (by decide)
      rw [hnx]
      obtain ⟨gb, cur, rfl, hb, hcur, _, _⟩ := o11.at (j := j + 1) (by omega)
      obtain ⟨a2, p1, p2⟩ := o11.row.at c10 (i := ((j + 1 : Nat) : Int)) (by omega) (by omega)
      obtain ⟨a3, s1, s2⟩ := (r2.ext f11.ext).at c5 (i := j) (by omega) (by omega)
      rw [Int.toNat_natCast, vs_get] at p2 s2
      refine ⟨a2, p1, _, p2, a3, s1, _, s2, _, h_rmul hp _ _ ⟨rfl, rfl⟩, _, h_radd hp _ _ ⟨rfl, rfl⟩, _, aq_own un32 info22 (by omega), ?_⟩
      refine h_put2 info22 o11 (by omega) rfl (fun H12 o12 s12 => ?_)
      rw [us_set, vs_set, vsS_step (by omega)] at o12
      exact ⟨i + 1 - j - 1, by omega, _, rfl, j + 1, rfl, by omega, by omega, o12, f11.same (f11.off gb (by simp [Value.ownBlock])) s12⟩
    · rename_i e2
      have e2 : ¬ ((j : Int) < ((i + 1 : Nat) : Int)) := fun h => e2 (decide_eq_true h)
      have : j = z.length := by omega
      subst this
      rw [vsS_full, ← hnext] at o11
      exact ⟨n - i - 1, by omega, _, _, _, _, rfl, rfl, i + 1, nxt (n := 1000) (by omega) (by decide), by omega, by omega, rfl, X2.trans f11.ext, o11.row⟩
  · rename_i e
    have e : ¬ ((i : Int) < (n : Int)) := fun h => e (decide_eq_true h)
    have : i = xs.length := by omega
    subst this
    rw [List.take_of_length_le (Nat.le_refl _)] at r2
    exact hk _ _ _ X2 r2
def Ap (v w : Value) : Prop := ∀ b, w.ownBlock = some b → v.ownBlock ≠ some b
theorem Ap.symm {v w : Value} (h : Ap v w) : Ap w v := fun b hb e => h b e hb
theorem Ap.grows {v v' w : Value} {H' : HH} {T sz k : Nat} {xs : List Value} (h : Ap v w) (g : Grows H H' v v') (ho : Own base H T sz w k xs) : Ap v' w := fun b hb e => by
  rcases g.at_ with e2 | e2
  · exact h b hb (e2 ▸ e)
  · obtain ⟨_, cur, hc⟩ := ho.known hb
    rw [e2 b e] at hc; cases hc
theorem Own.held {T sz k : Nat} {xs : List Value} {v v' w : Value} {H' : HH} (ho : Own base H T sz w k xs) (g : Grows H H' v v') (h : Ap v w) : Own base H' T sz w k xs :=
  ho.move (fun b o hb hx => g.keep b o (h b hb) hx)
theorem mvA_eq (t : Nat) (a : List (Fin p)) (u : Fin p) (z : List (Fin p)) : mvA t a u z = (List.range (t + 1)).map fun i => cf a i + u * cf z i := rfl
theorem h_moved (hp : Sup p) {t : Nat} {a b r z : List (Fin p)} (u v : Fin p) (ha : Row H A n (vs a)) (hb : Row H A2 n2 (vs b)) (hr : Row H A3 n3 (vs r)) (hz : Row H A4 n4 (vs z)) (t1 : 1 ≤ t) (t4 : t ≤ 4) (al : a.length = t + 1) (bl : b.length = t + 1) (rl : r.length = t * t) (zl : z.length = t + 1)
    (hk : ∀ A5 c5 A6 c6 A7 c7 H', Ext H H' → Row H' A5 (t + 1) (vs (mvA t a u z)) → Row H' A6 (t + 1) (vs (mvA t b v z)) → Row H' A7 (t * t) (vs (mvR t r (mvW a b u v z) z)) → t * t ≤ c7 → K (.tuple #[.slice A5 (t + 1) c5, .slice A6 (t + 1) c6, .slice A7 (t * t) c7]) H') :
    HCall Try.prog base 29 #[.int .u64 p, .int .i64 t, .slice A n c, .slice A2 n2 c2, .slice A3 n3 c3, .slice A4 n4 c4, .int .u64 (V u), .int .u64 (V v)] H K := by
  refine privityref21_Moved.spec ?_
  unfold privityref21_Moved.sh
  have e1 := ha.1
  have e2 := hb.1
  have e3 := hr.1
  have e4 := hz.1
  rw [vs_length] at e1 e2 e3 e4
  have ht16 : t * t ≤ 16 := Nat.mul_le_mul t4 t4
  refine privityref21_Moved.loop0 (fun k B1 l1 d1 B2 l2 d2 B3 l3 d3 y H' => ∃ i : Nat, y = i ∧ i ≤ t + 1 ∧ k = t + 1 - i ∧ l1 = i ∧ l2 = i ∧ l3 = i ∧ Ext H H' ∧ Own base H' 22 1 (.slice B1 i d1) i (us (vs ((List.range i).map (mvW a b u v z)))) ∧ Own base H' 22 1 (.slice B2 i d2) i (us (vs ((List.range i).map fun i => cf a i + u * cf z i))) ∧ Own base H' 22 1 (.slice B3 i d3) i (us (vs ((List.range i).map fun i => cf b i + v * cf z i))) ∧
      Fresh H (.slice B1 i d1) ∧ Fresh H (.slice B2 i d2) ∧ Fresh H (.slice B3 i d3) ∧ Ap (.slice B1 i d1) (.slice B2 i d2) ∧ Ap (.slice B1 i d1) (.slice B3 i d3) ∧ Ap (.slice B2 i d2) (.slice B3 i d3)) (t + 1)
    ⟨0, rfl, Nat.zero_le _, rfl, rfl, rfl, rfl, .refl _, Own.nil _ _ _ _, Own.nil _ _ _ _, Own.nil _ _ _ _, fun b hb => by simp [Value.ownBlock] at hb, fun b hb => by simp [Value.ownBlock] at hb, fun b hb => by simp [Value.ownBlock] at hb, fun b hb => by simp [Value.ownBlock] at hb, fun b hb => by simp [Value.ownBlock] at hb, fun b hb => by simp [Value.ownBlock] at hb⟩ ?_
  rintro k B1 l1 d1 B2 l2 d2 B3 l3 d3 y g H1 ⟨i, rfl, hi, rfl, rfl, rfl, rfl, X1, o1, o2, o3, f1, f2, f3, p12, p13, p23⟩
  unfold privityref21_Moved.B0
  split
  · rename_i e
    have e := of_decide_eq_true e
    have rd : ∀ {A : Option Addr} {n : Nat} {f : List (Fin p)} {H' : HH} (c : Nat), Row H A n (vs f) → n = t + 1 → Ext H H' → ∃ a, AQ Try.prog (Instr.indexAt 23 (.slice A n c) (.int .i64 l3)) (.pointer (some a)) ∧ QRun Try.prog (Instr.loadAt 22 (.pointer (some a))) H' (.int .u64 (V (cf f l3))) := fun c hr hn X => by
      obtain ⟨a1, q1, q2⟩ := (hr.ext X).at c (i := l3) (by omega) (by omega)
      rw [Int.toNat_natCast, vs_get] at q2
      exact ⟨a1, q1, q2⟩
    obtain ⟨aa, qa1, qa2⟩ := rd c ha (by omega) X1
    obtain ⟨az, qz1, qz2⟩ := rd c4 hz (by omega) X1
    refine ⟨aa, qa1, _, qa2, az, qz1, _, qz2, _, h_rmul hp _ _ ⟨rfl, rfl⟩, _, h_radd hp _ _ ⟨rfl, rfl⟩, ?_⟩
    refine h_push un32 inf22 rfl (by decide) rfl o2 (by omega) (fun B4 d4 H2 o4 g4 => ?_)
    have X2 : Ext H H2 := fun b o hb => g4.keep b o (fun e => by rw [f2 b e] at hb; cases hb) (X1 b o hb)
    have f4 : Fresh H (.slice B4 (l3 + 1) d4) := fun b hb => by
      rcases g4.at_ with e | e
      · exact f2 b (e ▸ hb)
      · exact X1.none (e b hb)
    have o1' := o1.held g4 p12.symm
    have o3' := o3.held g4 p23
    have p14 := (p12.symm.grows g4 o1).symm
    have p43 := p23.grows g4 o3
    obtain ⟨ab, qb1, qb2⟩ := rd c2 hb (by omega) X2
    obtain ⟨az2, qz3, qz4⟩ := rd c4 hz (by omega) X2
    refine ⟨ab, qb1, _, qb2, az2, qz3, _, qz4, _, h_rmul hp _ _ ⟨rfl, rfl⟩, _, h_radd hp _ _ ⟨rfl, rfl⟩, ?_⟩
    refine h_push un32 inf22 rfl (by decide) rfl o3' (by omega) (fun B5 d5 H3 o5 g5 => ?_)
    have X3 : Ext H H3 := fun b o hb => g5.keep b o (fun e => by rw [f3 b e] at hb; cases hb) (X2 b o hb)
    have f5 : Fresh H (.slice B5 (l3 + 1) d5) := fun b hb => by
      rcases g5.at_ with e | e
      · exact f3 b (e ▸ hb)
      · exact X2.none (e b hb)
    have o1'' := o1'.held g5 p13.symm
    have o4' := o4.held g5 p43.symm
    have p15 := (p13.symm.grows g5 o1').symm
    have p45 := (p43.symm.grows g5 o4).symm
    obtain ⟨ab2, qb3, qb4⟩ := rd c2 hb (by omega) X3
    obtain ⟨aa2, qa3, qa4⟩ := rd c ha (by omega) X3
    obtain ⟨az3, qz5, qz6⟩ := rd c4 hz (by omega) X3
    refine ⟨ab2, qb3, _, qb4, _, h_rmul hp _ _ ⟨rfl, rfl⟩, aa2, qa3, _, qa4, _, h_rmul hp _ _ ⟨rfl, rfl⟩, _, h_radd hp _ _ ⟨rfl, rfl⟩, _, h_rmul hp _ _ ⟨rfl, rfl⟩, az3, qz5, _, qz6, _, h_rmul hp _ _ ⟨rfl, rfl⟩, _, h_radd hp _ _ ⟨rfl, rfl⟩, ?_⟩
    refine h_push un32 inf22 rfl (by decide) rfl o1'' (by omega) (fun B6 d6 H4 o6 g6 => ?_)
    have X4 : Ext H H4 := fun b o hb => g6.keep b o (fun e => by rw [f1 b e] at hb; cases hb) (X3 b o hb)
    have f6 : Fresh H (.slice B6 (l3 + 1) d6) := fun b hb => by
      rcases g6.at_ with e | e
      · exact f1 b (e ▸ hb)
      · exact X3.none (e b hb)
    refine ⟨t + 1 - l3 - 1, by omega, _, _, _, _, _, _, _, _, _, _, rfl, rfl, rfl, rfl, l3 + 1, nxt (n := 1000) (by omega) (by decide), by omega, by omega, rfl, rfl, rfl, X4, ?_, ?_, ?_, f6, f4, f5, p14.grows g6 o4', p15.grows g6 o5, p45⟩
    · rw [mk_succ, vs_snoc, us_snoc]; exact o6
    · rw [mk_succ, vs_snoc, us_snoc]; exact o4'.held g6 p14
    · rw [mk_succ, vs_snoc, us_snoc]; exact o5.held g6 p15
  · rename_i e
    have e : ¬ ((l3 : Int) ≤ (t : Int)) := fun h => e (decide_eq_true h)
    obtain rfl : l3 = t + 1 := by omega
    rw [← mvA_eq] at o2 o3
    have rw_ := o1.row
    have r2 := o2.row
    have r3 := o3.row
    have rr := hr.ext X1
    have rz := hz.ext X1
    clear p12 p13 p23 f1 f2 f3 o1 o2 o3
    generalize hw : (List.range (t + 1)).map (mvW a b u v z) = w at rw_
    have hcw : ∀ i, i < t + 1 → cf w i = mvW a b u v z i := fun i hi => by rw [← hw, cf_map_range, if_pos hi]
    refine privityref21_Moved.loop1 (fun k B l d y H' => ∃ i : Nat, y = ((i + 1 : Nat) : Int) ∧ i ≤ t ∧ k = t - i ∧ l = i * t ∧ Own base H' 22 1 (.slice B (i * t) d) (i * t) (us (vs ((List.range (i * t)).map fun m => cf r m + mvW a b u v z (m / t + 1) * cf z (m % t)))) ∧ Frz H1 H' (.slice B (i * t) d)) t ⟨0, rfl, Nat.zero_le _, rfl, by omega, by rw [Nat.zero_mul]; exact Own.nil _ _ _ _, by rw [Nat.zero_mul]; exact Frz.nil _⟩ ?_
    rintro k B l d y g H2 ⟨i, rfl, hi, rfl, rfl, o4, f4⟩
    unfold privityref21_Moved.B1
    split
    · rename_i e5
      have e5 := of_decide_eq_true e5
      have hit : i < t := by omega
      have hle : i * t + t ≤ t * t := by
        have := Nat.mul_le_mul_right t (show i + 1 ≤ t from hit)
        rwa [Nat.succ_mul] at this
      refine privityref21_Moved.loop2 (fun k B l d y H' => ∃ j : Nat, y = j ∧ j ≤ t ∧ k = t - j ∧ l = i * t + j ∧ Own base H' 22 1 (.slice B (i * t + j) d) (i * t + j) (us (vs ((List.range (i * t + j)).map fun m => cf r m + mvW a b u v z (m / t + 1) * cf z (m % t)))) ∧ Frz H1 H' (.slice B (i * t + j) d)) t ⟨0, rfl, Nat.zero_le _, rfl, rfl, o4, f4⟩ ?_
      rintro k2 B l d y g H3 ⟨j, rfl, hj, rfl, rfl, o5, f5⟩
      unfold privityref21_Moved.B2
      split
      · rename_i e6
        have e6 := of_decide_eq_true e6
        have ei : IntKind.i64.wrap (IntKind.i64.wrap (IntKind.i64.wrap (((i + 1 : Nat) : Int) - 1) * (t : Int)) + (j : Int)) = ((i * t + j : Nat) : Int) := by
          rw [show ((i + 1 : Nat) : Int) - 1 = (i : Int) by omega, w64 (x := (i : Int)) (by omega) (by omega), ← Int.natCast_mul, w64 (x := ((i * t : Nat) : Int)) (by omega) (by omega), w64 (by omega) (by omega)]
          omega
        rw [ei]
        obtain ⟨a1, q1, q2⟩ := (rr.ext f5.ext).at c3 (i := ((i * t + j : Nat) : Int)) (by omega) (by omega)
        obtain ⟨a2, q3, q4⟩ := (rw_.ext f5.ext).at d1 (i := ((i + 1 : Nat) : Int)) (by omega) (by omega)
        obtain ⟨a3, q5, q6⟩ := (rz.ext f5.ext).at c4 (i := (j : Int)) (by omega) (by omega)
        rw [Int.toNat_natCast, vs_get] at q2 q4 q6
        rw [hcw (i + 1) (by omega)] at q4
        refine ⟨a1, q1, _, q2, a2, q3, _, q4, a3, q5, _, q6, _, h_rmul hp _ _ ⟨rfl, rfl⟩, _, h_radd hp _ _ ⟨rfl, rfl⟩, ?_⟩
        have d1' : (i * t + j) / t = i := by rw [Nat.add_comm, Nat.add_mul_div_right _ _ (by omega), Nat.div_eq_of_lt (by omega), Nat.zero_add]
        have d2' : (i * t + j) % t = j := by rw [Nat.add_comm, Nat.add_mul_mod_self_right, Nat.mod_eq_of_lt (by omega)]
        refine h_push un32 inf22 rfl (by decide) rfl o5 (by omega) (fun B6 d6 H4 o6 g6 => ?_)
        refine ⟨t - j - 1, by omega, _, _, _, _, rfl, rfl, j + 1, nxt (n := 1000) (by omega) (by decide), by omega, by omega, rfl, ?_, f5.grow g6⟩
        rw [← Nat.add_assoc, mk_succ, vs_snoc, us_snoc, d1', d2']
        exact o6
      · rename_i e6
        have e6 : ¬ ((j : Int) < (t : Int)) := fun h => e6 (decide_eq_true h)
        obtain rfl : j = t := by omega
        refine ⟨j - i - 1, by omega, _, _, _, _, rfl, rfl, i + 1, nxt (n := 1000) (by omega) (by decide), by omega, by omega, by rw [Nat.succ_mul], ?_, ?_⟩
        · rw [Nat.succ_mul]; exact o5
        · rw [Nat.succ_mul]; exact f5
    · rename_i e5
      have e5 : ¬ (((i + 1 : Nat) : Int) ≤ (t : Int)) := fun h => e5 (decide_eq_true h)
      obtain rfl : i = t := by omega
      obtain ⟨_, _, es, hcap, _⟩ := o4.slice
      cases es
      exact hk _ _ _ _ _ _ H2 (X1.trans f4.ext) (r2.ext f4.ext) (r3.ext f4.ext) o4.row hcap
end
end Go.Proofs.Ytjkggiemnfigbaa.HL
end
section
set_option linter.unusedVariables false
set_option linter.unusedSimpArgs false
set_option maxRecDepth 100000
namespace Go.Proofs.Ytjkggiemnfigbaa.HL
open Go
def privitylaw21_ProductProofProve.ann : Ann := ⟨fun k => [], fun k => false, fun k => []⟩
def privitylaw21_ProductProofVerify.ann : Ann := ⟨fun k => bif Nat.beq k 3 then [] else bif Nat.beq k 8 then [] else [], fun k => false, fun k => bif Nat.beq k 6 then [0, 2, 7, 8, 9, 10, 11, 12] else []⟩
def privitylaw21_ProductProofZeroKnowledge.ann : Ann := ⟨fun k => bif Nat.beq k 9 then [] else bif Nat.beq k 20 then [4, 9, 10] else bif Nat.beq k 22 then [16] else bif Nat.beq k 23 then [] else [], fun k => false, fun k => bif Nat.beq k 5 then [1, 3, 4] else bif Nat.beq k 17 then [1, 3, 5, 6, 7, 8, 9, 10, 11, 12, 13, 14, 15] else []⟩
def privitylaw21_ProductProofZeroKnowledge.P0 (base : Nat) (l : List Value) (H0 : HH) (K : Value → HH → Prop) : Prop := HCodeL Try.prog base 280 (codeAt [.r, .r, .r, .l, .r, .b] (bodyOf Try.f6)) [1, 3, 4] l H0 (qAt Try.prog base 280 privitylaw21_ProductProofZeroKnowledge.ann [.r, .r, .r, .l, .r, .b] [] (bodyOf Try.f6) (retQ Try.prog 280 Try.f6 K))
def privitylaw21_ProductProofZeroKnowledge.P1 (base : Nat) (l : List Value) (H0 : HH) (K : Value → HH → Prop) : Prop := HCodeL Try.prog base 280 (codeAt [.r, .r, .r, .r, .r, .r, .r, .r, .r, .r, .l, .r, .b] (bodyOf Try.f6)) [1, 3, 5, 6, 7, 8, 9, 10, 11, 12, 13, 14, 15] l H0 (qAt Try.prog base 280 privitylaw21_ProductProofZeroKnowledge.ann [.r, .r, .r, .r, .r, .r, .r, .r, .r, .r, .l, .r, .b] [] (bodyOf Try.f6) (retQ Try.prog 280 Try.f6 K))
def privitylaw21_ProductProofZeroKnowledge.L1 (base : Nat) (x1 x3 : Addr) (x5 x6 : Int) (Ax7 : Option Addr) (lx7 cx7 : Nat) (Ax8 : Option Addr) (lx8 cx8 : Nat) (Ax9 : Option Addr) (lx9 cx9 : Nat) (Ax10 : Option Addr) (lx10 cx10 : Nat) (Ax11 : Option Addr) (lx11 cx11 : Nat) (Ax12 : Option Addr) (lx12 cx12 : Nat) (Ax13 : Option Addr) (lx13 cx13 : Nat) (Ax14 : Option Addr) (lx14 cx14 : Nat) (y15 : Int) (H0 : HH) (K : Value → HH → Prop) : Prop := privitylaw21_ProductProofZeroKnowledge.P1 base [(.pointer ((some x1))), (.pointer ((some x3))), (.int .u64 x5), (.int .u64 x6), (.slice Ax7 lx7 cx7), (.slice Ax8 lx8 cx8), (.slice Ax9 lx9 cx9), (.slice Ax10 lx10 cx10), (.slice Ax11 lx11 cx11), (.slice Ax12 lx12 cx12), (.slice Ax13 lx13 cx13), (.slice Ax14 lx14 cx14), (.int .i64 y15)] H0 K
def privitylaw21_ProductProofZeroKnowledge.sh (base : Nat) (x0_0 : Int) (x0_1 : Int) (Ax0_2 : Option Addr) (lx0_2 cx0_2 : Nat) (Ax0_3 : Option Addr) (lx0_3 cx0_3 : Nat) (Ax0_4 : Option Addr) (lx0_4 cx0_4 : Nat) (Ax0_5 : Option Addr) (lx0_5 cx0_5 : Nat) (x0_6 : Int) (x0_7 : Int) (H0 : HH) (K : Value → HH → Prop) : Prop :=
 HRun Try.prog base (Instr.box 44 (.agg #[(.int .u64 x0_0), (.int .i64 x0_1), (.slice Ax0_2 lx0_2 cx0_2), (.slice Ax0_3 lx0_3 cx0_3), (.slice Ax0_4 lx0_4 cx0_4), (.slice Ax0_5 lx0_5 cx0_5), (.int .u64 x0_6), (.int .u64 x0_7)])) H0 fun v1 H2 =>
 ∃ a3 : Addr, v1 = (.pointer ((some a3))) ∧ ∃ a4 : Addr, AQ Try.prog (Instr.fieldAt 44 (.pointer ((some a3))) 0) (.pointer ((some a4))) ∧
 ∃ n5 : Int, ∃ n6 : Int, ∃ (A7 : Option Addr) (l7 c7 : Nat), ∃ (A8 : Option Addr) (l8 c8 : Nat), ∃ (A9 : Option Addr) (l9 c9 : Nat), QRun Try.prog (Instr.loadAt 25 (.pointer ((some a4)))) H2 (.agg #[(.int .u64 n5), (.int .i64 n6), (.slice A7 l7 c7), (.slice A8 l8 c8), (.slice A9 l9 c9)]) ∧
 HRun Try.prog base (Instr.alloc 25 true (.tuple #[])) H2 fun v10 H11 =>
 ∃ a12 : Addr, v10 = (.pointer ((some a12))) ∧ HRun Try.prog base (Instr.storeAt 25 (.pointer ((some a12))) (.agg #[(.int .u64 n5), (.int .i64 n6), (.slice A7 l7 c7), (.slice A8 l8 c8), (.slice A9 l9 c9)])) H11 fun _ H13 =>
 ∃ n14 : Int, ∃ n15 : Int, ∃ (A16 : Option Addr) (l16 c16 : Nat), ∃ (A17 : Option Addr) (l17 c17 : Nat), ∃ (A18 : Option Addr) (l18 c18 : Nat), QRun Try.prog (Instr.loadAt 25 (.pointer ((some a12)))) H13 (.agg #[(.int .u64 n14), (.int .i64 n15), (.slice A16 l16 c16), (.slice A17 l17 c17), (.slice A18 l18 c18)]) ∧
 HCall Try.prog base 15 #[(.agg #[(.int .u64 n14), (.int .i64 n15), (.slice A16 l16 c16), (.slice A17 l17 c17), (.slice A18 l18 c18)])] H13 fun v19 H20 =>
 ∃ b21 : Bool, v19 = (.bool b21) ∧ if (!b21) = false then
 ∃ a22 : Addr, AQ Try.prog (Instr.fieldAt 44 (.pointer ((some a3))) 1) (.pointer ((some a22))) ∧
 ∃ (A23 : Option Addr) (l23 c23 : Nat), QRun Try.prog (Instr.loadAt 23 (.pointer ((some a22)))) H20 (.slice A23 l23 c23) ∧
 ∃ a24 : Addr, AQ Try.prog (Instr.fieldAt 25 (.pointer ((some a12))) 1) (.pointer ((some a24))) ∧
 ∃ n25 : Int, QRun Try.prog (Instr.loadAt 3 (.pointer ((some a24)))) H20 (.int .i64 n25) ∧
 if ((((l23 : Nat) : Int) : Int) != n25) = false then
 ∃ a26 : Addr, AQ Try.prog (Instr.fieldAt 25 (.pointer ((some a12))) 0) (.pointer ((some a26))) ∧
 ∃ n27 : Int, QRun Try.prog (Instr.loadAt 22 (.pointer ((some a26)))) H20 (.int .u64 n27) ∧
 ∃ a28 : Addr, AQ Try.prog (Instr.fieldAt 44 (.pointer ((some a3))) 1) (.pointer ((some a28))) ∧
 ∃ (A29 : Option Addr) (l29 c29 : Nat), QRun Try.prog (Instr.loadAt 23 (.pointer ((some a28)))) H20 (.slice A29 l29 c29) ∧
 HCall Try.prog base 26 #[(.int .u64 n27), (.slice A29 l29 c29), (.int .i64 4)] H20 fun v30 H31 =>
 ∃ b32 : Bool, v30 = (.bool b32) ∧ if (!b32) = false then
 ∃ a33 : Addr, AQ Try.prog (Instr.fieldAt 44 (.pointer ((some a3))) 1) (.pointer ((some a33))) ∧
 ∃ (A34 : Option Addr) (l34 c34 : Nat), QRun Try.prog (Instr.loadAt 23 (.pointer ((some a33)))) H31 (.slice A34 l34 c34) ∧
 HCall Try.prog base 27 #[(.slice A34 l34 c34)] H31 fun v35 H36 =>
 ∃ b37 : Bool, v35 = (.bool b37) ∧ if (!b37) = true then
 HCall Try.prog base 16 #[] H36 fun v38 H39 =>
 ∃ b40 : Bool, v38 = (.bool b40) ∧ K (.bool b40) H39
 else
 privitylaw21_ProductProofZeroKnowledge.P0 base [(.pointer ((some a3))), (.pointer ((some a12))), (.int .i64 0)] H36 K
 else
 HCall Try.prog base 16 #[] H31 fun v41 H42 =>
 ∃ b43 : Bool, v41 = (.bool b43) ∧ K (.bool b43) H42
 else
 HCall Try.prog base 16 #[] H20 fun v44 H45 =>
 ∃ b46 : Bool, v44 = (.bool b46) ∧ K (.bool b46) H45
 else
 HCall Try.prog base 16 #[] H20 fun v47 H48 =>
 ∃ b49 : Bool, v47 = (.bool b49) ∧ K (.bool b49) H48
theorem privitylaw21_ProductProofZeroKnowledge.spec {base : Nat} {x0_0 : Int} {x0_1 : Int} {Ax0_2 : Option Addr} {lx0_2 cx0_2 : Nat} {Ax0_3 : Option Addr} {lx0_3 cx0_3 : Nat} {Ax0_4 : Option Addr} {lx0_4 cx0_4 : Nat} {Ax0_5 : Option Addr} {lx0_5 cx0_5 : Nat} {x0_6 : Int} {x0_7 : Int} {H0 : HH} {K : Value → HH → Prop} (h : privitylaw21_ProductProofZeroKnowledge.sh base x0_0 x0_1 Ax0_2 lx0_2 cx0_2 Ax0_3 lx0_3 cx0_3 Ax0_4 lx0_4 cx0_4 Ax0_5 lx0_5 cx0_5 x0_6 x0_7 H0 K) : HCall Try.prog base 6 #[(.agg #[(.int .u64 x0_0), (.int .i64 x0_1), (.slice Ax0_2 lx0_2 cx0_2), (.slice Ax0_3 lx0_3 cx0_3), (.slice Ax0_4 lx0_4 cx0_4), (.slice Ax0_5 lx0_5 cx0_5), (.int .u64 x0_6), (.int .u64 x0_7)])] H0 K := spec_of_wpC (n := 280) (ann := privitylaw21_ProductProofZeroKnowledge.ann) mix Try.func6 (by kernel_rfl) (cast (show privitylaw21_ProductProofZeroKnowledge.sh base x0_0 x0_1 Ax0_2 lx0_2 cx0_2 Ax0_3 lx0_3 cx0_3 Ax0_4 lx0_4 cx0_4 Ax0_5 lx0_5 cx0_5 x0_6 x0_7 H0 K = wpC Try.prog base 280 privitylaw21_ProductProofZeroKnowledge.ann (bodyOf Try.f6) (ofL [(.agg #[(.int .u64 x0_0), (.int .i64 x0_1), (.slice Ax0_2 lx0_2 cx0_2), (.slice Ax0_3 lx0_3 cx0_3), (.slice Ax0_4 lx0_4 cx0_4), (.slice Ax0_5 lx0_5 cx0_5), (.int .u64 x0_6), (.int .u64 x0_7)])]) H0 (retQ Try.prog 280 Try.f6 K) by kernel_rfl) h)
def privitylaw21_ProductProofZeroKnowledge.B0 (base : Nat) (x1 x3 : Addr) (y4 : Int) (g : Fr) (N0 : Value → HH → Prop) (H0 : HH) (K : Value → HH → Prop) : Prop :=
 ∃ a50 : Addr, AQ Try.prog (Instr.fieldAt 44 (.pointer ((some x1))) 1) (.pointer ((some a50))) ∧
 ∃ (A51 : Option Addr) (l51 c51 : Nat), QRun Try.prog (Instr.loadAt 23 (.pointer ((some a50)))) H0 (.slice A51 l51 c51) ∧
 if (decide ((y4 : Int) < (((l51 : Nat) : Int)))) = true then
 ∃ a52 : Addr, AQ Try.prog (Instr.fieldAt 44 (.pointer ((some x1))) 1) (.pointer ((some a52))) ∧
 ∃ (A53 : Option Addr) (l53 c53 : Nat), QRun Try.prog (Instr.loadAt 23 (.pointer ((some a52)))) H0 (.slice A53 l53 c53) ∧
 ∃ a54 : Addr, AQ Try.prog (Instr.indexAt 23 (.slice A53 l53 c53) (.int .i64 y4)) (.pointer ((some a54))) ∧
 ∃ n55 : Int, QRun Try.prog (Instr.loadAt 22 (.pointer ((some a54)))) H0 (.int .u64 n55) ∧
 if ((n55 : Int) == 0) = true then
 HCall Try.prog base 16 #[] H0 fun v56 H57 =>
 ∃ b58 : Bool, v56 = (.bool b58) ∧ K (.bool b58) H57
 else
 N0 (.int .i64 ((IntKind.i64.wrap (y4 + 1)))) H0
 else
 ∃ a59 : Addr, AQ Try.prog (Instr.fieldAt 44 (.pointer ((some x1))) 2) (.pointer ((some a59))) ∧
 ∃ n60 : Int, QRun Try.prog (Instr.loadAt 22 (.pointer ((some a59)))) H0 (.int .u64 n60) ∧
 ∃ a61 : Addr, AQ Try.prog (Instr.fieldAt 25 (.pointer ((some x3))) 0) (.pointer ((some a61))) ∧
 ∃ n62 : Int, QRun Try.prog (Instr.loadAt 22 (.pointer ((some a61)))) H0 (.int .u64 n62) ∧
 ∃ n63 : Int, AQ Try.prog (binSem .rem 22 (.tmp 64) (.tmp 66) (.int .u64 n60) (.int .u64 n62)) (.int .u64 n63) ∧
 ∃ a64 : Addr, AQ Try.prog (Instr.fieldAt 44 (.pointer ((some x1))) 3) (.pointer ((some a64))) ∧
 ∃ n65 : Int, QRun Try.prog (Instr.loadAt 22 (.pointer ((some a64)))) H0 (.int .u64 n65) ∧
 ∃ a66 : Addr, AQ Try.prog (Instr.fieldAt 25 (.pointer ((some x3))) 0) (.pointer ((some a66))) ∧
 ∃ n67 : Int, QRun Try.prog (Instr.loadAt 22 (.pointer ((some a66)))) H0 (.int .u64 n67) ∧
 ∃ n68 : Int, AQ Try.prog (binSem .rem 22 (.tmp 69) (.tmp 71) (.int .u64 n65) (.int .u64 n67)) (.int .u64 n68) ∧
 ∃ a69 : Addr, AQ Try.prog (Instr.fieldAt 25 (.pointer ((some x3))) 0) (.pointer ((some a69))) ∧
 ∃ n70 : Int, QRun Try.prog (Instr.loadAt 22 (.pointer ((some a69)))) H0 (.int .u64 n70) ∧
 ∃ a71 : Addr, AQ Try.prog (Instr.fieldAt 44 (.pointer ((some x1))) 1) (.pointer ((some a71))) ∧
 ∃ (A72 : Option Addr) (l72 c72 : Nat), QRun Try.prog (Instr.loadAt 23 (.pointer ((some a71)))) H0 (.slice A72 l72 c72) ∧
 HCall Try.prog base 28 #[(.int .u64 n70), (.slice A72 l72 c72)] H0 fun v73 H74 =>
 ∃ (A75 : Option Addr) (l75 c75 : Nat), v73 = (.slice A75 l75 c75) ∧ ∃ a76 : Addr, AQ Try.prog (Instr.fieldAt 25 (.pointer ((some x3))) 0) (.pointer ((some a76))) ∧
 ∃ n77 : Int, QRun Try.prog (Instr.loadAt 22 (.pointer ((some a76)))) H74 (.int .u64 n77) ∧
 ∃ a78 : Addr, AQ Try.prog (Instr.fieldAt 25 (.pointer ((some x3))) 1) (.pointer ((some a78))) ∧
 ∃ n79 : Int, QRun Try.prog (Instr.loadAt 3 (.pointer ((some a78)))) H74 (.int .i64 n79) ∧
 ∃ a80 : Addr, AQ Try.prog (Instr.fieldAt 25 (.pointer ((some x3))) 2) (.pointer ((some a80))) ∧
 ∃ (A81 : Option Addr) (l81 c81 : Nat), QRun Try.prog (Instr.loadAt 23 (.pointer ((some a80)))) H74 (.slice A81 l81 c81) ∧
 ∃ a82 : Addr, AQ Try.prog (Instr.fieldAt 25 (.pointer ((some x3))) 3) (.pointer ((some a82))) ∧
 ∃ (A83 : Option Addr) (l83 c83 : Nat), QRun Try.prog (Instr.loadAt 23 (.pointer ((some a82)))) H74 (.slice A83 l83 c83) ∧
 ∃ a84 : Addr, AQ Try.prog (Instr.fieldAt 25 (.pointer ((some x3))) 4) (.pointer ((some a84))) ∧
 ∃ (A85 : Option Addr) (l85 c85 : Nat), QRun Try.prog (Instr.loadAt 23 (.pointer ((some a84)))) H74 (.slice A85 l85 c85) ∧
 HCall Try.prog base 29 #[(.int .u64 n77), (.int .i64 n79), (.slice A81 l81 c81), (.slice A83 l83 c83), (.slice A85 l85 c85), (.slice A75 l75 c75), (.int .u64 n63), (.int .u64 n68)] H74 fun v86 H87 =>
 ∃ (A88 : Option Addr) (l88 c88 : Nat), ∃ (A89 : Option Addr) (l89 c89 : Nat), ∃ (A90 : Option Addr) (l90 c90 : Nat), v86 = (.tuple #[(.slice A88 l88 c88), (.slice A89 l89 c89), (.slice A90 l90 c90)]) ∧ ∃ a91 : Addr, AQ Try.prog (Instr.fieldAt 25 (.pointer ((some x3))) 0) (.pointer ((some a91))) ∧
 ∃ n92 : Int, QRun Try.prog (Instr.loadAt 22 (.pointer ((some a91)))) H87 (.int .u64 n92) ∧
 ∃ a93 : Addr, AQ Try.prog (Instr.fieldAt 25 (.pointer ((some x3))) 1) (.pointer ((some a93))) ∧
 ∃ n94 : Int, QRun Try.prog (Instr.loadAt 3 (.pointer ((some a93)))) H87 (.int .i64 n94) ∧
 ∃ a95 : Addr, AQ Try.prog (Instr.fieldAt 25 (.pointer ((some x3))) 2) (.pointer ((some a95))) ∧
 ∃ (A96 : Option Addr) (l96 c96 : Nat), QRun Try.prog (Instr.loadAt 23 (.pointer ((some a95)))) H87 (.slice A96 l96 c96) ∧
 ∃ a97 : Addr, AQ Try.prog (Instr.fieldAt 25 (.pointer ((some x3))) 3) (.pointer ((some a97))) ∧
 ∃ (A98 : Option Addr) (l98 c98 : Nat), QRun Try.prog (Instr.loadAt 23 (.pointer ((some a97)))) H87 (.slice A98 l98 c98) ∧
 ∃ a99 : Addr, AQ Try.prog (Instr.fieldAt 25 (.pointer ((some x3))) 4) (.pointer ((some a99))) ∧
 ∃ (A100 : Option Addr) (l100 c100 : Nat), QRun Try.prog (Instr.loadAt 23 (.pointer ((some a99)))) H87 (.slice A100 l100 c100) ∧
 HCall Try.prog base 17 #[(.int .u64 n92), (.int .i64 n94), (.slice A96 l96 c96), (.slice A98 l98 c98), (.slice A100 l100 c100)] H87 fun v101 H102 =>
 ∃ (A103 : Option Addr) (l103 c103 : Nat), ∃ (A104 : Option Addr) (l104 c104 : Nat), v101 = (.tuple #[(.slice A103 l103 c103), (.slice A104 l104 c104)]) ∧ ∃ a105 : Addr, AQ Try.prog (Instr.fieldAt 25 (.pointer ((some x3))) 0) (.pointer ((some a105))) ∧
 ∃ n106 : Int, QRun Try.prog (Instr.loadAt 22 (.pointer ((some a105)))) H102 (.int .u64 n106) ∧
 ∃ a107 : Addr, AQ Try.prog (Instr.fieldAt 25 (.pointer ((some x3))) 1) (.pointer ((some a107))) ∧
 ∃ n108 : Int, QRun Try.prog (Instr.loadAt 3 (.pointer ((some a107)))) H102 (.int .i64 n108) ∧
 HCall Try.prog base 17 #[(.int .u64 n106), (.int .i64 n108), (.slice A88 l88 c88), (.slice A89 l89 c89), (.slice A90 l90 c90)] H102 fun v109 H110 =>
 ∃ (A111 : Option Addr) (l111 c111 : Nat), ∃ (A112 : Option Addr) (l112 c112 : Nat), v109 = (.tuple #[(.slice A111 l111 c111), (.slice A112 l112 c112)]) ∧ ∃ a113 : Addr, AQ Try.prog (Instr.fieldAt 25 (.pointer ((some x3))) 1) (.pointer ((some a113))) ∧
 ∃ n114 : Int, QRun Try.prog (Instr.loadAt 3 (.pointer ((some a113)))) H110 (.int .i64 n114) ∧
 if ((((l103 : Nat) : Int) : Int) != n114) = false then
 ∃ a115 : Addr, AQ Try.prog (Instr.fieldAt 25 (.pointer ((some x3))) 1) (.pointer ((some a115))) ∧
 ∃ n116 : Int, QRun Try.prog (Instr.loadAt 3 (.pointer ((some a115)))) H110 (.int .i64 n116) ∧
 if ((((l111 : Nat) : Int) : Int) != n116) = false then
 ∃ a117 : Addr, AQ Try.prog (Instr.fieldAt 25 (.pointer ((some x3))) 1) (.pointer ((some a117))) ∧
 ∃ n118 : Int, QRun Try.prog (Instr.loadAt 3 (.pointer ((some a117)))) H110 (.int .i64 n118) ∧
 if ((((l104 : Nat) : Int) : Int) != ((IntKind.i64.wrap (n118 + 1)))) = false then
 ∃ a119 : Addr, AQ Try.prog (Instr.fieldAt 25 (.pointer ((some x3))) 1) (.pointer ((some a119))) ∧
 ∃ n120 : Int, QRun Try.prog (Instr.loadAt 3 (.pointer ((some a119)))) H110 (.int .i64 n120) ∧
 if ((((l112 : Nat) : Int) : Int) != ((IntKind.i64.wrap (n120 + 1)))) = true then
 K (.bool false) H110
 else
 privitylaw21_ProductProofZeroKnowledge.P1 base [(.pointer ((some x1))), (.pointer ((some x3))), (.int .u64 n63), (.int .u64 n68), (.slice A75 l75 c75), (.slice A88 l88 c88), (.slice A89 l89 c89), (.slice A90 l90 c90), (.slice A103 l103 c103), (.slice A104 l104 c104), (.slice A111 l111 c111), (.slice A112 l112 c112), (.int .i64 0)] H110 K
 else
 K (.bool false) H110
 else
 K (.bool false) H110
 else
 K (.bool false) H110
theorem privitylaw21_ProductProofZeroKnowledge.loop0 {base : Nat} {x1 x3 : Addr} {y4_i : Int} {H0 : HH} {K : Value → HH → Prop} (J : Nat → Int → HH → Prop) (n : Nat) (h0 : J n y4_i H0)
    (hs : ∀ (n : Nat) (y4 : Int) (g : Fr) (H0 : HH), J n y4 H0 → privitylaw21_ProductProofZeroKnowledge.B0 base x1 x3 y4 g (fun w4 H => ∃ n', n' < n ∧ ∃ (y4' : Int), w4 = (.int .i64 y4') ∧ J n' y4' H) H0 K) : privitylaw21_ProductProofZeroKnowledge.P0 base [(.pointer ((some x1))), (.pointer ((some x3))), (.int .i64 y4_i)] H0 K := by
  refine loop_rule (ann := privitylaw21_ProductProofZeroKnowledge.ann) (body := codeAt [.r, .r, .r, .l, .r, .b, .lp] (bodyOf Try.f6)) mix (by kernel_rfl) 9222809086901354516 (by kernel_rfl) [1, 3] [(.pointer ((some x1))), (.pointer ((some x3)))] (by kernel_rfl) (fun fr ⟨e1, e3, e4, _⟩ => ⟨e1, e3, trivial⟩) (fun n g H => ∃ (y4 : Int), g 4 = (.int .i64 y4) ∧ J n y4 H) n (fun fr ⟨e1, e3, e4, _⟩ => ⟨y4_i, e4, h0⟩) ?_
  rintro n g H0 ⟨e1, e3, _⟩ ⟨y4, e4, hJ⟩
  rw [← ov_eq (g := g) [(1, (.pointer ((some x1)))), (3, (.pointer ((some x3)))), (4, (.int .i64 y4))] (by simp only [List.mem_cons, List.not_mem_nil, or_false, forall_eq_or_imp, forall_eq, false_implies, implies_true]; exact ⟨e1, e3, e4⟩)]
  have key : ∀ NN : Value → HH → Prop, privitylaw21_ProductProofZeroKnowledge.B0 base x1 x3 y4 g NN H0 K = wpC Try.prog base 280 privitylaw21_ProductProofZeroKnowledge.ann (codeAt [.r, .r, .r, .l, .r, .b, .lp] (bodyOf Try.f6)) (ov g [(1, (.pointer ((some x1)))), (3, (.pointer ((some x3)))), (4, (.int .i64 y4))]) H0 (thenQ (fun fr H => NN (fr 4) H) (qAt Try.prog base 280 privitylaw21_ProductProofZeroKnowledge.ann [.r, .r, .r, .l, .r, .b] [] (bodyOf Try.f6) (retQ Try.prog 280 Try.f6 K))) := fun NN => by kernel_rfl
  refine cast ?_ (hs n y4 g H0 hJ)
  refine (key (fun w4 H => ∃ n', n' < n ∧ ∃ (y4' : Int), w4 = (.int .i64 y4') ∧ J n' y4' H)).trans ?_
  kernel_rfl
def privitylaw21_ProductProofZeroKnowledge.B1 (base : Nat) (x1 x3 : Addr) (x5 x6 : Int) (Ax7 : Option Addr) (lx7 cx7 : Nat) (Ax8 : Option Addr) (lx8 cx8 : Nat) (Ax9 : Option Addr) (lx9 cx9 : Nat) (Ax10 : Option Addr) (lx10 cx10 : Nat) (Ax11 : Option Addr) (lx11 cx11 : Nat) (Ax12 : Option Addr) (lx12 cx12 : Nat) (Ax13 : Option Addr) (lx13 cx13 : Nat) (Ax14 : Option Addr) (lx14 cx14 : Nat) (y15 : Int) (g : Fr) (N1 : Value → HH → Prop) (H0 : HH) (K : Value → HH → Prop) : Prop :=
 ∃ a121 : Addr, AQ Try.prog (Instr.fieldAt 44 (.pointer ((some x1))) 1) (.pointer ((some a121))) ∧
 ∃ (A122 : Option Addr) (l122 c122 : Nat), QRun Try.prog (Instr.loadAt 23 (.pointer ((some a121)))) H0 (.slice A122 l122 c122) ∧
 if (decide ((y15 : Int) < (((l122 : Nat) : Int)))) = true then
 ∃ a123 : Addr, AQ Try.prog (Instr.fieldAt 44 (.pointer ((some x1))) 1) (.pointer ((some a123))) ∧
 ∃ (A124 : Option Addr) (l124 c124 : Nat), QRun Try.prog (Instr.loadAt 23 (.pointer ((some a123)))) H0 (.slice A124 l124 c124) ∧
 ∃ a125 : Addr, AQ Try.prog (Instr.indexAt 23 (.slice A124 l124 c124) (.int .i64 y15)) (.pointer ((some a125))) ∧
 ∃ n126 : Int, QRun Try.prog (Instr.loadAt 22 (.pointer ((some a125)))) H0 (.int .u64 n126) ∧
 ∃ a127 : Addr, AQ Try.prog (Instr.fieldAt 25 (.pointer ((some x3))) 0) (.pointer ((some a127))) ∧
 ∃ n128 : Int, QRun Try.prog (Instr.loadAt 22 (.pointer ((some a127)))) H0 (.int .u64 n128) ∧
 ∃ a129 : Addr, AQ Try.prog (Instr.fieldAt 25 (.pointer ((some x3))) 0) (.pointer ((some a129))) ∧
 ∃ n130 : Int, QRun Try.prog (Instr.loadAt 22 (.pointer ((some a129)))) H0 (.int .u64 n130) ∧
 HCall Try.prog base 24 #[(.int .u64 n128), (.slice Ax11 lx11 cx11), (.int .u64 n126)] H0 fun v131 H132 =>
 ∃ (A133 : Option Addr) (l133 c133 : Nat), v131 = (.slice A133 l133 c133) ∧ QRun Try.prog (Instr.loadAt 22 (.pointer ((some a129)))) H132 (.int .u64 n130) ∧
 HCall Try.prog base 24 #[(.int .u64 n130), (.slice Ax13 lx13 cx13), (.int .u64 n126)] H132 fun v134 H135 =>
 ∃ (A136 : Option Addr) (l136 c136 : Nat), v134 = (.slice A136 l136 c136) ∧ HCall Try.prog base 20 #[(.slice A133 l133 c133), (.slice A136 l136 c136)] H135 fun v137 H138 =>
 ∃ b139 : Bool, v137 = (.bool b139) ∧ if (!b139) = false then
 ∃ a140 : Addr, AQ Try.prog (Instr.fieldAt 25 (.pointer ((some x3))) 0) (.pointer ((some a140))) ∧
 ∃ n141 : Int, QRun Try.prog (Instr.loadAt 22 (.pointer ((some a140)))) H138 (.int .u64 n141) ∧
 ∃ n142 : Int, HCall Try.prog base 23 #[(.int .u64 n141), (.slice Ax12 lx12 cx12), (.int .u64 n126)] H138 (fun v_ H_ => v_ = (.int .u64 n142) ∧ H_ = H138) ∧
 ∃ a143 : Addr, AQ Try.prog (Instr.fieldAt 25 (.pointer ((some x3))) 0) (.pointer ((some a143))) ∧
 ∃ n144 : Int, QRun Try.prog (Instr.loadAt 22 (.pointer ((some a143)))) H138 (.int .u64 n144) ∧
 ∃ n145 : Int, HCall Try.prog base 23 #[(.int .u64 n144), (.slice Ax14 lx14 cx14), (.int .u64 n126)] H138 (fun v_ H_ => v_ = (.int .u64 n145) ∧ H_ = H138) ∧
 if ((n142 : Int) != n145) = false then
 ∃ a146 : Addr, AQ Try.prog (Instr.fieldAt 25 (.pointer ((some x3))) 0) (.pointer ((some a146))) ∧
 ∃ n147 : Int, QRun Try.prog (Instr.loadAt 22 (.pointer ((some a146)))) H138 (.int .u64 n147) ∧
 ∃ n148 : Int, HCall Try.prog base 23 #[(.int .u64 n147), (.slice Ax8 lx8 cx8), (.int .u64 n126)] H138 (fun v_ H_ => v_ = (.int .u64 n148) ∧ H_ = H138) ∧
 ∃ a149 : Addr, AQ Try.prog (Instr.fieldAt 25 (.pointer ((some x3))) 0) (.pointer ((some a149))) ∧
 ∃ n150 : Int, QRun Try.prog (Instr.loadAt 22 (.pointer ((some a149)))) H138 (.int .u64 n150) ∧
 ∃ a151 : Addr, AQ Try.prog (Instr.fieldAt 25 (.pointer ((some x3))) 2) (.pointer ((some a151))) ∧
 ∃ (A152 : Option Addr) (l152 c152 : Nat), QRun Try.prog (Instr.loadAt 23 (.pointer ((some a151)))) H138 (.slice A152 l152 c152) ∧
 ∃ n153 : Int, HCall Try.prog base 23 #[(.int .u64 n150), (.slice A152 l152 c152), (.int .u64 n126)] H138 (fun v_ H_ => v_ = (.int .u64 n153) ∧ H_ = H138) ∧
 if ((n148 : Int) != n153) = false then
 ∃ a154 : Addr, AQ Try.prog (Instr.fieldAt 25 (.pointer ((some x3))) 0) (.pointer ((some a154))) ∧
 ∃ n155 : Int, QRun Try.prog (Instr.loadAt 22 (.pointer ((some a154)))) H138 (.int .u64 n155) ∧
 ∃ n156 : Int, HCall Try.prog base 23 #[(.int .u64 n155), (.slice Ax9 lx9 cx9), (.int .u64 n126)] H138 (fun v_ H_ => v_ = (.int .u64 n156) ∧ H_ = H138) ∧
 ∃ a157 : Addr, AQ Try.prog (Instr.fieldAt 25 (.pointer ((some x3))) 0) (.pointer ((some a157))) ∧
 ∃ n158 : Int, QRun Try.prog (Instr.loadAt 22 (.pointer ((some a157)))) H138 (.int .u64 n158) ∧
 ∃ a159 : Addr, AQ Try.prog (Instr.fieldAt 25 (.pointer ((some x3))) 3) (.pointer ((some a159))) ∧
 ∃ (A160 : Option Addr) (l160 c160 : Nat), QRun Try.prog (Instr.loadAt 23 (.pointer ((some a159)))) H138 (.slice A160 l160 c160) ∧
 ∃ n161 : Int, HCall Try.prog base 23 #[(.int .u64 n158), (.slice A160 l160 c160), (.int .u64 n126)] H138 (fun v_ H_ => v_ = (.int .u64 n161) ∧ H_ = H138) ∧
 if ((n156 : Int) != n161) = true then
 K (.bool false) H138
 else
 N1 (.int .i64 ((IntKind.i64.wrap (y15 + 1)))) H138
 else
 K (.bool false) H138
 else
 K (.bool false) H138
 else
 K (.bool false) H138
 else
 ∃ a162 : Addr, AQ Try.prog (Instr.fieldAt 25 (.pointer ((some x3))) 0) (.pointer ((some a162))) ∧
 ∃ n163 : Int, QRun Try.prog (Instr.loadAt 22 (.pointer ((some a162)))) H0 (.int .u64 n163) ∧
 ∃ a164 : Addr, AQ Try.prog (Instr.fieldAt 25 (.pointer ((some x3))) 1) (.pointer ((some a164))) ∧
 ∃ n165 : Int, QRun Try.prog (Instr.loadAt 3 (.pointer ((some a164)))) H0 (.int .i64 n165) ∧
 ∃ a166 : Addr, AQ Try.prog (Instr.fieldAt 25 (.pointer ((some x3))) 0) (.pointer ((some a166))) ∧
 ∃ n167 : Int, QRun Try.prog (Instr.loadAt 22 (.pointer ((some a166)))) H0 (.int .u64 n167) ∧
 ∃ n168 : Int, HCall Try.prog base 30 #[(.int .u64 n167), (.int .u64 x5)] H0 (fun v_ H_ => v_ = (.int .u64 n168) ∧ H_ = H0) ∧
 ∃ a169 : Addr, AQ Try.prog (Instr.fieldAt 25 (.pointer ((some x3))) 0) (.pointer ((some a169))) ∧
 ∃ n170 : Int, QRun Try.prog (Instr.loadAt 22 (.pointer ((some a169)))) H0 (.int .u64 n170) ∧
 ∃ n171 : Int, HCall Try.prog base 30 #[(.int .u64 n170), (.int .u64 x6)] H0 (fun v_ H_ => v_ = (.int .u64 n171) ∧ H_ = H0) ∧
 HCall Try.prog base 29 #[(.int .u64 n163), (.int .i64 n165), (.slice Ax8 lx8 cx8), (.slice Ax9 lx9 cx9), (.slice Ax10 lx10 cx10), (.slice Ax7 lx7 cx7), (.int .u64 n168), (.int .u64 n171)] H0 fun v172 H173 =>
 ∃ (A174 : Option Addr) (l174 c174 : Nat), ∃ (A175 : Option Addr) (l175 c175 : Nat), ∃ (A176 : Option Addr) (l176 c176 : Nat), v172 = (.tuple #[(.slice A174 l174 c174), (.slice A175 l175 c175), (.slice A176 l176 c176)]) ∧ ∃ a177 : Addr, AQ Try.prog (Instr.fieldAt 25 (.pointer ((some x3))) 0) (.pointer ((some a177))) ∧
 ∃ n178 : Int, QRun Try.prog (Instr.loadAt 22 (.pointer ((some a177)))) H173 (.int .u64 n178) ∧
 ∃ a179 : Addr, AQ Try.prog (Instr.fieldAt 25 (.pointer ((some x3))) 0) (.pointer ((some a179))) ∧
 ∃ n180 : Int, QRun Try.prog (Instr.loadAt 22 (.pointer ((some a179)))) H173 (.int .u64 n180) ∧
 ∃ a181 : Addr, AQ Try.prog (Instr.fieldAt 25 (.pointer ((some x3))) 2) (.pointer ((some a181))) ∧
 ∃ (A182 : Option Addr) (l182 c182 : Nat), QRun Try.prog (Instr.loadAt 23 (.pointer ((some a181)))) H173 (.slice A182 l182 c182) ∧
 ∃ a183 : Addr, AQ Try.prog (Instr.indexAt 23 (.slice A182 l182 c182) (.int .i64 0)) (.pointer ((some a183))) ∧
 ∃ n184 : Int, QRun Try.prog (Instr.loadAt 22 (.pointer ((some a183)))) H173 (.int .u64 n184) ∧
 ∃ n185 : Int, HCall Try.prog base 31 #[(.int .u64 n180), (.int .u64 n184), (.int .u64 x5)] H173 (fun v_ H_ => v_ = (.int .u64 n185) ∧ H_ = H173) ∧
 ∃ a186 : Addr, AQ Try.prog (Instr.fieldAt 25 (.pointer ((some x3))) 0) (.pointer ((some a186))) ∧
 ∃ n187 : Int, QRun Try.prog (Instr.loadAt 22 (.pointer ((some a186)))) H173 (.int .u64 n187) ∧
 ∃ a188 : Addr, AQ Try.prog (Instr.fieldAt 25 (.pointer ((some x3))) 3) (.pointer ((some a188))) ∧
 ∃ (A189 : Option Addr) (l189 c189 : Nat), QRun Try.prog (Instr.loadAt 23 (.pointer ((some a188)))) H173 (.slice A189 l189 c189) ∧
 ∃ a190 : Addr, AQ Try.prog (Instr.indexAt 23 (.slice A189 l189 c189) (.int .i64 0)) (.pointer ((some a190))) ∧
 ∃ n191 : Int, QRun Try.prog (Instr.loadAt 22 (.pointer ((some a190)))) H173 (.int .u64 n191) ∧
 ∃ n192 : Int, HCall Try.prog base 31 #[(.int .u64 n187), (.int .u64 n191), (.int .u64 x6)] H173 (fun v_ H_ => v_ = (.int .u64 n192) ∧ H_ = H173) ∧
 ∃ n193 : Int, HCall Try.prog base 21 #[(.int .u64 n178), (.int .u64 n185), (.int .u64 n192)] H173 (fun v_ H_ => v_ = (.int .u64 n193) ∧ H_ = H173) ∧
 HCall Try.prog base 16 #[] H173 fun v194 H195 =>
 ∃ b196 : Bool, v194 = (.bool b196) ∧ if b196 = true then
 ∃ a197 : Addr, AQ Try.prog (Instr.indexAt 23 (.slice Ax14 lx14 cx14) (.int .i64 0)) (.pointer ((some a197))) ∧
 ∃ n198 : Int, QRun Try.prog (Instr.loadAt 22 (.pointer ((some a197)))) H195 (.int .u64 n198) ∧
 if ((n198 : Int) == n193) = true then
 ∃ a199 : Addr, AQ Try.prog (Instr.fieldAt 25 (.pointer ((some x3))) 2) (.pointer ((some a199))) ∧
 ∃ (A200 : Option Addr) (l200 c200 : Nat), QRun Try.prog (Instr.loadAt 23 (.pointer ((some a199)))) H195 (.slice A200 l200 c200) ∧
 HCall Try.prog base 20 #[(.slice A174 l174 c174), (.slice A200 l200 c200)] H195 fun v201 H202 =>
 ∃ b203 : Bool, v201 = (.bool b203) ∧ if b203 = true then
 ∃ a204 : Addr, AQ Try.prog (Instr.fieldAt 25 (.pointer ((some x3))) 3) (.pointer ((some a204))) ∧
 ∃ (A205 : Option Addr) (l205 c205 : Nat), QRun Try.prog (Instr.loadAt 23 (.pointer ((some a204)))) H202 (.slice A205 l205 c205) ∧
 HCall Try.prog base 20 #[(.slice A175 l175 c175), (.slice A205 l205 c205)] H202 fun v206 H207 =>
 ∃ b208 : Bool, v206 = (.bool b208) ∧ if b208 = true then
 ∃ a209 : Addr, AQ Try.prog (Instr.fieldAt 25 (.pointer ((some x3))) 4) (.pointer ((some a209))) ∧
 ∃ (A210 : Option Addr) (l210 c210 : Nat), QRun Try.prog (Instr.loadAt 23 (.pointer ((some a209)))) H207 (.slice A210 l210 c210) ∧
 HCall Try.prog base 20 #[(.slice A176 l176 c176), (.slice A210 l210 c210)] H207 fun v211 H212 =>
 ∃ b213 : Bool, v211 = (.bool b213) ∧ K (.bool b213) H212
 else
 K (.bool false) H207
 else
 K (.bool false) H202
 else
 K (.bool false) H195
 else
 K (.bool false) H195
theorem privitylaw21_ProductProofZeroKnowledge.loop1 {base : Nat} {x1 x3 : Addr} {x5 x6 : Int} {Ax7 : Option Addr} {lx7 cx7 : Nat} {Ax8 : Option Addr} {lx8 cx8 : Nat} {Ax9 : Option Addr} {lx9 cx9 : Nat} {Ax10 : Option Addr} {lx10 cx10 : Nat} {Ax11 : Option Addr} {lx11 cx11 : Nat} {Ax12 : Option Addr} {lx12 cx12 : Nat} {Ax13 : Option Addr} {lx13 cx13 : Nat} {Ax14 : Option Addr} {lx14 cx14 : Nat} {y15_i : Int} {H0 : HH} {K : Value → HH → Prop} (J : Nat → Int → HH → Prop) (n : Nat) (h0 : J n y15_i H0)
    (hs : ∀ (n : Nat) (y15 : Int) (g : Fr) (H0 : HH), J n y15 H0 → privitylaw21_ProductProofZeroKnowledge.B1 base x1 x3 x5 x6 Ax7 lx7 cx7 Ax8 lx8 cx8 Ax9 lx9 cx9 Ax10 lx10 cx10 Ax11 lx11 cx11 Ax12 lx12 cx12 Ax13 lx13 cx13 Ax14 lx14 cx14 y15 g (fun w15 H => ∃ n', n' < n ∧ ∃ (y15' : Int), w15 = (.int .i64 y15') ∧ J n' y15' H) H0 K) : privitylaw21_ProductProofZeroKnowledge.P1 base [(.pointer ((some x1))), (.pointer ((some x3))), (.int .u64 x5), (.int .u64 x6), (.slice Ax7 lx7 cx7), (.slice Ax8 lx8 cx8), (.slice Ax9 lx9 cx9), (.slice Ax10 lx10 cx10), (.slice Ax11 lx11 cx11), (.slice Ax12 lx12 cx12), (.slice Ax13 lx13 cx13), (.slice Ax14 lx14 cx14), (.int .i64 y15_i)] H0 K := by
  refine loop_rule (ann := privitylaw21_ProductProofZeroKnowledge.ann) (body := codeAt [.r, .r, .r, .r, .r, .r, .r, .r, .r, .r, .l, .r, .b, .lp] (bodyOf Try.f6)) mix (by kernel_rfl) 26328072917139296673765883074564628139194630865412530245386469380 (by kernel_rfl) [1, 3, 5, 6, 7, 8, 9, 10, 11, 12, 13, 14] [(.pointer ((some x1))), (.pointer ((some x3))), (.int .u64 x5), (.int .u64 x6), (.slice Ax7 lx7 cx7), (.slice Ax8 lx8 cx8), (.slice Ax9 lx9 cx9), (.slice Ax10 lx10 cx10), (.slice Ax11 lx11 cx11), (.slice Ax12 lx12 cx12), (.slice Ax13 lx13 cx13), (.slice Ax14 lx14 cx14)] (by kernel_rfl) (fun fr ⟨e1, e3, e5, e6, e7, e8, e9, e10, e11, e12, e13, e14, e15, _⟩ => ⟨e1, e3, e5, e6, e7, e8, e9, e10, e11, e12, e13, e14, trivial⟩) (fun n g H => ∃ (y15 : Int), g 15 = (.int .i64 y15) ∧ J n y15 H) n (fun fr ⟨e1, e3, e5, e6, e7, e8, e9, e10, e11, e12, e13, e14, e15, _⟩ => ⟨y15_i, e15, h0⟩) ?_
  rintro n g H0 ⟨e1, e3, e5, e6, e7, e8, e9, e10, e11, e12, e13, e14, _⟩ ⟨y15, e15, hJ⟩
  rw [← ov_eq (g := g) [(1, (.pointer ((some x1)))), (3, (.pointer ((some x3)))), (5, (.int .u64 x5)), (6, (.int .u64 x6)), (7, (.slice Ax7 lx7 cx7)), (8, (.slice Ax8 lx8 cx8)), (9, (.slice Ax9 lx9 cx9)), (10, (.slice Ax10 lx10 cx10)), (11, (.slice Ax11 lx11 cx11)), (12, (.slice Ax12 lx12 cx12)), (13, (.slice Ax13 lx13 cx13)), (14, (.slice Ax14 lx14 cx14)), (15, (.int .i64 y15))] (by simp only [List.mem_cons, List.not_mem_nil, or_false, forall_eq_or_imp, forall_eq, false_implies, implies_true]; exact ⟨e1, e3, e5, e6, e7, e8, e9, e10, e11, e12, e13, e14, e15⟩)]
  have key : ∀ NN : Value → HH → Prop, privitylaw21_ProductProofZeroKnowledge.B1 base x1 x3 x5 x6 Ax7 lx7 cx7 Ax8 lx8 cx8 Ax9 lx9 cx9 Ax10 lx10 cx10 Ax11 lx11 cx11 Ax12 lx12 cx12 Ax13 lx13 cx13 Ax14 lx14 cx14 y15 g NN H0 K = wpC Try.prog base 280 privitylaw21_ProductProofZeroKnowledge.ann (codeAt [.r, .r, .r, .r, .r, .r, .r, .r, .r, .r, .l, .r, .b, .lp] (bodyOf Try.f6)) (ov g [(1, (.pointer ((some x1)))), (3, (.pointer ((some x3)))), (5, (.int .u64 x5)), (6, (.int .u64 x6)), (7, (.slice Ax7 lx7 cx7)), (8, (.slice Ax8 lx8 cx8)), (9, (.slice Ax9 lx9 cx9)), (10, (.slice Ax10 lx10 cx10)), (11, (.slice Ax11 lx11 cx11)), (12, (.slice Ax12 lx12 cx12)), (13, (.slice Ax13 lx13 cx13)), (14, (.slice Ax14 lx14 cx14)), (15, (.int .i64 y15))]) H0 (thenQ (fun fr H => NN (fr 15) H) (qAt Try.prog base 280 privitylaw21_ProductProofZeroKnowledge.ann [.r, .r, .r, .r, .r, .r, .r, .r, .r, .r, .l, .r, .b] [] (bodyOf Try.f6) (retQ Try.prog 280 Try.f6 K))) := fun NN => by kernel_rfl
  refine cast ?_ (hs n y15 g H0 hJ)
  refine (key (fun w15 H => ∃ n', n' < n ∧ ∃ (y15' : Int), w15 = (.int .i64 y15') ∧ J n' y15' H)).trans ?_
  kernel_rfl
def privitylaw21_ProductProofChange.ann : Ann := ⟨fun k => bif Nat.beq k 9 then [] else bif Nat.beq k 14 then [9, 15, 16, 25, 26] else bif Nat.beq k 20 then [5, 19, 20, 21] else bif Nat.beq k 22 then [0, 3, 12, 13, 14] else [], fun k => false, fun k => bif Nat.beq k 5 then [1, 3, 4] else bif Nat.beq k 18 then [3, 7, 11, 12, 13, 14, 15, 16] else []⟩
def privitylaw21_ProductProofChange.P1 (base : Nat) (l : List Value) (H0 : HH) (K : Value → HH → Prop) : Prop := HCodeL Try.prog base 201 (codeAt [.r, .r, .r, .r, .r, .r, .r, .r, .r, .r, .r, .l, .r, .b] (bodyOf Try.f14)) [3, 7, 11, 12, 13, 14, 15, 16] l H0 (qAt Try.prog base 201 privitylaw21_ProductProofChange.ann [.r, .r, .r, .r, .r, .r, .r, .r, .r, .r, .r, .l, .r, .b] [] (bodyOf Try.f14) (retQ Try.prog 201 Try.f14 K))
def privitylaw21_ProductProofChange.L1 (base : Nat) (x3 : Addr) (Ax7 : Option Addr) (lx7 cx7 : Nat) (Ax11 : Option Addr) (lx11 cx11 : Nat) (Ax12 : Option Addr) (lx12 cx12 : Nat) (Ax13 : Option Addr) (lx13 cx13 : Nat) (Ax14 : Option Addr) (lx14 cx14 : Nat) (Ax15 : Option Addr) (lx15 cx15 : Nat) (y16 : Int) (H0 : HH) (K : Value → HH → Prop) : Prop := privitylaw21_ProductProofChange.P1 base [(.pointer ((some x3))), (.slice Ax7 lx7 cx7), (.slice Ax11 lx11 cx11), (.slice Ax12 lx12 cx12), (.slice Ax13 lx13 cx13), (.slice Ax14 lx14 cx14), (.slice Ax15 lx15 cx15), (.int .i64 y16)] H0 K
def privitylaw21_ProductProofChange.B1 (base : Nat) (x3 : Addr) (Ax7 : Option Addr) (lx7 cx7 : Nat) (Ax11 : Option Addr) (lx11 cx11 : Nat) (Ax12 : Option Addr) (lx12 cx12 : Nat) (Ax13 : Option Addr) (lx13 cx13 : Nat) (Ax14 : Option Addr) (lx14 cx14 : Nat) (Ax15 : Option Addr) (lx15 cx15 : Nat) (y16 : Int) (g : Fr) (N1 : Value → HH → Prop) (H0 : HH) (K : Value → HH → Prop) : Prop :=
 ∃ a149 : Addr, AQ Try.prog (Instr.fieldAt 25 (.pointer ((some x3))) 1) (.pointer ((some a149))) ∧
 ∃ n150 : Int, QRun Try.prog (Instr.loadAt 3 (.pointer ((some a149)))) H0 (.int .i64 n150) ∧
 if (decide ((y16 : Int) ≤ n150)) = true then
 ∃ a151 : Addr, AQ Try.prog (Instr.indexAt 28 (.slice Ax13 lx13 cx13) (.int .i64 ((IntKind.i64.wrap (y16 - 1))))) (.pointer ((some a151))) ∧
 ∃ (A152 : Option Addr) (l152 c152 : Nat), QRun Try.prog (Instr.loadAt 23 (.pointer ((some a151)))) H0 (.slice A152 l152 c152) ∧
 ∃ a153 : Addr, AQ Try.prog (Instr.fieldAt 25 (.pointer ((some x3))) 0) (.pointer ((some a153))) ∧
 ∃ n154 : Int, QRun Try.prog (Instr.loadAt 22 (.pointer ((some a153)))) H0 (.int .u64 n154) ∧
 ∃ a155 : Addr, AQ Try.prog (Instr.indexAt 28 (.slice Ax11 lx11 cx11) (.int .i64 ((IntKind.i64.wrap (y16 - 1))))) (.pointer ((some a155))) ∧
 ∃ (A156 : Option Addr) (l156 c156 : Nat), QRun Try.prog (Instr.loadAt 23 (.pointer ((some a155)))) H0 (.slice A156 l156 c156) ∧
 ∃ a157 : Addr, AQ Try.prog (Instr.fieldAt 25 (.pointer ((some x3))) 0) (.pointer ((some a157))) ∧
 ∃ n158 : Int, QRun Try.prog (Instr.loadAt 22 (.pointer ((some a157)))) H0 (.int .u64 n158) ∧
 HCall Try.prog base 42 #[(.slice A152 l152 c152)] H0 fun v159 H160 =>
 ∃ (A161 : Option Addr) (l161 c161 : Nat), v159 = (.slice A161 l161 c161) ∧ QRun Try.prog (Instr.loadAt 22 (.pointer ((some a157)))) H160 (.int .u64 n158) ∧
 QRun Try.prog (Instr.loadAt 23 (.pointer ((some a155)))) H160 (.slice A156 l156 c156) ∧
 QRun Try.prog (Instr.loadAt 22 (.pointer ((some a153)))) H160 (.int .u64 n154) ∧
 ∃ n162 : Int, HCall Try.prog base 45 #[(.slice Ax15 lx15 cx15), (.int .i64 y16)] H160 (fun v_ H_ => v_ = (.int .u64 n162) ∧ H_ = H160) ∧
 HCall Try.prog base 48 #[(.int .u64 n158), (.int .u64 n162), (.slice Ax7 lx7 cx7)] H160 fun v163 H164 =>
 ∃ (A165 : Option Addr) (l165 c165 : Nat), v163 = (.slice A165 l165 c165) ∧ QRun Try.prog (Instr.loadAt 23 (.pointer ((some a155)))) H164 (.slice A156 l156 c156) ∧
 QRun Try.prog (Instr.loadAt 22 (.pointer ((some a153)))) H164 (.int .u64 n154) ∧
 HCall Try.prog base 47 #[(.int .u64 n154), (.slice A156 l156 c156), (.slice A165 l165 c165)] H164 fun v166 H167 =>
 ∃ (A168 : Option Addr) (l168 c168 : Nat), v166 = (.slice A168 l168 c168) ∧ HCall Try.prog base 20 #[(.slice A161 l161 c161), (.slice A168 l168 c168)] H167 fun v169 H170 =>
 ∃ b171 : Bool, v169 = (.bool b171) ∧ if (!b171) = true then
 K (.bool false) H170
 else
 N1 (.int .i64 ((IntKind.i64.wrap (y16 + 1)))) H170
 else
 HCall Try.prog base 16 #[] H0 fun v172 H173 =>
 ∃ b174 : Bool, v172 = (.bool b174) ∧ if b174 = true then
 ∃ a175 : Addr, AQ Try.prog (Instr.fieldAt 25 (.pointer ((some x3))) 0) (.pointer ((some a175))) ∧
 ∃ n176 : Int, QRun Try.prog (Instr.loadAt 22 (.pointer ((some a175)))) H173 (.int .u64 n176) ∧
 ∃ a177 : Addr, AQ Try.prog (Instr.fieldAt 25 (.pointer ((some x3))) 0) (.pointer ((some a177))) ∧
 ∃ n178 : Int, QRun Try.prog (Instr.loadAt 22 (.pointer ((some a177)))) H173 (.int .u64 n178) ∧
 HCall Try.prog base 42 #[(.slice Ax14 lx14 cx14)] H173 fun v179 H180 =>
 ∃ (A181 : Option Addr) (l181 c181 : Nat), v179 = (.slice A181 l181 c181) ∧ QRun Try.prog (Instr.loadAt 22 (.pointer ((some a177)))) H180 (.int .u64 n178) ∧
 QRun Try.prog (Instr.loadAt 22 (.pointer ((some a175)))) H180 (.int .u64 n176) ∧
 ∃ n182 : Int, HCall Try.prog base 45 #[(.slice Ax15 lx15 cx15), (.int .i64 0)] H180 (fun v_ H_ => v_ = (.int .u64 n182) ∧ H_ = H180) ∧
 HCall Try.prog base 48 #[(.int .u64 n178), (.int .u64 n182), (.slice Ax7 lx7 cx7)] H180 fun v183 H184 =>
 ∃ (A185 : Option Addr) (l185 c185 : Nat), v183 = (.slice A185 l185 c185) ∧ QRun Try.prog (Instr.loadAt 22 (.pointer ((some a175)))) H184 (.int .u64 n176) ∧
 HCall Try.prog base 47 #[(.int .u64 n176), (.slice Ax12 lx12 cx12), (.slice A185 l185 c185)] H184 fun v186 H187 =>
 ∃ (A188 : Option Addr) (l188 c188 : Nat), v186 = (.slice A188 l188 c188) ∧ HCall Try.prog base 20 #[(.slice A181 l181 c181), (.slice A188 l188 c188)] H187 fun v189 H190 =>
 ∃ b191 : Bool, v189 = (.bool b191) ∧ K (.bool b191) H190
 else
 K (.bool false) H173
def privitylaw21_ProductProofUnique.ann : Ann := ⟨fun k => bif Nat.beq k 11 then [29] else bif Nat.beq k 13 then [1, 14, 19, 20, 21, 22] else bif Nat.beq k 14 then [] else bif Nat.beq k 20 then [21] else [], fun k => bif Nat.beq k 14 then true else false, fun k => bif Nat.beq k 9 then [1, 2, 3, 7, 8, 9, 10, 11] else bif Nat.beq k 14 then [1, 2, 3, 7, 8, 9, 10, 11] else bif Nat.beq k 17 then [1, 3, 8, 9, 10, 12, 13] else []⟩
def privitylaw21_ProductProofUnique.P1 (base : Nat) (l : List Value) (H0 : HH) (K : Value → HH → Prop) : Prop := HCodeL Try.prog base 193 (codeAt [.r, .r, .r, .r, .r, .r, .r, .r, .l, .r, .b] (bodyOf Try.f7)) [1, 3, 8, 9, 10, 12, 13] l H0 (qAt Try.prog base 193 privitylaw21_ProductProofUnique.ann [.r, .r, .r, .r, .r, .r, .r, .r, .l, .r, .b] [] (bodyOf Try.f7) (retQ Try.prog 193 Try.f7 K))
def privitylaw21_ProductProofUnique.R0 (base : Nat) (N0 : Value → Value → Value → HH → Prop) (l : List Value) (H0 : HH) (K : Value → HH → Prop) : Prop := HCodeL Try.prog base 193 (codeAt [.r, .r, .r, .r, .r, .r, .l, .r, .b, .lp, .r, .l, .b, .r, .r] (bodyOf Try.f7)) [1, 2, 3, 7, 8, 9, 10, 11] l H0 (qAt Try.prog base 193 privitylaw21_ProductProofUnique.ann [.r, .r, .r, .r, .r, .r, .l, .r, .b, .lp, .r, .l, .b, .r, .r] [fun fr H => N0 (fr 9) (fr 10) (fr 11) H] (bodyOf Try.f7) (retQ Try.prog 193 Try.f7 K))
def privitylaw21_ProductProofUnique.L1 (base : Nat) (Ax1 : Option Addr) (lx1 cx1 : Nat) (x3 : Addr) (Ax8 : Option Addr) (lx8 cx8 : Nat) (x9 : Bool) (Ax10 : Option Addr) (lx10 cx10 : Nat) (y12 : Bool) (y13 : Int) (H0 : HH) (K : Value → HH → Prop) : Prop := privitylaw21_ProductProofUnique.P1 base [(.slice Ax1 lx1 cx1), (.pointer ((some x3))), (.slice Ax8 lx8 cx8), (.bool x9), (.slice Ax10 lx10 cx10), (.bool y12), (.int .i64 y13)] H0 K
def privitylaw21_ProductProofUnique.B1 (base : Nat) (Ax1 : Option Addr) (lx1 cx1 : Nat) (x3 : Addr) (Ax8 : Option Addr) (lx8 cx8 : Nat) (x9 : Bool) (Ax10 : Option Addr) (lx10 cx10 : Nat) (y12 : Bool) (y13 : Int) (g : Fr) (N1 : Value → Value → HH → Prop) (H0 : HH) (K : Value → HH → Prop) : Prop :=
 ∃ a138 : Addr, AQ Try.prog (Instr.fieldAt 25 (.pointer ((some x3))) 1) (.pointer ((some a138))) ∧
 ∃ n139 : Int, QRun Try.prog (Instr.loadAt 3 (.pointer ((some a138)))) H0 (.int .i64 n139) ∧
 if (decide ((y13 : Int) ≤ ((IntKind.i64.wrap (2 * n139))))) = true then
 if y12 = true then
 ∃ a140 : Addr, AQ Try.prog (Instr.fieldAt 25 (.pointer ((some x3))) 0) (.pointer ((some a140))) ∧
 ∃ n141 : Int, QRun Try.prog (Instr.loadAt 22 (.pointer ((some a140)))) H0 (.int .u64 n141) ∧
 ∃ a142 : Addr, AQ Try.prog (Instr.fieldAt 25 (.pointer ((some x3))) 0) (.pointer ((some a142))) ∧
 ∃ n143 : Int, QRun Try.prog (Instr.loadAt 22 (.pointer ((some a142)))) H0 (.int .u64 n143) ∧
 ∃ a144 : Addr, AQ Try.prog (Instr.fieldAt 25 (.pointer ((some x3))) 2) (.pointer ((some a144))) ∧
 ∃ (A145 : Option Addr) (l145 c145 : Nat), QRun Try.prog (Instr.loadAt 23 (.pointer ((some a144)))) H0 (.slice A145 l145 c145) ∧
 ∃ n146 : Int, HCall Try.prog base 23 #[(.int .u64 n143), (.slice A145 l145 c145), (.int .u64 ((IntKind.u64.wrap y13)))] H0 (fun v_ H_ => v_ = (.int .u64 n146) ∧ H_ = H0) ∧
 ∃ a147 : Addr, AQ Try.prog (Instr.fieldAt 25 (.pointer ((some x3))) 0) (.pointer ((some a147))) ∧
 ∃ n148 : Int, QRun Try.prog (Instr.loadAt 22 (.pointer ((some a147)))) H0 (.int .u64 n148) ∧
 ∃ a149 : Addr, AQ Try.prog (Instr.fieldAt 25 (.pointer ((some x3))) 3) (.pointer ((some a149))) ∧
 ∃ (A150 : Option Addr) (l150 c150 : Nat), QRun Try.prog (Instr.loadAt 23 (.pointer ((some a149)))) H0 (.slice A150 l150 c150) ∧
 ∃ n151 : Int, HCall Try.prog base 23 #[(.int .u64 n148), (.slice A150 l150 c150), (.int .u64 ((IntKind.u64.wrap y13)))] H0 (fun v_ H_ => v_ = (.int .u64 n151) ∧ H_ = H0) ∧
 ∃ a152 : Addr, AQ Try.prog (Instr.fieldAt 25 (.pointer ((some x3))) 0) (.pointer ((some a152))) ∧
 ∃ n153 : Int, QRun Try.prog (Instr.loadAt 22 (.pointer ((some a152)))) H0 (.int .u64 n153) ∧
 ∃ a154 : Addr, AQ Try.prog (Instr.fieldAt 25 (.pointer ((some x3))) 0) (.pointer ((some a154))) ∧
 ∃ n155 : Int, QRun Try.prog (Instr.loadAt 22 (.pointer ((some a154)))) H0 (.int .u64 n155) ∧
 HCall Try.prog base 24 #[(.int .u64 n153), (.slice Ax10 lx10 cx10), (.int .u64 ((IntKind.u64.wrap y13)))] H0 fun v156 H157 =>
 ∃ (A158 : Option Addr) (l158 c158 : Nat), v156 = (.slice A158 l158 c158) ∧ QRun Try.prog (Instr.loadAt 22 (.pointer ((some a154)))) H157 (.int .u64 n155) ∧
 QRun Try.prog (Instr.loadAt 22 (.pointer ((some a140)))) H157 (.int .u64 n141) ∧
 ∃ n159 : Int, HCall Try.prog base 23 #[(.int .u64 n155), (.slice Ax1 lx1 cx1), (.int .u64 ((IntKind.u64.wrap y13)))] H157 (fun v_ H_ => v_ = (.int .u64 n159) ∧ H_ = H157) ∧
 ∃ b160 : Bool, HCall Try.prog base 22 #[(.int .u64 n141), (.int .u64 ((IntKind.u64.wrap y13))), (.int .u64 n146), (.int .u64 n151), (.slice A158 l158 c158), (.int .u64 n159)] H157 (fun v_ H_ => v_ = (.bool b160) ∧ H_ = H157) ∧
 N1 (.bool b160) (.int .i64 ((IntKind.i64.wrap (y13 + 1)))) H157
 else
 N1 (.bool false) (.int .i64 ((IntKind.i64.wrap (y13 + 1)))) H0
 else
 HCall Try.prog base 16 #[] H0 fun v161 H162 =>
 ∃ b163 : Bool, v161 = (.bool b163) ∧ if b163 = true then
 if x9 = true then
 HCall Try.prog base 20 #[(.slice Ax1 lx1 cx1), (.slice Ax8 lx8 cx8)] H162 fun v164 H165 =>
 ∃ b166 : Bool, v164 = (.bool b166) ∧ ∃ b167 : Bool, AQ Try.prog (binSem .eql 4 (.tmp 184) (.tmp 190) (.bool y12) (.bool b166)) (.bool b167) ∧
 K (.bool b167) H165
 else
 ∃ b168 : Bool, AQ Try.prog (binSem .eql 4 (.tmp 184) (.tmp 190) (.bool y12) (.bool false)) (.bool b168) ∧
 K (.bool b168) H162
 else
 K (.bool false) H162
end Go.Proofs.Ytjkggiemnfigbaa.HL
end
section
set_option linter.unusedVariables false
set_option linter.unusedSimpArgs false
set_option linter.unusedSectionVars false
set_option maxHeartbeats 4000000
namespace Go.Proofs.Ytjkggiemnfigbaa.HL
open Go Go.RowKit Go.Proofs.YtjkggiemnfigbaaW.PrintWords Go.Proofs.YtjkggiemnfigbaaW.PrintMore Go.Proofs.YtjkggiemnfigbaaNum Go.Proofs.Ytjkggiemnfigbaa.FEv
theorem QRun.up {α : Type} {P : Program} {s : Sem α} {H H' : HH} {v : α} (h : QRun P s H v) (X : Ext H H') : QRun P s H' v := fun W hs => h W (fun k o hk => hs k o (X k o hk))
section
end
abbrev tChg : Nat := 44
theorem fm0 (b : Nat) : AQ Try.prog (Instr.fieldAt tChg (.pointer (some ⟨b, 0, none⟩)) 0) (.pointer (some ⟨b, 0, none⟩)) := by
  have := aq_fld (P := Try.prog) (s := tChg) (f := 0) (off := 0) (sz := 5) (by kernel_rfl) (by decide) ⟨b, 0, none⟩; rwa [add0] at this
theorem fm1 (b : Nat) : AQ Try.prog (Instr.fieldAt tChg (.pointer (some ⟨b, 0, none⟩)) 1) (.pointer (some ⟨b, 5, none⟩)) := by
  have := aq_fld (P := Try.prog) (s := tChg) (f := 1) (off := 5) (sz := 1) (by kernel_rfl) (by decide) ⟨b, 0, none⟩; rwa [add0] at this
theorem fm2 (b : Nat) : AQ Try.prog (Instr.fieldAt tChg (.pointer (some ⟨b, 0, none⟩)) 2) (.pointer (some ⟨b, 6, none⟩)) := by
  have := aq_fld (P := Try.prog) (s := tChg) (f := 2) (off := 6) (sz := 1) (by kernel_rfl) (by decide) ⟨b, 0, none⟩; rwa [add0] at this
theorem fm3 (b : Nat) : AQ Try.prog (Instr.fieldAt tChg (.pointer (some ⟨b, 0, none⟩)) 3) (.pointer (some ⟨b, 7, none⟩)) := by
  have := aq_fld (P := Try.prog) (s := tChg) (f := 3) (off := 7) (sz := 1) (by kernel_rfl) (by decide) ⟨b, 0, none⟩; rwa [add0] at this
def MB (H : HH) (b : Nat) (P T : Int) (A2 : Option Addr) (n2 c2 : Nat) (A3 : Option Addr) (n3 c3 : Nat) (A4 : Option Addr) (n4 c4 : Nat) (A5 : Option Addr) (n5 c5 : Nat) (U W : Int) : Prop := H b = some (.cells #[.int .u64 P, .int .i64 T, .slice A2 n2 c2, .slice A3 n3 c3, .slice A4 n4 c4, .slice A5 n5 c5, .int .u64 U, .int .u64 W] tChg (0, 0))
section
variable {base : Nat} {H : HH} {K : Value → HH → Prop} {A2 A3 A4 A5 : Option Addr} {n2 n3 n4 n5 c2 c3 c4 c5 b : Nat} {P T U W : Int} {la lb lr : List Int}
theorem MB.ext {H' : HH} (h : MB H b P T A2 n2 c2 A3 n3 c3 A4 n4 c4 A5 n5 c5 U W) (he : Ext H H') : MB H' b P T A2 n2 c2 A3 n3 c3 A4 n4 c4 A5 n5 c5 U W := he _ _ h
theorem MB.xs (h : MB H b P T A2 n2 c2 A3 n3 c3 A4 n4 c4 A5 n5 c5 U W) : QRun Try.prog (Instr.loadAt 23 (.pointer (some ⟨b, 5, none⟩))) H (.slice A5 n5 c5) := q_ld sc32 (by rw [cellH_blk h]; rfl)
theorem MB.u (h : MB H b P T A2 n2 c2 A3 n3 c3 A4 n4 c4 A5 n5 c5 U W) : QRun Try.prog (Instr.loadAt 22 (.pointer (some ⟨b, 6, none⟩))) H (.int .u64 U) := q_ld sc22 (by rw [cellH_blk h]; rfl)
theorem MB.v (h : MB H b P T A2 n2 c2 A3 n3 c3 A4 n4 c4 A5 n5 c5 U W) : QRun Try.prog (Instr.loadAt 22 (.pointer (some ⟨b, 7, none⟩))) H (.int .u64 W) := q_ld sc22 (by rw [cellH_blk h]; rfl)
theorem MB.z (h : MB H b P T A2 n2 c2 A3 n3 c3 A4 n4 c4 A5 n5 c5 U W) : QRun Try.prog (Instr.loadAt tCase (.pointer (some ⟨b, 0, none⟩))) H (.agg #[.int .u64 P, .int .i64 T, .slice A2 n2 c2, .slice A3 n3 c3, .slice A4 n4 c4]) :=
  q_lda (cs := [.int .u64 P, .int .i64 T, .slice A2 n2 c2, .slice A3 n3 c3, .slice A4 n4 c4]) (by kernel_rfl) (by kernel_rfl) (fun j u hu => by
    rw [add0, cellH_blk h]
    match j, hu with
    | 0, hu => exact hu
    | 1, hu => exact hu
    | 2, hu => exact hu
    | 3, hu => exact hu
    | 4, hu => exact hu)
theorem h_cgbox (hk : ∀ b H', Ext H H' → MB H' b P T A2 n2 c2 A3 n3 c3 A4 n4 c4 A5 n5 c5 U W → K (.pointer (some ⟨b, 0, none⟩)) H') : HRun Try.prog base (Instr.box tChg (.agg #[.int .u64 P, .int .i64 T, .slice A2 n2 c2, .slice A3 n3 c3, .slice A4 n4 c4, .slice A5 n5 c5, .int .u64 U, .int .u64 W])) H K :=
  h_box (fun b hb hbase => hk b _ (Ext.upd hb _) (upd_self _ _ _))
theorem h_zvar {old : Value} {C : Addr → HH → Prop} (hk : ∀ b H', Ext H H' → ZB H' b P T A2 n2 c2 A3 n3 c3 A4 n4 c4 → C ⟨b, 0, none⟩ H') :
    HRun Try.prog base (Instr.alloc tCase true old) H fun v H1 => ∃ a : Addr, v = .pointer (some a) ∧ HRun Try.prog base (Instr.storeAt tCase (.pointer (some a)) (.agg #[.int .u64 P, .int .i64 T, .slice A2 n2 c2, .slice A3 n3 c3, .slice A4 n4 c4])) H1 fun _ H2 => C a H2 :=
  h_var (vs := [.int .u64 P, .int .i64 T, .slice A2 n2 c2, .slice A3 n3 c3, .slice A4 n4 c4]) (z := .agg #[.int .u64 0, .int .i64 0, .slice none 0 0, .slice none 0 0, .slice none 0 0]) (by kernel_rfl) rfl (by kernel_rfl) rfl (fun b H' he hbase hn hb => hk _ H' he hb)
end
end Go.Proofs.Ytjkggiemnfigbaa.HL
end
section
set_option linter.unusedVariables false
set_option linter.unusedSimpArgs false
set_option linter.unusedSectionVars false
set_option maxHeartbeats 8000000
namespace Go.Proofs.Ytjkggiemnfigbaa.HL
open Go Go.Proofs.YtjkggiemnfigbaaNum Go.Proofs.Ytjkggiemnfigbaa.FEv
section
variable {p : Nat} [NeZero p]
/-- The rows, changed. -/
def mvDs (t : Nat) (D : List (List (Fin p))) (w : Nat → Fin p) (z : List (Fin p)) : List (List (Fin p)) := (List.range t).map fun i => mvD t (rowN D i) (w (i + 1)) z
theorem rowL_mvDs {t i : Nat} {D : List (List (Fin p))} {w : Nat → Fin p} {z : List (Fin p)} (hi : i < t) : rowL (mvDs t D w z) i = mvD t (rowN D i) (w (i + 1)) z := by
  unfold rowL mvDs
  rw [List.getD_eq_getElem?_getD, List.getElem?_map, List.getElem?_range hi]; rfl
theorem rowN_rowL (D : List (List (Fin p))) (i : Nat) : rowN D i = rowL D i := rfl
end
section
end
end Go.Proofs.Ytjkggiemnfigbaa.HL
end
section
set_option linter.unusedVariables false
set_option linter.unusedSimpArgs false
set_option linter.unusedSectionVars false
set_option maxHeartbeats 8000000
namespace Go.Proofs.Ytjkggiemnfigbaa.HL
open Go Go.Proofs.YtjkggiemnfigbaaNum Go.Proofs.Ytjkggiemnfigbaa.FEv
section
variable {p : Nat} [NeZero p]
theorem mvA_eval {t : Nat} {d z : List (Fin p)} {u : Fin p} (hd : d.length ≤ t + 1) (hz : z.length ≤ t + 1) {x : Fin p} (h0 : peval z x = 0) : peval (mvA t d u z) x = peval d x := by
  have := mvD_eval (t := t) (d := d) (z := z) (c := u) hd hz x
  rw [h0] at this
  have e : peval (mvA t d u z) x = peval (mvD t d u z) x := rfl
  rw [e, this]; grind
theorem vals_mvDs {t : Nat} {D : List (List (Fin p))} {w : Nat → Fin p} {z : List (Fin p)} (hD : D.length = t) (hr : ∀ j, j < t → (rowN D j).length ≤ t + 1) (hz : z.length ≤ t + 1) {x : Fin p} (h0 : peval z x = 0) : valsL (mvDs t D w z) x = valsL D x := by
  apply cf_ext (by simp [mvDs, hD])
  intro i
  rw [cf_valsL, cf_valsL]
  by_cases h : i < t
  · rw [rowN_rowL, rowL_mvDs h]
    exact mvA_eval (u := w (i + 1)) (hr i h) hz h0
  · have e1 : rowN (mvDs t D w z) i = [] := by
      unfold rowN mvDs
      rw [List.getD_eq_getElem?_getD, List.getElem?_eq_none (by simpa using h)]; rfl
    have e2 : rowN D i = [] := by
      unfold rowN
      rw [List.getD_eq_getElem?_getD, List.getElem?_eq_none (by omega)]; rfl
    rw [e1, e2]
theorem moved_zero {t : Nat} (ht : 0 < t) {a b r z : List (Fin p)} {u v : Fin p} (hr : r.length = t * t) (ha : a.length = t + 1) (hb : b.length = t + 1) (hz : z.length = t + 1) (z0 : cf z 0 = 1) :
    cf (mvD t (pC t r (pL t a b)) (mvW a b u v z 0) z) 0 = (cf a 0 + u) * (cf b 0 + v) := by
  rw [← (moved_prove ht (u := u) (v := v) hr ha hb hz).2]
  have h := prove_holds (t := t) (r := mvR t r (mvW a b u v z) z) (L := pL t (mvA t a u z) (mvA t b v z)) (by rw [mvR_len]; exact Nat.le_refl _) (pL_len _ _ _) 0
  rw [cf_pL (by rw [mvA_len]; exact Nat.le_refl _) (by rw [mvA_len]; exact Nat.le_refl _), cf_pmul, conv_zero] at h
  have hz' : comb t (pD t (mvR t r (mvW a b u v z) z) (pL t (mvA t a u z) (mvA t b v z))) 0 = 0 := by
    unfold comb
    rw [sumF_congr (g := fun _ => 0) (fun i _ => by unfold Go.Proofs.YtjkggiemnfigbaaNum.part; rw [if_neg (by omega)]), sumF_zero]
  rw [hz', cf_mvA (by omega) (by omega), cf_mvA (by omega) (by omega), z0] at h
  grind
end
section
variable {base : Nat} {H : HH} {A2 A3 A4 A5 : Option Addr} {n2 n3 n4 n5 c2 c3 c4 c5 : Nat} {P T U W : Int} {la lb lr lx : List Int}
theorem law_ProductProofZeroKnowledge (ha : Row H A2 n2 la) (hb : Row H A3 n3 lb) (hr : Row H A4 n4 lr) (na : ∀ x ∈ la, 0 ≤ x) (nb : ∀ x ∈ lb, 0 ≤ x) (nr : ∀ x ∈ lr, 0 ≤ x) (ma : la.length ≤ maxLen) (mb : lb.length ≤ maxLen) (mr : lr.length ≤ maxLen) (hc : n4 ≤ c4)
    (hx : Row H A5 n5 lx) (nx : ∀ x ∈ lx, 0 ≤ x) (mx : lx.length ≤ maxLen) (hU : 0 ≤ U) (hW : 0 ≤ W) :
    HCall Try.prog base 6 #[.agg #[.int .u64 P, .int .i64 T, .slice A2 n2 c2, .slice A3 n3 c3, .slice A4 n4 c4, .slice A5 n5 c5, .int .u64 U, .int .u64 W]] H fun v _ => v = .bool true := by
  refine privitylaw21_ProductProofZeroKnowledge.spec ?_
  unfold privitylaw21_ProductProofZeroKnowledge.sh
  refine h_cgbox (fun b H1 X1 cb => ⟨_, rfl, _, fm0 b, _, _, _, _, _, _, _, _, _, _, _, cb.z, h_zvar (fun b2 H2 X2 zb => ?_)⟩)
  have X12 := X1.trans X2
  refine ⟨_, _, _, _, _, _, _, _, _, _, _, zb.all, h_vcase (ha.ext X12) (hb.ext X12) (hr.ext X12) na nb nr ma mb mr (fun q hz t a b' r vc H3 X3 => ⟨_, rfl, ?_⟩) (fun H3 X3 => ⟨_, rfl, ?_⟩)⟩
  rotate_left
  · rw [if_neg (by decide)]
    exact h_awakeP (fun _ _ => ⟨_, rfl, rfl⟩)
  rw [if_pos (by decide)]
  obtain ⟨hp, rfl, rfl, rfl, rfl, rfl, t1, t4, al, bl, rl⟩ := vc
  have X13 := X12.trans X3
  have cb3 := (cb.ext X2).ext X3
  have zb3 := zb.ext X3
  have htt : t * t ≤ 16 := Nat.mul_le_mul t4 t4
  refine ⟨_, fm1 b, _, _, _, cb3.xs, _, fz b2 1 (by decide), _, zb3.zt, ?_⟩
  split
  rotate_left
  · exact h_awakeP (fun _ _ => ⟨_, rfl, rfl⟩)
  rename_i e1
  have e1 : n5 = t := by have : (n5 : Int) = (t : Int) := by simpa using e1
                         omega
  subst e1
  have lxl : lx.length = n5 := hx.1.symm
  refine ⟨_, fz b2 0 (by decide), _, zb3.zp, _, fm1 b, _, _, _, cb3.xs, h_below (hx.ext X13) mx ⟨_, rfl, ?_⟩⟩
  split
  rotate_left
  · exact h_awakeP (fun _ _ => ⟨_, rfl, rfl⟩)
  rename_i e2
  have e2 : belowB q lx 4 = true := by simpa using e2
  obtain ⟨_, b2'⟩ := below_of e2
  obtain ⟨xs, rfl⟩ : ∃ xs : List (Fin q), lx = vs xs := ⟨_, (liftV nx b2').symm⟩
  rw [vs_length] at lxl
  refine ⟨_, fm1 b, _, _, _, cb3.xs, h_unlike10 (hx.ext X13) (by rw [vs_length]; omega) (fun bb => ⟨_, rfl, ?_⟩)⟩
  cases bb with
  | false =>
    rw [if_pos (by decide)]
    exact h_awakeP (fun _ _ => ⟨_, rfl, rfl⟩)
  | true =>
  rw [if_neg (by decide)]
  have ha3 := ha.ext X13
  have hb3 := hb.ext X13
  have hr3 := hr.ext X13
  have hx3 := hx.ext X13
  clear ha hb hr hx X1 X2 X3 X12 X13 cb zb
  refine privitylaw21_ProductProofZeroKnowledge.loop0 (fun k y H' => H' = H3 ∧ ∃ i : Nat, y = i ∧ i ≤ n5 ∧ k = n5 - i ∧ ∀ j, j < i → cf xs j ≠ 0) n5 ⟨rfl, 0, rfl, Nat.zero_le _, rfl, fun j hj => by omega⟩ ?_
  rintro k y g H4 ⟨rfl, i, rfl, hi, rfl, hne⟩
  unfold privitylaw21_ProductProofZeroKnowledge.B0
  refine ⟨_, fm1 b, _, _, _, cb3.xs, ?_⟩
  by_cases e3 : (i : Int) < (n5 : Int)
  · rw [if_pos (decide_eq_true e3)]
    obtain ⟨a1, q1, q2⟩ := hx3.at c5 (i := i) (by omega) (by omega)
    rw [Int.toNat_natCast, vs_get] at q2
    refine ⟨_, fm1 b, _, _, _, cb3.xs, a1, q1, _, q2, ?_⟩
    split
    · exact h_awakeP (fun _ _ => ⟨_, rfl, rfl⟩)
    · rename_i e4
      have e4 : cf xs i ≠ 0 := fun h => by rw [h, V_zero] at e4; simp at e4
      exact ⟨n5 - i - 1, by omega, _, rfl, rfl, i + 1, nxt (n := 1000) (by omega) (by decide), by omega, by omega, fun j hj => by
        by_cases e : j = i
        · rw [e]; exact e4
        · exact hne j (by omega)⟩
  rw [if_neg (fun h => e3 (of_decide_eq_true h))]
  obtain rfl : i = n5 := by omega
  have hx0 : ∀ x ∈ xs, x ≠ 0 := fun x hx => by
    obtain ⟨j, hj, rfl⟩ := List.getElem_of_mem hx
    have := hne j (by omega)
    have e : cf xs j = xs[j] := by unfold cf; simp [hj]
    rwa [e] at this
  have hqne : ((q : Nat) : Int) ≠ 0 := by have := hp.le; omega
  refine ⟨_, fm2 b, _, cb3.u, _, fz b2 0 (by decide), _, zb3.zp, _, aq_remP hqne, _, fm3 b, _, cb3.v, _, fz b2 0 (by decide), _, zb3.zp, _, aq_remP hqne, ?_⟩
  rw [tmod_V (p := q) hU, tmod_V (p := q) hW]
  generalize (E U : Fin q) = u
  generalize (E W : Fin q) = v
  refine ⟨_, fz b2 0 (by decide), _, zb3.zp, _, fm1 b, _, _, _, cb3.xs, h_vanish hp hx3 (by omega) hx0 (fun A6 c6 H5 X5 r6 => ⟨_, _, _, rfl, ?_⟩)⟩
  rw [lxl] at r6 ⊢
  have zl : (vanish xs [1]).length = i + 1 := by rw [vanish_len, lxl]; simp; omega
  have hzat : ∀ y ∈ xs, peval (vanish xs [1]) y = 0 := vanish_at hp.pr xs [1] hx0
  have z0 : cf (vanish xs [1]) 0 = 1 := by rw [vanish_zero]; exact cf_cons_zero _ _
  generalize vanish xs [1] = z at r6 zl hzat z0
  have zb5 := zb3.ext X5
  refine ⟨_, fz b2 0 (by decide), _, zb5.zp, _, fz b2 1 (by decide), _, zb5.zt, _, fz b2 2 (by decide), _, _, _, zb5.za, _, fz b2 3 (by decide), _, _, _, zb5.zb, _, fz b2 4 (by decide), _, _, _, zb5.zr, ?_⟩
  refine h_moved hp u v (ha3.ext X5) (hb3.ext X5) (hr3.ext X5) r6 t1 t4 al bl rl zl (fun A7 c7 A8 c8 A9 c9 H6 X6 r7 r8 r9 hc9 => ⟨_, _, _, _, _, _, _, _, _, rfl, ?_⟩)
  have hM := moved_prove (t := i) (by omega) (u := u) (v := v) rl al bl zl
  have X56 := X5.trans X6
  have zb6 := zb5.ext X6
  refine ⟨_, fz b2 0 (by decide), _, zb6.zp, _, fz b2 1 (by decide), _, zb6.zt, _, fz b2 2 (by decide), _, _, _, zb6.za, _, fz b2 3 (by decide), _, _, _, zb6.zb, _, fz b2 4 (by decide), _, _, _, zb6.zr, ?_⟩
  refine h_prove hp (ha3.ext X56) (hb3.ext X56) (hr3.ext X56) t1 (by omega) al bl rl hc (fun A10 c10 A11 c11 H7 X7 MD RC hcC => ⟨_, _, _, _, _, _, rfl, ?_⟩)
  have zb7 := zb6.ext X7
  refine ⟨_, fz b2 0 (by decide), _, zb7.zp, _, fz b2 1 (by decide), _, zb7.zt, ?_⟩
  refine h_prove hp (r7.ext X7) (r8.ext X7) (r9.ext X7) t1 (by omega) (mvA_len _ _ _ _) (mvA_len _ _ _ _) (mvR_len _ _ _ _) hc9 (fun A12 c12 A13 c13 H8 X8 MD2 RC2 hcC2 => ⟨_, _, _, _, _, _, rfl, ?_⟩)
  rw [hM.1] at MD2
  rw [hM.2] at RC2
  have lD := pD_len (t := i) (r := r) (L := pL i a b')
  have lC := pC_len (r := r) (pL_len i a b')
  have hrow : ∀ j, j < i → (rowN (pD i r (pL i a b')) j).length = i + 1 := fun j hj => pD_row (by omega) hj
  have zb8 := zb7.ext X8
  have X78 := X7.trans X8
  have X58 := X56.trans X78
  have ha8 := ha3.ext X58
  have hb8 := hb3.ext X58
  have z8 := r6.ext (X6.trans X78)
  have MD8 := MD.ext X8
  have RC8 := RC.ext X8
  have hC0 := moved_zero (t := i) (by omega) (u := u) (v := v) rl al bl zl z0
  generalize pD i r (pL i a b') = D at *
  generalize pC i r (pL i a b') = C at *
  have zat : ∀ j, j < i → peval z (cf xs j) = 0 := fun j hj => by
    have e : cf xs j = xs[j]'(by omega) := by unfold cf; simp [show j < xs.length by omega]
    rw [e]
    exact hzat _ (List.getElem_mem _)
  have lD2 : (mvDs i D (mvW a b' u v z) z).length = i := by simp [mvDs]
  have lD2' : ((List.range i).map (fun j => mvD i (rowN D j) (mvW a b' u v z (j + 1)) z)).length = i := by simp
  refine ⟨_, fz b2 1 (by decide), _, zb8.zt, ?_⟩
  rw [if_pos (by simp)]
  refine ⟨_, fz b2 1 (by decide), _, zb8.zt, ?_⟩
  rw [if_pos (by simp)]
  have wi : IntKind.i64.wrap ((i : Int) + 1) = ((i + 1 : Nat) : Int) := nxt (n := 1000) (by omega) (by decide)
  refine ⟨_, fz b2 1 (by decide), _, zb8.zt, ?_⟩
  rw [wi, if_pos (by simp)]
  refine ⟨_, fz b2 1 (by decide), _, zb8.zt, ?_⟩
  rw [wi, if_neg (by simp)]
  have MD2' : Mat H8 A12 i (ms (mvDs i D (mvW a b' u v z) z)) := MD2.mat
  have MD8' := MD8.mat
  have smD : Sm D := ⟨by omega, fun l hl => by
    obtain ⟨j, hj, rfl⟩ := List.getElem_of_mem hl
    have := hrow j (by omega)
    have e : rowN D j = D[j] := by unfold rowN; simp [hj]
    rw [e] at this; omega⟩
  have smD2 : Sm (mvDs i D (mvW a b' u v z) z) := ⟨by omega, fun l hl => by
    obtain ⟨j, _, rfl⟩ := List.mem_map.1 hl
    rw [mvD_len]; omega⟩
  have r7' := r7.ext X78
  have r8' := r8.ext X78
  have r9' := r9.ext X78
  have hx8 := hx3.ext X58
  have cb8 := cb3.ext X58
  have hr8 := hr3.ext X58
  clear MD MD2 RC MD8 hM
  refine privitylaw21_ProductProofZeroKnowledge.loop1 (fun k y H' => ∃ m : Nat, y = m ∧ m ≤ i ∧ k = i - m ∧ Ext H8 H') i ⟨0, rfl, Nat.zero_le _, rfl, .refl _⟩ ?_
  rintro k y g H9 ⟨m, rfl, hm, rfl, X9⟩
  unfold privitylaw21_ProductProofZeroKnowledge.B1
  have zb9 := zb8.ext X9
  have cb9 := cb8.ext X9
  refine ⟨_, fm1 b, _, _, _, cb9.xs, ?_⟩
  by_cases e5 : (m : Int) < (i : Int)
  · rw [if_pos (decide_eq_true e5)]
    have hmi : m < i := by omega
    have h0 := zat m hmi
    obtain ⟨a1, q1, q2⟩ := (hx8.ext X9).at c5 (i := (m : Int)) (by omega) (by omega)
    rw [Int.toNat_natCast, vs_get] at q2
    generalize cf xs m = x at q2 h0
    refine ⟨_, fm1 b, _, _, _, cb9.xs, a1, q1, _, q2, _, fz b2 0 (by decide), _, zb9.zp, _, fz b2 0 (by decide), _, zb9.zp, ?_⟩
    refine h_vals hp (MD8'.ext X9) smD x (fun A20 c20 H10 X10 r20 => ⟨_, _, _, rfl, zb9.zp.up X10, ?_⟩)
    refine h_vals hp (MD2'.ext (X9.trans X10)) smD2 x (fun A21 c21 H11 X11 r21 => ⟨_, _, _, rfl, ?_⟩)
    rw [vals_mvDs lD (fun j hj => by rw [hrow j hj]; exact Nat.le_refl _) (by omega) h0] at r21
    refine h_sameList (r20.ext X11) r21 (by rw [vs_length, valsL_len, lD]; unfold maxLen; omega) ⟨_, rfl, ?_⟩
    rw [if_pos (by simp)]
    have X911 := X9.trans (X10.trans X11)
    have zb11 := zb9.ext (X10.trans X11)
    refine ⟨_, fz b2 0 (by decide), _, zb11.zp, _, h_eval hp (RC8.ext X911) (by omega) x ⟨rfl, rfl⟩, _, fz b2 0 (by decide), _, zb11.zp, _, h_eval hp (RC2.ext X911) (by rw [mvD_len]; omega) x ⟨rfl, rfl⟩, ?_⟩
    rw [if_pos (by
      have : peval (mvD i C (mvW a b' u v z 0) z) x = peval C x := mvA_eval (u := mvW a b' u v z 0) (by omega) (by omega) h0
      rw [this]; simp)]
    refine ⟨_, fz b2 0 (by decide), _, zb11.zp, _, h_eval hp (r7'.ext X911) (by rw [mvA_len]; omega) x ⟨rfl, rfl⟩, _, fz b2 0 (by decide), _, zb11.zp, _, fz b2 2 (by decide), _, _, _, zb11.za, _, h_eval hp (ha8.ext X911) (by omega) x ⟨rfl, rfl⟩, ?_⟩
    rw [if_pos (by rw [mvA_eval (by omega) (by omega) h0]; simp)]
    refine ⟨_, fz b2 0 (by decide), _, zb11.zp, _, h_eval hp (r8'.ext X911) (by rw [mvA_len]; omega) x ⟨rfl, rfl⟩, _, fz b2 0 (by decide), _, zb11.zp, _, fz b2 3 (by decide), _, _, _, zb11.zb, _, h_eval hp (hb8.ext X911) (by omega) x ⟨rfl, rfl⟩, ?_⟩
    rw [if_neg (by rw [mvA_eval (by omega) (by omega) h0]; simp)]
    exact ⟨i - m - 1, by omega, _, rfl, m + 1, nxt (n := 1000) (by omega) (by decide), by omega, by omega, X911⟩
  · rw [if_neg (fun h => e5 (of_decide_eq_true h))]
    refine ⟨_, fz b2 0 (by decide), _, zb9.zp, _, fz b2 1 (by decide), _, zb9.zt, _, fz b2 0 (by decide), _, zb9.zp, _, h_neg hp u ⟨rfl, rfl⟩, _, fz b2 0 (by decide), _, zb9.zp, _, h_neg hp v ⟨rfl, rfl⟩, ?_⟩
    refine h_moved hp (-u) (-v) (r7'.ext X9) (r8'.ext X9) (r9'.ext X9) (z8.ext X9) t1 t4 (mvA_len _ _ _ _) (mvA_len _ _ _ _) (mvR_len _ _ _ _) zl (fun A22 c22 A23 c23 A24 c24 H10 X10 r22 r23 r24 _ => ⟨_, _, _, _, _, _, _, _, _, rfl, ?_⟩)
    rw [moved_backA al zl] at r22
    rw [moved_backA bl zl] at r23
    rw [moved_backR rl (fun j => moved_backW al bl zl j)] at r24
    have X910 := X9.trans X10
    have zb10 := zb9.ext X10
    obtain ⟨a1, q1, q2⟩ := (ha8.ext X910).at c2 (i := ((0 : Nat) : Int)) (by omega) (by have := ha8.1; rw [vs_length] at this; omega)
    obtain ⟨a2, p1, p2⟩ := (hb8.ext X910).at c3 (i := ((0 : Nat) : Int)) (by omega) (by have := hb8.1; rw [vs_length] at this; omega)
    rw [Int.toNat_natCast, vs_get] at q2 p2
    refine ⟨_, fz b2 0 (by decide), _, zb10.zp, _, fz b2 0 (by decide), _, zb10.zp, _, fz b2 2 (by decide), _, _, _, zb10.za, a1, q1, _, q2, _, h_add hp _ _ ⟨rfl, rfl⟩, _, fz b2 0 (by decide), _, zb10.zp, _, fz b2 3 (by decide), _, _, _, zb10.zb, a2, p1, _, p2, _, h_add hp _ _ ⟨rfl, rfl⟩, _, h_mul hp _ _ ⟨rfl, rfl⟩, ?_⟩
    refine h_awakeP (fun H11 X11 => ⟨_, rfl, ?_⟩)
    rw [if_pos rfl]
    have X911 := X910.trans X11
    obtain ⟨a3, s1, s2⟩ := (RC2.ext X911).at c13 (i := ((0 : Nat) : Int)) (by omega) (by omega)
    rw [Int.toNat_natCast, vs_get, hC0] at s2
    refine ⟨a3, s1, _, s2, ?_⟩
    rw [if_pos (by simp)]
    have zb11 := zb10.ext X11
    refine ⟨_, fz b2 2 (by decide), _, _, _, zb11.za, h_sameList (r22.ext X11) (ha8.ext X911) (by rw [vs_length]; unfold maxLen; omega) ⟨_, rfl, ?_⟩⟩
    rw [if_pos (by simp)]
    refine ⟨_, fz b2 3 (by decide), _, _, _, zb11.zb, h_sameList (r23.ext X11) (hb8.ext X911) (by rw [vs_length]; unfold maxLen; omega) ⟨_, rfl, ?_⟩⟩
    rw [if_pos (by simp)]
    refine ⟨_, fz b2 4 (by decide), _, _, _, zb11.zr, h_sameList (r24.ext X11) (hr8.ext X911) (by rw [vs_length]; unfold maxLen; omega) ⟨_, rfl, ?_⟩⟩
    simp
end
end Go.Proofs.Ytjkggiemnfigbaa.HL
end

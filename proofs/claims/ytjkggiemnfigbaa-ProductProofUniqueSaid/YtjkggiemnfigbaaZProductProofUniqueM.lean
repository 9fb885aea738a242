/- Part M of: The statement ProductProofUnique: the law answers true whatever its arguments; no condition. -/
import Derived.Test.YtjkggiemnfigbaaZProductProofUniqueL
import Derived.KernelRfl
import Derived.Test.YtjkggiemnfigbaaProg
import Derived.Laws.Tables
section
set_option linter.unusedVariables false
set_option linter.unusedSimpArgs false
set_option linter.unusedSectionVars false
namespace Go.Proofs.Ytjkggiemnfigbaa.HL
open Go Go.Proofs.YtjkggiemnfigbaaNum Go.Proofs.Ytjkggiemnfigbaa.FEv
section
end
def PtAt (H : HH) (a : Addr) (q : Int × Int) : Prop := cellH H (a.add 0) = some (.int .u64 q.1) ∧ cellH H (a.add 1) = some (.int .u64 q.2)
section
variable {base : Nat} {H : HH} {a : Addr} {q : Int × Int}
theorem PtAt.ext {H' : HH} (h : PtAt H a q) (he : Ext H H') : PtAt H' a q := ⟨cellH_ext he h.1, cellH_ext he h.2⟩
theorem PtAt.x (h : PtAt H a q) : QRun Try.prog (Instr.loadAt 22 (.pointer (some (a.add 0)))) H (.int .u64 q.1) := q_ld sc22 h.1
theorem PtAt.y (h : PtAt H a q) : QRun Try.prog (Instr.loadAt 22 (.pointer (some (a.add 1)))) H (.int .u64 q.2) := q_ld sc22 h.2
end
def pc (l : List (Int × Int)) : List Value := l.flatMap fun q => [.int .u64 q.1, .int .u64 q.2]
def Pts (H : HH) (A : Option Addr) (n : Nat) (l : List (Int × Int)) : Prop := n = l.length ∧ Rd H A (pc l)
section
variable {base : Nat} {H : HH} {A : Option Addr} {n : Nat} {l : List (Int × Int)} {i : Int}
theorem Pts.ext {H' : HH} (h : Pts H A n l) (he : Ext H H') : Pts H' A n l := ⟨h.1, h.2.ext he⟩
theorem Pts.nil : Pts H none 0 [] := ⟨rfl, .inl rfl⟩
theorem addr_add' (a : Addr) (m n : Nat) : (a.add m).add n = a.add (m + n) := by
  unfold Addr.add
  by_cases hm : m = 0 <;> by_cases hn : n = 0 <;> simp_all [Nat.add_assoc]
end
section
end
def RowI (H : HH) (A : Option Addr) (n : Nat) (l : List Nat) : Prop := n = l.length ∧ Rd H A (ns l)
theorem RowI.ext {H H' : HH} {A : Option Addr} {n : Nat} {l : List Nat} (h : RowI H A n l) (he : Ext H H') : RowI H' A n l := ⟨h.1, h.2.ext he⟩
theorem RowI.nil {H : HH} : RowI H none 0 [] := ⟨rfl, .inl rfl⟩
theorem RowI.at {H : HH} {A : Option Addr} {n : Nat} {l : List Nat} (h : RowI H A n l) (c : Nat) {j : Nat} (hj : j < n) : ∃ a, AQ Try.prog (Instr.indexAt 88 (.slice A n c) (.int .i64 j)) (.pointer (some a)) ∧ QRun Try.prog (Instr.loadAt 3 (.pointer (some a))) H (.int .i64 ((l.getD j 0 : Nat) : Int)) := by
  obtain ⟨e, h⟩ := h
  subst e
  exact Piv.at h c hj
end Go.Proofs.Ytjkggiemnfigbaa.HL
end
section
set_option linter.unusedVariables false
set_option linter.unusedSimpArgs false
set_option linter.unusedSectionVars false
set_option maxHeartbeats 1000000
namespace Go.Proofs.Ytjkggiemnfigbaa.HL
open Go Go.Proofs.YtjkggiemnfigbaaNum Go.Proofs.Ytjkggiemnfigbaa.FEv
theorem aq_to {P : Program} {t e sz : Nat} (ht : P.underlying t = some (.slice e)) (hs : (P.info? e).map (·.size) = some sz) {A : Option Addr} {n c : Nat} {kd : IntKind} {h : Int} (h0 : 0 ≤ h) (h1 : h ≤ c) :
    AQ P (Instr.sliceAt t (.slice A n c) none (some (.int kd h)) none) (.slice A h.toNat c) := fun W => by
  have he : P.elem t = e := by unfold Program.elem; rw [ht]
  have hh := run_slice_h W t A n c (he.symm ▸ ht) kd h h0 h1
  rw [run_sliceAt_slice W t _ _ _ _ (he.symm ▸ ht), hh, he, run_sz hs]
  have : (if c = 0 then A else A.map (·.add (0 * sz))) = A := by
    split
    · rfl
    · cases A with
      | none => rfl
      | some a => simp [Addr.add]
  simp only [Result.andThen, sliced, this, Nat.sub_zero]
theorem Rd.take {H : HH} {A : Option Addr} {xs : List Value} (h : Rd H A xs) (k : Nat) : Rd H A (xs.take k) := by
  rcases h with e | ⟨ad, e, hc⟩
  · exact .inl (by rw [e]; simp)
  · exact .inr ⟨ad, e, fun i u hu => hc i u (by
      rw [List.getElem?_take] at hu
      split at hu
      · exact hu
      · cases hu)⟩
theorem dec {j : Nat} (h : 0 < j) (hj : j ≤ 1000000) : IntKind.i64.wrap ((j : Int) - 1 - 1) = ((j - 1 : Nat) : Int) - 1 := by
  unfold IntKind.wrap
  simp [IntKind.bits, IntKind.signed]
  omega
theorem dec1 {j : Nat} (hj : j ≤ 1000000) : IntKind.i64.wrap ((j : Int) - 1) = (j : Int) - 1 := by
  unfold IntKind.wrap
  simp [IntKind.bits, IntKind.signed]
  omega
theorem w64 {x : Int} (h0 : -9223372036854775808 ≤ x) (h1 : x < 9223372036854775808) : IntKind.i64.wrap x = x := by
  unfold IntKind.wrap
  simp [IntKind.bits, IntKind.signed]
  omega
section
variable {p : Nat} [NeZero p] {base : Nat} {H : HH} {K : Value → HH → Prop} {A A' : Option Addr} {n n' c c' : Nat}
theorem drop_cf {f : List (Fin p)} {j : Nat} (h : j < f.length) : f.drop j = cf f j :: f.drop (j + 1) := getD_cons_drop h 0
theorem h_eval (hp : Sup p) {f : List (Fin p)} (h : Row H A n (vs f)) (hz : f.length ≤ 1000) (x : Fin p) (hk : K (.int .u64 (V (peval f x))) H) : HCall Try.prog base 23 #[.int .u64 p, .slice A n c, .int .u64 (V x)] H K := by
  refine poly_Eval.spec ?_
  unfold poly_Eval.sh
  have e1 := h.1
  rw [vs_length] at e1
  rw [dec1 (by omega)]
  refine poly_Eval.loop0 (fun k y z H' => H' = H ∧ ∃ j : Nat, j ≤ n ∧ k = j ∧ z = (j : Int) - 1 ∧ y = V (peval (f.drop j) x)) n ⟨rfl, n, Nat.le_refl _, rfl, rfl, by rw [List.drop_eq_nil_of_le (by omega), peval_nil, V_zero]⟩ ?_
  rintro k y z g H' ⟨rfl, j, hj, rfl, rfl, rfl⟩
  unfold poly_Eval.B0
  split
  · rename_i e
    have e := of_decide_eq_true e
    have hj0 : 0 < k := by omega
    obtain ⟨a1, q1, q2⟩ := h.at c (i := (k : Int) - 1) (by omega) (by omega)
    rw [show ((k : Int) - 1).toNat = k - 1 by omega, vs_get] at q2
    refine ⟨_, h_mul hp _ _ ⟨rfl, rfl⟩, a1, q1, _, q2, _, h_add hp _ _ ⟨rfl, rfl⟩, ?_⟩
    refine ⟨k - 1, by omega, _, _, rfl, rfl, rfl, k - 1, by omega, rfl, dec hj0 (by omega), ?_⟩
    rw [drop_cf (show k - 1 < f.length by omega), show k - 1 + 1 = k by omega, peval_cons]
    congr 1
    grind
  · rename_i e
    have e : ¬ ((k : Int) - 1 ≥ 0) := fun h => e (decide_eq_true h)
    have : k = 0 := by omega
    subst this
    exact hk
end
end Go.Proofs.Ytjkggiemnfigbaa.HL
end
section
set_option linter.unusedVariables false
set_option linter.unusedSimpArgs false
set_option linter.unusedSectionVars false
set_option maxHeartbeats 2000000
namespace Go.Proofs.Ytjkggiemnfigbaa.HL
open Go Go.RowKit Go.Proofs.YtjkggiemnfigbaaW.PrintWords Go.Proofs.YtjkggiemnfigbaaW.PrintMore Go.Proofs.Ytjkggiemnfigbaa.PF Go.Proofs.YtjkggiemnfigbaaNum Go.Proofs.Ytjkggiemnfigbaa.FEv
section
variable {p : Nat} [NeZero p] {base : Nat} {H : HH} {K : Value → HH → Prop} {A A' A'' : Option Addr} {n n' n'' c c' c'' : Nat}
theorem h_reduce1 (hp : Sup p) (m : Int) (h0 : 0 ≤ m) (h1 : m < 18446744073709551616) (hk : K (.int .u64 (V (E m : Fin p))) H) : HCall Try.prog base 54 #[.int .u64 p, .int .u64 m] H K := by
  obtain ⟨k, hk'⟩ := (reduce_ev hp m h0 h1).rounds
  exact (HCall.drew (enters Try.func54 (by kernel_rfl)) (fun W => field_Reduce.calls k _ _ _ W hk')).to hk
theorem h_prove (hp : Sup p) {t : Nat} {a b r : List (Fin p)} (ha : Row H A n (vs a)) (hb : Row H A' n' (vs b)) (hr : Row H A'' n'' (vs r)) (t1 : 1 ≤ t) (t2 : t ≤ 100) (la : a.length = t + 1) (lb : b.length = t + 1) (lr : r.length = t * t) (hc : n'' ≤ c'')
    (hk : ∀ A1 c1 A2 c2 H', Ext H H' → MatC H' A1 t (ms (pD t r (pL t a b))) → Row H' A2 (t + 1) (vs (pC t r (pL t a b))) → t + 1 ≤ c2 → K (.tuple #[.slice A1 t c1, .slice A2 (t + 1) c2]) H') :
    HCall Try.prog base 17 #[.int .u64 p, .int .i64 t, .slice A n c, .slice A' n' c', .slice A'' n'' c''] H K := by
  have e1 := ha.1
  have e2 := hb.1
  have e3 := hr.1
  subst e1 e2 e3
  rw [vs_length] at hc
  have htt : t * t ≤ 10000 := Nat.mul_le_mul t2 t2
  have hpf := X.proveF_eq hp (t := t) a b r t1 (by omega) (by omega) (by omega) (by omega) (by omega)
  have lD : (ms (pD t r (pL t a b))).length = t := by rw [ms_length, pD_len]
  have lC : (vs (pC t r (pL t a b))).length = t + 1 := by rw [vs_length, pC_len (pL_len t a b)]
  have mz : ∀ {x : Nat}, x ≤ 10000 → x ≤ maxLen := fun h => by unfold maxLen; omega
  refine HCall.fresh (Q := fun W W' v => ∃ v0 v1, v = .tuple #[v0, v1] ∧ Kd.S (Kd.slice 22 (Kd.int .u64)) 23 W' W.heap.size (fun k_ => some k_ ≠ (v1 : Value).ownBlock) v0 (ms (pD t r (pL t a b))) ∧ Kd.R (Kd.int .u64) 22 W' W.heap.size (fun k_ => some k_ ≠ (v0 : Value).ownBlock) v1 (vs (pC t r (pL t a b)))) (enters Try.func17 (by kernel_rfl)) (fun W hs hb' => ?_) (fun W W' v hs hb' hq X => ?_)
  · have := X.prove_calls' (p : Int) (t : Int) A c (vs a) A' c' (vs b) A'' c'' (vs r) _ _ W (kd_row hs ha (by rw [vs_length]; exact mz (by omega))) (kd_row hs hb (by rw [vs_length]; exact mz (by omega))) (kd_row hs hr (by rw [vs_length]; exact mz (by omega))) (by rw [vs_length]; exact hc) hpf
    exact this.mono fun e W' ⟨v0, v1, h1, h2, h3, h4⟩ => ⟨_, h1, ⟨v0, v1, rfl, h2, h3⟩, h4⟩
  · obtain ⟨v0, v1, rfl, k0, k1⟩ := hq
    obtain ⟨A1, c1, rfl, hc1, M⟩ := mat_more (H := H) hb' k0
    obtain ⟨A2, c2, rfl, o2⟩ := row_more (H := H) hb' k1
    obtain ⟨A3, c3, e3, hc3, _⟩ := o2.slice
    cases e3
    have R2 := o2.row
    rw [lD] at M
    rw [lC] at R2
    have := hk A1 c1 A2 c2 _ X M R2 (by rw [lC] at hc3; exact hc3)
    rw [lD, lC]
    exact this
end
end Go.Proofs.Ytjkggiemnfigbaa.HL
end
section
set_option linter.unusedVariables false
set_option linter.unusedSimpArgs false
set_option linter.unusedSectionVars false
set_option maxHeartbeats 1000000
namespace Go.Proofs.Ytjkggiemnfigbaa.HL
open Go Go.Proofs.YtjkggiemnfigbaaNum Go.Proofs.Ytjkggiemnfigbaa.FEv
section
variable {base : Nat} {H H' F : HH} {v : Value} {b : Nat}
theorem Own.same {T sz n : Nat} {xs : List Value} (h : Own base H T sz v n xs) (hb : v.ownBlock ≠ some b) (he : ∀ k, k ≠ b → H' k = H k) : Own base H' T sz v n xs :=
  h.move (fun g o hg ho => by rw [he g (fun e => hb (by rw [hg, e]))]; exact ho)
theorem Frz.same (h : Frz F H v) (hF : F b = none) (he : ∀ k, k ≠ b → H' k = H k) : Frz F H' v :=
  ⟨fun k o hk => by rw [he k (fun e => by rw [e, hF] at hk; cases hk)]; exact h.ext k o hk, h.off⟩
end
section
end
end Go.Proofs.Ytjkggiemnfigbaa.HL
end
section
set_option linter.unusedVariables false
set_option linter.unusedSimpArgs false
set_option linter.unusedSectionVars false
set_option maxHeartbeats 1000000
namespace Go.Proofs.Ytjkggiemnfigbaa.HL
open Go Go.Proofs.YtjkggiemnfigbaaNum Go.Proofs.Ytjkggiemnfigbaa.FEv
section
end
section
variable {base : Nat} {H : HH}
/-- A set of words. -/
def SetW (H : HH) (b : Nat) (xs : List Int) : Prop := ∃ (es : Array MapEntry) (clock : Nat), H b = some (.map es clock) ∧ es.toList.map (fun e => (e.key, e.val)) = xs.map fun x => (Value.int .u64 x, Value.bool true)
end
end Go.Proofs.Ytjkggiemnfigbaa.HL
end
section
set_option linter.unusedVariables false
set_option linter.unusedSimpArgs false
set_option linter.unusedSectionVars false
set_option maxHeartbeats 1000000
namespace Go.Proofs.Ytjkggiemnfigbaa.HL
open Go Go.Proofs.YtjkggiemnfigbaaNum Go.Proofs.Ytjkggiemnfigbaa.FEv
theorem SetW.ext {H H' : HH} {b : Nat} {xs : List Int} (h : SetW H b xs) (he : Ext H H') : SetW H' b xs := by
  obtain ⟨es, c, h1, h2⟩ := h
  exact ⟨es, c, he _ _ h1, h2⟩
section
end
section
end
end Go.Proofs.Ytjkggiemnfigbaa.HL
end
section
set_option linter.unusedVariables false
set_option linter.unusedSimpArgs false
set_option linter.unusedSectionVars false
set_option maxHeartbeats 2000000
namespace Go.Proofs.Ytjkggiemnfigbaa.HL
open Go Go.Proofs.YtjkggiemnfigbaaNum Go.Proofs.Ytjkggiemnfigbaa.FEv
section
variable {p : Nat} [NeZero p] {base : Nat} {H : HH} {K : Value → HH → Prop} {A A' : Option Addr} {n n' c c' : Nat}
theorem mk_succ {α : Type} (f : Nat → α) (i : Nat) : (List.range (i + 1)).map f = (List.range i).map f ++ [f i] := by rw [List.range_succ, List.map_append]; rfl
theorem row_lit {x : Int} {C : Value → HH → Prop} (hk : ∀ A' H', Ext H H' → Rd H' A' [.int .u64 x] → C (.slice A' 1 1) H') : HRun Try.prog base (Instr.buildSlice 23 1 #[(0, .int .u64 x)]) H C := by
  have hfill : Instr.fill (fun i => some (i * 1, 1)) (madeCells (Value.int .u64 0).cells (1 * 1)) [(0, .int .u64 x)] = some #[.int .u64 x] := by
    simp [Instr.fill, madeCells, Value.cells, show Array.range 1 = #[0] from by decide]
  refine h_lit (sz := 1) (z := .int .u64 0) (cs := #[.int .u64 x]) un32 (by kernel_rfl) (by decide) hfill (by decide) (fun gb hgb hbase => hk _ _ (Ext.upd hgb _) (.inr ⟨_, rfl, fun i w hw => ?_⟩))
  match i, hw with
  | 0, hw =>
    cases hw
    show cellH _ ((⟨gb, 0, none⟩ : Addr).add 0) = _
    simp [Addr.add, cellH, upd_self]
theorem row_lit0 {C : Value → HH → Prop} (hk : ∀ A' c' H', Ext H H' → Own base H' 22 1 (.slice A' 0 c') 0 [] → Fresh H (.slice A' 0 c') → C (.slice A' 0 c') H') : HRun Try.prog base (Instr.buildSlice 23 0 #[]) H C := by
  refine h_lit0 (sz := 1) un32 (by rw [info22]) (fun b hb hbase => ?_)
  refine hk _ _ _ (Ext.upd hb _) (by simpa using Own.lit (H := H) (T := 22) (sz := 1) hbase #[] 0 (by decide) (by simp)) (fun b' hb' => ?_)
  have e : b = b' := by simpa [Value.ownBlock] using hb'
  rw [← e]; exact hb
/-- Words that are read are appended to a row of the call's own. -/
theorem h_appR {ty : Nat} {v : Value} {F : HH} {k m : Nat} {l f : List (Fin p)} {B : Option Addr} {d : Nat} (ho : Own base H 22 1 v k (us (vs l))) (hf : Frz F H v) (hm : m = f.length) (hl : k + m ≤ 100000) (hr : Rd H B (us (vs f))) {C : Option Addr → Nat → Nat → HH → Prop} (hk : ∀ A' c' H', Own base H' 22 1 (.slice A' (k + m) c') (k + m) (us (vs (l ++ f))) → Frz F H' (.slice A' (k + m) c') → C A' (k + m) c' H') :
    HRun Try.prog base (Builtin.append_ #[23, 23] ty #[v, .slice B m d]) H fun v H1 => ∃ (A' : Option Addr) (l' c' : Nat), v = .slice A' l' c' ∧ C A' l' c' H1 := by
  refine h_app (m := m) (ys := us (vs f)) un32 inf22 rfl (by decide) ho hr (by simp [hm]) (fun u hu => by obtain ⟨x, _, rfl⟩ := List.mem_map.1 hu; rfl) (fun e => ?_) (by omega) (by decide) (fun A' c' H' ho g => ⟨_, _, _, rfl, hk A' c' H' ?_ (hf.grow g)⟩)
  · rcases hr with e2 | ⟨ad, e2, _⟩
    · rw [hm]; simpa [us, vs] using e2
    · rw [e] at e2; cases e2
  · have : us (vs l) ++ us (vs f) = us (vs (l ++ f)) := by simp [us, vs]
    rwa [this] at ho
theorem Row.le_take {H : HH} {A : Option Addr} {n k : Nat} {l : List (Fin p)} (h : Row H A n (vs l)) (hk : k ≤ l.length) : Row H A k (vs (l.take k)) := by
  refine ⟨by simp; omega, ?_⟩
  have := h.2.take k
  unfold us vs at this ⊢
  rwa [← List.map_take, ← List.map_take] at this
end
end Go.Proofs.Ytjkggiemnfigbaa.HL
end
namespace Go.Proofs.Ytjkggiemnfigbaa.HL
end Go.Proofs.Ytjkggiemnfigbaa.HL
namespace Go.Proofs.Ytjkggiemnfigbaa.HL
end Go.Proofs.Ytjkggiemnfigbaa.HL
section
set_option linter.unusedVariables false
set_option linter.unusedSimpArgs false
set_option linter.unusedSectionVars false
set_option maxHeartbeats 4000000
namespace Go.Proofs.Ytjkggiemnfigbaa.HL
open Go Go.Proofs.YtjkggiemnfigbaaNum Go.Proofs.Ytjkggiemnfigbaa.FEv
theorem aq_eqbP {P : Program} {t : TypeId} (ht : P.underlying t = some .bool) {x y : Operand} (u v : Bool) : AQ P (binSem .eql t x y (.bool u) (.bool v)) (.bool (u == v)) := fun W => by
  have e : (Op.equal t (.bool u) (.bool v)).run P W = .ok (u == v) W := by
    show (Op.equalIn (_ + 1) t (.bool u) (.bool v)).run P W = _
    unfold Op.equalIn
    simp [run_under ht]
  have e2 : (eqGuard .eql t x y (.bool u) (.bool v)).run P W = .ok () W := by
    unfold eqGuard
    cases u <;> cases v <;> simp [bind, Sem.bind, pure, Sem.run]
  unfold binSem
  simp [binOp, e, e2]
theorem unBoP : Try.prog.underlying 4 = some .bool := by kernel_rfl
section
variable {p : Nat} [NeZero p] {base : Nat} {H : HH} {K : Value → HH → Prop} {A A' : Option Addr} {n n' c c' : Nat}
theorem vsum_step (x : Fin p) (i : Nat) (f : Nat → Fin p) (w : Fin p) : w - vsum x i f - x ^ (i + 1) * f i = w - vsum x (i + 1) f := by
  unfold vsum
  show _ = w - (sumF i _ + _)
  grind
theorem vsum_nil (x : Fin p) (f : Nat → Fin p) (w : Fin p) : w = w - vsum x 0 f := by unfold vsum; show w = w - 0; grind
theorem V_beq (a b : Fin p) : (V a == V b) = decide (a = b) := by
  by_cases h : a = b
  · rw [h]; simp
  · have : V a ≠ V b := fun e => h (V_inj.1 e)
    simp [h, this]
theorem h_verify (hp : Sup p) (x a b y : Fin p) {d : List (Fin p)} (h : Row H A n (vs d)) (hz : d.length ≤ 1000) (hk : K (.bool (decide (a * b - vsum x d.length (cf d) = y))) H) : HCall Try.prog base 22 #[.int .u64 p, .int .u64 (V x), .int .u64 (V a), .int .u64 (V b), .slice A n c, .int .u64 (V y)] H K := by
  refine productproof_Verify.spec ?_
  unfold productproof_Verify.sh
  have e1 := h.1
  rw [vs_length] at e1
  have hx := V64 hp x
  refine h_mul hp _ _ ⟨_, rfl, h_reduce1 hp _ hx.1 (by omega) ⟨_, rfl, ?_⟩⟩
  rw [E_V]
  refine productproof_Verify.loop0 (fun k y1 y2 y3 H' => H' = H ∧ ∃ i : Nat, y3 = i ∧ i ≤ n ∧ k = n - i ∧ y1 = V (a * b - vsum x i (cf d)) ∧ y2 = V (x ^ (i + 1))) n ⟨rfl, 0, rfl, Nat.zero_le _, rfl, by rw [← vsum_nil], by rw [pw_one]⟩ ?_
  rintro k y1 y2 y3 g H' ⟨rfl, i, rfl, hi, rfl, rfl, rfl⟩
  unfold productproof_Verify.B0
  split
  · rename_i e
    have e := of_decide_eq_true e
    obtain ⟨a1, q1, q2⟩ := h.at c (i := i) (by omega) e
    rw [Int.toNat_natCast, vs_get] at q2
    refine ⟨a1, q1, _, q2, h_mul hp _ _ ⟨_, rfl, h_sub hp _ _ ⟨_, rfl, h_mul hp _ _ ⟨_, rfl, ?_⟩⟩⟩⟩
    exact ⟨n - i - 1, by omega, _, _, _, rfl, rfl, rfl, rfl, i + 1, nxt (n := n) (by omega) (by unfold maxLen; omega), by omega, by omega, by rw [vsum_step], by rw [pw_succ x (i + 1)]⟩
  · rename_i e
    have e : ¬ ((i : Int) < (n : Int)) := fun h => e (decide_eq_true h)
    have : i = d.length := by omega
    subst this
    rw [V_beq]
    exact hk
/-- The values of the rows at x. -/
def valsL (ds : List (List (Fin p))) (x : Fin p) : List (Fin p) := ds.map (fun d => peval d x)
@[simp] theorem valsL_len (ds : List (List (Fin p))) (x : Fin p) : (valsL ds x).length = ds.length := by simp [valsL]
theorem cf_valsL (ds : List (List (Fin p))) (x : Fin p) (i : Nat) : cf (valsL ds x) i = peval (rowN ds i) x := by
  unfold cf valsL rowN
  rw [List.getD_eq_getElem?_getD, List.getD_eq_getElem?_getD, List.getElem?_map]
  cases ds[i]? with
  | none => rfl
  | some d => rfl
theorem h_vals (hp : Sup p) {ds : List (List (Fin p))} (h : Mat H A n (ms ds)) (hz : Sm ds) (x : Fin p) (hk : ∀ A1 c1 H', Ext H H' → Row H' A1 ds.length (vs (valsL ds x)) → K (.slice A1 ds.length c1) H') : HCall Try.prog base 24 #[.int .u64 p, .slice A n c, .int .u64 (V x)] H K := by
  refine privitylaw21_valuesAt.spec ?_
  unfold privitylaw21_valuesAt.sh
  have e1 := h.1
  rw [ms_length] at e1
  have hz1 := hz.1
  refine privitylaw21_valuesAt.loop0 (fun k A1 l1 c1 y H' => ∃ j : Nat, y = j ∧ j ≤ n ∧ k = n - j ∧ l1 = j ∧ Own base H' 22 1 (.slice A1 j c1) j (us (vs ((ds.take j).map fun d => peval d x))) ∧ Frz H H' (.slice A1 j c1)) n ⟨0, rfl, Nat.zero_le _, by omega, rfl, Own.nil _ _ _ _, Frz.nil _⟩ ?_
  rintro k A1 l1 c1 y g H' ⟨j, rfl, hj, hm', rfl, ho, hf⟩
  unfold privitylaw21_valuesAt.B0
  split
  · rename_i e
    have e := of_decide_eq_true e
    obtain ⟨a1, q1, A2, c2, q2, q3⟩ := (h.ext hf.ext).at c (i := l1) (by omega) e
    rw [Int.toNat_natCast, ms_get] at q3 q2
    refine ⟨a1, q1, _, _, _, q2, ?_⟩
    refine h_eval hp q3 (hz.row (by omega)) x ⟨_, rfl, ?_⟩
    refine h_push un32 inf22 rfl (by decide) rfl ho (by omega) (fun A3 c3 H3 ho3 g3 => ?_)
    refine ⟨k - 1, by omega, _, _, _, _, rfl, rfl, l1 + 1, nxt (n := n) (by omega) (by unfold maxLen; omega), by omega, by omega, rfl, ?_, hf.grow g3⟩
    rw [take_succ_map _ (d := []) (by omega), vs_snoc, us_snoc]
    exact ho3
  · rename_i e
    have e : ¬ ((l1 : Int) < (n : Int)) := fun h => e (decide_eq_true h)
    have : l1 = ds.length := by omega
    subst this
    rw [List.take_of_length_le (Nat.le_refl _)] at ho
    exact hk _ _ _ hf.ext ho.row
end
abbrev tCase : Nat := 25
theorem fz (b j : Nat) (hj : j < 5) : AQ Try.prog (Instr.fieldAt tCase (.pointer (some ⟨b, 0, none⟩)) j) (.pointer (some ⟨b, j, none⟩)) := by
  match j, hj with
  | 0, _ => have := aq_fld (P := Try.prog) (s := tCase) (f := 0) (off := 0) (sz := 1) (by kernel_rfl) (by decide) ⟨b, 0, none⟩; rwa [add0] at this
  | 1, _ => have := aq_fld (P := Try.prog) (s := tCase) (f := 1) (off := 1) (sz := 1) (by kernel_rfl) (by decide) ⟨b, 0, none⟩; rwa [add0] at this
  | 2, _ => have := aq_fld (P := Try.prog) (s := tCase) (f := 2) (off := 2) (sz := 1) (by kernel_rfl) (by decide) ⟨b, 0, none⟩; rwa [add0] at this
  | 3, _ => have := aq_fld (P := Try.prog) (s := tCase) (f := 3) (off := 3) (sz := 1) (by kernel_rfl) (by decide) ⟨b, 0, none⟩; rwa [add0] at this
  | 4, _ => have := aq_fld (P := Try.prog) (s := tCase) (f := 4) (off := 4) (sz := 1) (by kernel_rfl) (by decide) ⟨b, 0, none⟩; rwa [add0] at this
/-- What lies in a case's variable. -/
def ZB (H : HH) (b : Nat) (P T : Int) (A2 : Option Addr) (n2 c2 : Nat) (A3 : Option Addr) (n3 c3 : Nat) (A4 : Option Addr) (n4 c4 : Nat) : Prop := H b = some (.cells #[.int .u64 P, .int .i64 T, .slice A2 n2 c2, .slice A3 n3 c3, .slice A4 n4 c4] tCase (0, 0))
section
variable {base : Nat} {H : HH} {K : Value → HH → Prop} {A2 A3 A4 : Option Addr} {n2 n3 n4 c2 c3 c4 b : Nat} {P T : Int} {la lb lr : List Int}
theorem ZB.ext {H' : HH} (h : ZB H b P T A2 n2 c2 A3 n3 c3 A4 n4 c4) (he : Ext H H') : ZB H' b P T A2 n2 c2 A3 n3 c3 A4 n4 c4 := he _ _ h
theorem ZB.zp (h : ZB H b P T A2 n2 c2 A3 n3 c3 A4 n4 c4) : QRun Try.prog (Instr.loadAt 22 (.pointer (some ⟨b, 0, none⟩))) H (.int .u64 P) := q_ld sc22 (by rw [cellH_blk h]; rfl)
theorem ZB.zt (h : ZB H b P T A2 n2 c2 A3 n3 c3 A4 n4 c4) : QRun Try.prog (Instr.loadAt 3 (.pointer (some ⟨b, 1, none⟩))) H (.int .i64 T) := q_ld sc3 (by rw [cellH_blk h]; rfl)
theorem ZB.za (h : ZB H b P T A2 n2 c2 A3 n3 c3 A4 n4 c4) : QRun Try.prog (Instr.loadAt 23 (.pointer (some ⟨b, 2, none⟩))) H (.slice A2 n2 c2) := q_ld sc32 (by rw [cellH_blk h]; rfl)
theorem ZB.zb (h : ZB H b P T A2 n2 c2 A3 n3 c3 A4 n4 c4) : QRun Try.prog (Instr.loadAt 23 (.pointer (some ⟨b, 3, none⟩))) H (.slice A3 n3 c3) := q_ld sc32 (by rw [cellH_blk h]; rfl)
theorem ZB.zr (h : ZB H b P T A2 n2 c2 A3 n3 c3 A4 n4 c4) : QRun Try.prog (Instr.loadAt 23 (.pointer (some ⟨b, 4, none⟩))) H (.slice A4 n4 c4) := q_ld sc32 (by rw [cellH_blk h]; rfl)
theorem ZB.all (h : ZB H b P T A2 n2 c2 A3 n3 c3 A4 n4 c4) : QRun Try.prog (Instr.loadAt tCase (.pointer (some ⟨b, 0, none⟩))) H (.agg #[.int .u64 P, .int .i64 T, .slice A2 n2 c2, .slice A3 n3 c3, .slice A4 n4 c4]) :=
  q_lda (cs := [.int .u64 P, .int .i64 T, .slice A2 n2 c2, .slice A3 n3 c3, .slice A4 n4 c4]) (by kernel_rfl) (by kernel_rfl) (fun j u hu => by
    rw [add0, cellH_blk h, ← Array.getElem?_toList]
    exact hu)
theorem h_zbox (hk : ∀ b H', Ext H H' → ZB H' b P T A2 n2 c2 A3 n3 c3 A4 n4 c4 → K (.pointer (some ⟨b, 0, none⟩)) H') : HRun Try.prog base (Instr.box tCase (.agg #[.int .u64 P, .int .i64 T, .slice A2 n2 c2, .slice A3 n3 c3, .slice A4 n4 c4])) H K :=
  h_box (fun b hb hbase => hk b _ (Ext.upd hb _) (upd_self _ _ _))
/-- A valid case. -/
structure VC (P T : Int) (la lb lr : List Int) (q : Nat) [NeZero q] (t : Nat) (a b r : List (Fin q)) : Prop where
  sup : Sup q
  ep : P = q
  et : T = t
  ea : la = vs a
  eb : lb = vs b
  er : lr = vs r
  t1 : 1 ≤ t
  t4 : t ≤ 4
  al : a.length = t + 1
  bl : b.length = t + 1
  rl : r.length = t * t
theorem liftV {q : Nat} [NeZero q] {l : List Int} (h : ∀ x ∈ l, 0 ≤ x) (h2 : ∀ x ∈ l, x < (q : Int)) : vs (l.map E : List (Fin q)) = l := by
  unfold vs
  rw [List.map_map]
  conv => rhs; rw [← List.map_id l]
  exact List.map_congr_left (fun x hx => V_E_lt (h x hx) (h2 x hx))
theorem below_of {p most : Int} {l : List Int} (h : belowB p l most = true) : (l.length : Int) ≤ most ∧ ∀ x ∈ l, x < p := by
  unfold belowB at h
  rw [Bool.and_eq_true, List.all_eq_true] at h
  exact ⟨of_decide_eq_true h.1, fun x hx => of_decide_eq_true (h.2 x hx)⟩
theorem h_vcase (ha : Row H A2 n2 la) (hb : Row H A3 n3 lb) (hr : Row H A4 n4 lr) (na : ∀ x ∈ la, 0 ≤ x) (nb : ∀ x ∈ lb, 0 ≤ x) (nr : ∀ x ∈ lr, 0 ≤ x) (ma : la.length ≤ maxLen) (mb : lb.length ≤ maxLen) (mr : lr.length ≤ maxLen)
    (hk1 : ∀ (q : Nat) (_ : NeZero q) (t : Nat) (a b r : List (Fin q)), VC P T la lb lr q t a b r → ∀ H', Ext H H' → K (.bool true) H') (hk2 : ∀ H', Ext H H' → K (.bool false) H') :
    HCall Try.prog base 15 #[.agg #[.int .u64 P, .int .i64 T, .slice A2 n2 c2, .slice A3 n3 c3, .slice A4 n4 c4]] H K := by
  refine privitylaw21_validCase.spec ?_
  unfold privitylaw21_validCase.sh
  refine h_zbox (fun b H1 X1 zb => ⟨_, rfl, _, fz b 0 (by decide), _, zb.zp, h_sup P ⟨_, rfl, ?_⟩⟩)
  split
  rotate_left
  · exact hk2 H1 X1
  rename_i e0
  refine ⟨_, fz b 1 (by decide), _, zb.zt, ?_⟩
  split
  rotate_left
  · exact hk2 H1 X1
  rename_i e1
  have e1 := of_decide_eq_true e1
  refine ⟨_, fz b 1 (by decide), _, zb.zt, ?_⟩
  split
  rotate_left
  · exact hk2 H1 X1
  rename_i e2
  have e2 := of_decide_eq_true e2
  refine ⟨_, fz b 2 (by decide), _, _, _, zb.za, _, fz b 1 (by decide), _, zb.zt, ?_⟩
  split
  rotate_left
  · exact hk2 H1 X1
  rename_i e3
  refine ⟨_, fz b 3 (by decide), _, _, _, zb.zb, _, fz b 1 (by decide), _, zb.zt, ?_⟩
  split
  rotate_left
  · exact hk2 H1 X1
  rename_i e4
  refine ⟨_, fz b 4 (by decide), _, _, _, zb.zr, _, fz b 1 (by decide), _, zb.zt, _, fz b 1 (by decide), _, zb.zt, ?_⟩
  split
  rotate_left
  · exact hk2 H1 X1
  rename_i e5
  refine ⟨_, fz b 0 (by decide), _, zb.zp, _, fz b 2 (by decide), _, _, _, zb.za, h_below (ha.ext X1) ma ⟨_, rfl, ?_⟩⟩
  split
  rotate_left
  · exact hk2 H1 X1
  rename_i e6
  refine ⟨_, fz b 0 (by decide), _, zb.zp, _, fz b 3 (by decide), _, _, _, zb.zb, h_below (hb.ext X1) mb ⟨_, rfl, ?_⟩⟩
  split
  rotate_left
  · exact hk2 H1 X1
  rename_i e7
  refine ⟨_, fz b 0 (by decide), _, zb.zp, _, fz b 4 (by decide), _, _, _, zb.zr, h_below (hr.ext X1) mr ⟨_, rfl, ?_⟩⟩
  cases e8 : belowB P lr 16 with
  | false => exact hk2 H1 X1
  | true =>
    obtain ⟨q, hq, rfl⟩ := supB_iff.1 e0
    have hz := hq.ne
    obtain ⟨_, b6⟩ := below_of e6
    obtain ⟨_, b7⟩ := below_of e7
    obtain ⟨_, b8⟩ := below_of e8
    have l2 := ha.1
    have l3 := hb.1
    have l4 := hr.1
    have w1 : IntKind.i64.wrap (T + 1) = T + 1 := w64 (by omega) (by omega)
    rw [w1] at e3 e4
    have e3 : (n2 : Int) = T + 1 := by simpa using e3
    have e4 : (n3 : Int) = T + 1 := by simpa using e4
    have hT : T = 1 ∨ T = 2 ∨ T = 3 ∨ T = 4 := by omega
    have e5' : (n4 : Int) = T * T := by
      have e5 : (n4 : Int) = IntKind.i64.wrap (T * T) := by simpa using e5
      rcases hT with rfl | rfl | rfl | rfl <;> (rw [w64 (by decide) (by decide)] at e5; exact e5)
    have htt : T.toNat * T.toNat = n4 := by
      rcases hT with rfl | rfl | rfl | rfl <;> (simp at e5' ⊢; omega)
    exact hk1 q hz T.toNat (la.map E) (lb.map E) (lr.map E) ⟨hq, rfl, by omega, (liftV na b6).symm, (liftV nb b7).symm, (liftV nr b8).symm, by omega, by omega, by rw [List.length_map]; omega, by rw [List.length_map]; omega, by rw [List.length_map]; omega⟩ H1 X1
theorem row_lit2 {x y : Int} {C : Value → HH → Prop} (hk : ∀ A' H', Ext H H' → Row H' A' 2 [x, y] → C (.slice A' 2 2) H') : HRun Try.prog base (Instr.buildSlice 23 2 #[(0, .int .u64 x), (1, .int .u64 y)]) H C := by
  have hfill : Instr.fill (fun i => some (i * 1, 1)) (madeCells (Value.int .u64 0).cells (2 * 1)) [(0, .int .u64 x), (1, .int .u64 y)] = some #[.int .u64 x, .int .u64 y] := by kernel_rfl
  refine h_lit (sz := 1) (z := .int .u64 0) (cs := #[.int .u64 x, .int .u64 y]) un32 (by kernel_rfl) (by decide) hfill (by decide) (fun gb hgb hbase => ?_)
  have ho := Own.lit (H := H) (T := 22) (sz := 1) hbase #[.int .u64 x, .int .u64 y] 2 (by decide) (by simp)
  exact hk _ _ (Ext.upd hgb _) (Own.row (l := [x, y]) ho)
theorem row_lit1 {x : Int} {C : Value → HH → Prop} (hk : ∀ A' H', Ext H H' → Row H' A' 1 [x] → C (.slice A' 1 1) H') : HRun Try.prog base (Instr.buildSlice 23 1 #[(0, .int .u64 x)]) H C :=
  row_lit (fun A' H' X r => hk A' H' X ⟨rfl, r⟩)
theorem mat_lit1 {A : Option Addr} {n c : Nat} {l : List Int} (h : Row H A n l) {C : Value → HH → Prop} (hk : ∀ A' H', Ext H H' → Mat H' A' 1 [l] → C (.slice A' 1 1) H') : HRun Try.prog base (Instr.buildSlice 28 1 #[(0, .slice A n c)]) H C := by
  have hfill : Instr.fill (fun i => some (i * 1, 1)) (madeCells (Value.slice none 0 0).cells (1 * 1)) [(0, .slice A n c)] = some #[.slice A n c] := by kernel_rfl
  refine h_lit (sz := 1) (z := .slice none 0 0) (cs := #[.slice A n c]) un23 (by kernel_rfl) (by decide) hfill (by decide) (fun gb hgb hbase => ?_)
  have X : Ext H (upd H gb (.cells #[.slice A n c] 23)) := Ext.upd hgb _
  refine hk _ _ X ⟨rfl, [.slice A n c], rfl, .inr ⟨_, rfl, fun i u hu => ?_⟩, fun i l' hl => ?_⟩
  · rw [add0, cellH_blk (upd_self _ _ _), ← Array.getElem?_toList]
    exact hu
  · have hi := (List.getElem?_eq_some_iff.1 hl).1
    have : i = 0 := by simp at hi; exact hi
    subst this
    have : l = l' := by simpa using hl
    subst this
    exact ⟨A, c, by rw [h.1]; rfl, h.2.ext X⟩
theorem sup31P : Sup 31 := .inl rfl
theorem h_awakeP (hk : ∀ H', Ext H H' → K (.bool true) H') : HCall Try.prog base 16 #[] H K := by
  refine privitylaw21_awake.spec ?_
  unfold privitylaw21_awake.sh
  refine row_lit2 (fun A1 H1 X1 r1 => ⟨_, _, _, rfl, row_lit2 (fun A2 H2 X2 r2 => ⟨_, _, _, rfl, row_lit1 (fun A3 H3 X3 r3 => ⟨_, _, _, rfl, ?_⟩)⟩)⟩)
  have ra : Row H3 A1 2 (vs ([2, 3] : List (Fin 31))) := (r1.ext X2).ext X3
  have rb : Row H3 A2 2 (vs ([4, 5] : List (Fin 31))) := r2.ext X3
  have rr : Row H3 A3 1 (vs ([7] : List (Fin 31))) := r3
  refine h_prove (p := 31) (t := 1) sup31P ra rb rr (by decide) (by decide) rfl rfl rfl (by decide) (fun A4 c4 A5 c5 H4 X4 M4 R5 _ => ⟨_, _, _, _, _, _, rfl, ?_⟩)
  have eD : ms (pD 1 ([7] : List (Fin 31)) (pL 1 [2, 3] [4, 5])) = [[7, 15]] := by decide +kernel
  have eC : vs (pC 1 ([7] : List (Fin 31)) (pL 1 [2, 3] [4, 5])) = [8, 15] := by decide +kernel
  rw [eD] at M4
  rw [eC] at R5
  refine row_lit2 (fun A6 H6 X6 r6 => ⟨_, _, _, rfl, mat_lit1 r6 (fun A7 H7 X7 m7 => ⟨_, _, _, rfl, ?_⟩)⟩)
  refine h_same (M4.mat.ext (X6.trans X7)) m7 (by decide) (by decide) ⟨_, rfl, ?_⟩
  rw [if_pos (by decide)]
  refine row_lit2 (fun A8 H8 X8 r8 => ⟨_, _, _, rfl, ?_⟩)
  refine h_sameList (R5.ext (X6.trans (X7.trans X8))) r8 (by decide) ⟨_, rfl, ?_⟩
  rw [if_pos (by decide)]
  refine row_lit1 (fun A9 H9 X9 r9 => ⟨_, _, _, rfl, ?_⟩)
  have r9' : Row H9 A9 1 (vs ([6] : List (Fin 31))) := r9
  refine h_verify (p := 31) sup31P 2 8 14 7 r9' (by decide) ⟨_, rfl, ?_⟩
  rw [if_pos (by decide +kernel)]
  refine row_lit1 (fun A10 H10 X10 r10 => ⟨_, _, _, rfl, ?_⟩)
  have r10' : Row H10 A10 1 (vs ([6] : List (Fin 31))) := r10
  refine h_verify (p := 31) sup31P 2 8 14 8 r10' (by decide) ⟨_, rfl, ?_⟩
  have ef : (!decide ((8 : Fin 31) * 14 - vsum 2 ([6] : List (Fin 31)).length (cf [6]) = 8)) = true := by decide +kernel
  rw [ef]
  exact hk H10 (X1.trans (X2.trans (X3.trans (X4.trans (X6.trans (X7.trans (X8.trans (X9.trans X10))))))))
end
end Go.Proofs.Ytjkggiemnfigbaa.HL
end
section
set_option linter.unusedVariables false
set_option linter.unusedSimpArgs false
set_option linter.unusedSectionVars false
set_option maxHeartbeats 4000000
namespace Go.Proofs.Ytjkggiemnfigbaa.HL
open Go Go.Proofs.YtjkggiemnfigbaaNum Go.Proofs.Ytjkggiemnfigbaa.FEv
section
variable {base : Nat} {H0 H : HH} {A : Option Addr} {n c : Nat} {rs : List Value} {w : List (List Int)}
/-- Only a block has turned that is none of theirs. -/
theorem Rows.same (h : Rows base H0 H A n c rs w) {H' : HH} {g : Nat} (hn : H0 g = none) {cur : Array Value} {T : Nat} (hg : H g = some (.cells cur T (0, 0))) (hT : 23 ≠ T) (hd : ∀ (i : Nat) (v : Value), rs[i]? = some v → v.ownBlock ≠ some g) (he : ∀ k, k ≠ g → H' k = H k) : Rows base H0 H' A n c rs w where
  ext := fun b x hx => by rw [he b (fun e => by rw [e, hn] at hx; cases hx)]; exact h.ext b x hx
  own := h.own.same (h.own.tag hg hT) he
  fo := h.fo
  len := h.len
  rows := fun i l hl => by
    obtain ⟨A1, c1, h6, h7, h8⟩ := h.rows i l hl
    exact ⟨A1, c1, h6, h7.same (hd i _ h6) he, h8⟩
  dist := h.dist
theorem Rows.known (h : Rows base H0 H A n c rs w) {i : Nat} {v : Value} (hv : rs[i]? = some v) {b : Nat} (hb : v.ownBlock = some b) : ∃ cur, H b = some (.cells cur 22 (0, 0)) := by
  have hi : i < w.length := by
    have h1 := (List.getElem?_eq_some_iff.1 hv).1
    have h2 := h.own.1
    rw [h.len]; omega
  obtain ⟨A1, c1, h6, h7, _⟩ := h.rows i _ (List.getElem?_eq_getElem hi)
  rw [hv] at h6
  cases h6
  exact (h7.known hb).2
end
section
variable {p : Nat} [NeZero p] {base : Nat} {H : HH} {K : Value → HH → Prop} {A A' A'' : Option Addr} {n n' n'' c c' c'' : Nat}
/-- A row's free coefficients, and what is put behind them. -/
def roW (t : Nat) (r : List (Fin p)) (i : Nat) (x : Fin p) : List (Fin p) := (r.drop (i * t)).take t ++ [x]
theorem roW_len {t i : Nat} {r : List (Fin p)} (hr : r.length = t * t) (hi : i < t) (x : Fin p) : (roW t r i x).length = t + 1 := by
  have := Nat.mul_le_mul_right t (show i + 1 ≤ t from hi)
  rw [Nat.succ_mul] at this
  unfold roW
  rw [List.length_append, List.length_take, List.length_drop, List.length_singleton]; omega
theorem Row.sub {l : List Int} (h : Row H A n l) (hc : n ≤ c) {a b : Nat} (h1 : a ≤ b) (h2 : b ≤ l.length) : ∃ A' c', AQ Try.prog (Instr.sliceAt 23 (.slice A n c) (some (.int .i64 a)) (some (.int .i64 b)) none) (.slice A' (b - a) c') ∧ Row H A' (b - a) ((l.drop a).take (b - a)) ∧ b - a ≤ c' := by
  have e1 := h.1
  refine ⟨if c = a then A else A.map (·.add (a * 1)), c - a, fun W => ?_, ⟨by rw [List.length_take, List.length_drop]; omega, ?_⟩, by omega⟩
  · have he : Try.prog.elem 23 = 22 := by unfold Program.elem; rw [un32]
    have hh := run_slice_lh W 23 A n c (he.symm ▸ un32) .i64 .i64 a b (by omega) (by omega) (by omega)
    rw [run_sliceAt_slice W 23 _ _ _ _ (he.symm ▸ un32), hh, he, run_sz info22]
    simp only [Result.andThen, sliced, Int.toNat_natCast]
  · by_cases e : a = b
    · left
      rw [e, Nat.sub_self]
      rfl
    · rcases h.2 with h3 | ⟨ad, rfl, h3⟩
      · have := congrArg List.length h3
        rw [us_length] at this
        have : l.length = 0 := this
        omega
      · rw [if_neg (by omega)]
        refine .inr ⟨_, rfl, fun i u hu => ?_⟩
        rw [Nat.mul_one, addr_add']
        refine h3 _ u ?_
        unfold us at hu ⊢
        rw [List.map_take, List.map_drop, List.getElem?_take] at hu
        split at hu
        · rw [List.getElem?_drop] at hu; exact hu
        · cases hu
theorem vs_sub (f : List (Fin p)) (a b : Nat) : ((vs f).drop a).take b = vs ((f.drop a).take b) := by
  unfold vs
  rw [List.map_take, List.map_drop]
end
end Go.Proofs.Ytjkggiemnfigbaa.HL
end
namespace Go.Proofs.Ytjkggiemnfigbaa.HL
end Go.Proofs.Ytjkggiemnfigbaa.HL
section
set_option linter.unusedVariables false
set_option linter.unusedSimpArgs false
set_option maxRecDepth 100000
namespace Go.Proofs.Ytjkggiemnfigbaa.HL
open Go
def privitylaw21_ProductProofProve.ann : Ann := ⟨fun k => [], fun k => false, fun k => []⟩
def privitylaw21_ProductProofVerify.ann : Ann := ⟨fun k => bif Nat.beq k 3 then [] else bif Nat.beq k 8 then [] else [], fun k => false, fun k => bif Nat.beq k 6 then [0, 2, 7, 8, 9, 10, 11, 12] else []⟩
def privitylaw21_ProductProofZeroKnowledge.ann : Ann := ⟨fun k => bif Nat.beq k 9 then [] else bif Nat.beq k 20 then [4, 9, 10] else bif Nat.beq k 22 then [16] else bif Nat.beq k 23 then [] else [], fun k => false, fun k => bif Nat.beq k 5 then [1, 3, 4] else bif Nat.beq k 17 then [1, 3, 5, 6, 7, 8, 9, 10, 11, 12, 13, 14, 15] else []⟩
def privitylaw21_ProductProofZeroKnowledge.P1 (base : Nat) (l : List Value) (H0 : HH) (K : Value → HH → Prop) : Prop := HCodeL Try.prog base 280 (codeAt [.r, .r, .r, .r, .r, .r, .r, .r, .r, .r, .l, .r, .b] (bodyOf Try.f6)) [1, 3, 5, 6, 7, 8, 9, 10, 11, 12, 13, 14, 15] l H0 (qAt Try.prog base 280 privitylaw21_ProductProofZeroKnowledge.ann [.r, .r, .r, .r, .r, .r, .r, .r, .r, .r, .l, .r, .b] [] (bodyOf Try.f6) (retQ Try.prog 280 Try.f6 K))
def privitylaw21_ProductProofZeroKnowledge.L1 (base : Nat) (x1 x3 : Addr) (x5 x6 : Int) (Ax7 : Option Addr) (lx7 cx7 : Nat) (Ax8 : Option Addr) (lx8 cx8 : Nat) (Ax9 : Option Addr) (lx9 cx9 : Nat) (Ax10 : Option Addr) (lx10 cx10 : Nat) (Ax11 : Option Addr) (lx11 cx11 : Nat) (Ax12 : Option Addr) (lx12 cx12 : Nat) (Ax13 : Option Addr) (lx13 cx13 : Nat) (Ax14 : Option Addr) (lx14 cx14 : Nat) (y15 : Int) (H0 : HH) (K : Value → HH → Prop) : Prop := privitylaw21_ProductProofZeroKnowledge.P1 base [(.pointer ((some x1))), (.pointer ((some x3))), (.int .u64 x5), (.int .u64 x6), (.slice Ax7 lx7 cx7), (.slice Ax8 lx8 cx8), (.slice Ax9 lx9 cx9), (.slice Ax10 lx10 cx10), (.slice Ax11 lx11 cx11), (.slice Ax12 lx12 cx12), (.slice Ax13 lx13 cx13), (.slice Ax14 lx14 cx14), (.int .i64 y15)] H0 K
def privitylaw21_ProductProofZeroKnowledge.B1 (base : Nat) (x1 x3 : Addr) (x5 x6 : Int) (Ax7 : Option Addr) (lx7 cx7 : Nat) (Ax8 : Option Addr) (lx8 cx8 : Nat) (Ax9 : Option Addr) (lx9 cx9 : Nat) (Ax10 : Option Addr) (lx10 cx10 : Nat) (Ax11 : Option Addr) (lx11 cx11 : Nat) (Ax12 : Option Addr) (lx12 cx12 : Nat) (Ax13 : Option Addr) (lx13 cx13 : Nat) (Ax14 : Option Addr) (lx14 cx14 : Nat) (y15 : Int) (g : Fr) (N1 : Value → HH → Prop) (H0 : HH) (K : Value → HH → Prop) : Prop :=
 ∃ a121 : Addr, AQ Try.prog (Instr.fieldAt 44 (.pointer ((some x1))) 1) (.pointer ((some a121))) ∧
 ∃ (A122 : Option Addr) (l122 c122 : Nat), QRun Try.prog (Instr.loadAt 23 (.pointer ((some a121)))) H0 (.slice A122 l122 c122) ∧
 if (decide ((y15 : Int) < (((l122 : Nat) : Int)))) = true then
 ∃ a123 : Addr, AQ Try.prog (Instr.fieldAt 44 (.pointer ((some x1))) 1) (.pointer ((some a123))) ∧
 ∃ (A124 : Option Addr) (l124 c124 : Nat), QRun Try.prog (Instr.loadAt 23 (.pointer ((some a123)))) H0 (.slice A124 l124 c124) ∧
 ∃ a125 : Addr, AQ Try.prog (Instr.indexAt 23 (.slice A124 l124 c124) (.int .i64 y15)) (.pointer ((some a125))) ∧
 ∃ n126 : Int, QRun Try.prog (Instr.loadAt 22 (.pointer ((some a125)))) H0 (.int .u64 n126) ∧
 ∃ a127 : Addr, AQ Try.prog (Instr.fieldAt 25 (.pointer ((some x3))) 0) (.pointer ((some a127))) ∧
 ∃ n128 : Int, QRun Try.prog (Instr.loadAt 22 (.pointer ((some a127)))) H0 (.int .u64 n128) ∧
 ∃ a129 : Addr, AQ Try.prog (Instr.fieldAt 25 (.pointer ((some x3))) 0) (.pointer ((some a129))) ∧
 ∃ n130 : Int, QRun Try.prog (Instr.loadAt 22 (.pointer ((some a129)))) H0 (.int .u64 n130) ∧
 HCall Try.prog base 24 #[(.int .u64 n128), (.slice Ax11 lx11 cx11), (.int .u64 n126)] H0 fun v131 H132 =>
 ∃ (A133 : Option Addr) (l133 c133 : Nat), v131 = (.slice A133 l133 c133) ∧ QRun Try.prog (Instr.loadAt 22 (.pointer ((some a129)))) H132 (.int .u64 n130) ∧
 HCall Try.prog base 24 #[(.int .u64 n130), (.slice Ax13 lx13 cx13), (.int .u64 n126)] H132 fun v134 H135 =>
 ∃ (A136 : Option Addr) (l136 c136 : Nat), v134 = (.slice A136 l136 c136) ∧ HCall Try.prog base 20 #[(.slice A133 l133 c133), (.slice A136 l136 c136)] H135 fun v137 H138 =>
 ∃ b139 : Bool, v137 = (.bool b139) ∧ if (!b139) = false then
 ∃ a140 : Addr, AQ Try.prog (Instr.fieldAt 25 (.pointer ((some x3))) 0) (.pointer ((some a140))) ∧
 ∃ n141 : Int, QRun Try.prog (Instr.loadAt 22 (.pointer ((some a140)))) H138 (.int .u64 n141) ∧
 ∃ n142 : Int, HCall Try.prog base 23 #[(.int .u64 n141), (.slice Ax12 lx12 cx12), (.int .u64 n126)] H138 (fun v_ H_ => v_ = (.int .u64 n142) ∧ H_ = H138) ∧
 ∃ a143 : Addr, AQ Try.prog (Instr.fieldAt 25 (.pointer ((some x3))) 0) (.pointer ((some a143))) ∧
 ∃ n144 : Int, QRun Try.prog (Instr.loadAt 22 (.pointer ((some a143)))) H138 (.int .u64 n144) ∧
 ∃ n145 : Int, HCall Try.prog base 23 #[(.int .u64 n144), (.slice Ax14 lx14 cx14), (.int .u64 n126)] H138 (fun v_ H_ => v_ = (.int .u64 n145) ∧ H_ = H138) ∧
 if ((n142 : Int) != n145) = false then
 ∃ a146 : Addr, AQ Try.prog (Instr.fieldAt 25 (.pointer ((some x3))) 0) (.pointer ((some a146))) ∧
 ∃ n147 : Int, QRun Try.prog (Instr.loadAt 22 (.pointer ((some a146)))) H138 (.int .u64 n147) ∧
 ∃ n148 : Int, HCall Try.prog base 23 #[(.int .u64 n147), (.slice Ax8 lx8 cx8), (.int .u64 n126)] H138 (fun v_ H_ => v_ = (.int .u64 n148) ∧ H_ = H138) ∧
 ∃ a149 : Addr, AQ Try.prog (Instr.fieldAt 25 (.pointer ((some x3))) 0) (.pointer ((some a149))) ∧
 ∃ n150 : Int, QRun Try.prog (Instr.loadAt 22 (.pointer ((some a149)))) H138 (.int .u64 n150) ∧
 ∃ a151 : Addr, AQ Try.prog (Instr.fieldAt 25 (.pointer ((some x3))) 2) (.pointer ((some a151))) ∧
 ∃ (A152 : Option Addr) (l152 c152 : Nat), QRun Try.prog (Instr.loadAt 23 (.pointer ((some a151)))) H138 (.slice A152 l152 c152) ∧
 ∃ n153 : Int, HCall Try.prog base 23 #[(.int .u64 n150), (.slice A152 l152 c152), (.int .u64 n126)] H138 (fun v_ H_ => v_ = (.int .u64 n153) ∧ H_ = H138) ∧
 if ((n148 : Int) != n153) = false then
 ∃ a154 : Addr, AQ Try.prog (Instr.fieldAt 25 (.pointer ((some x3))) 0) (.pointer ((some a154))) ∧
 ∃ n155 : Int, QRun Try.prog (Instr.loadAt 22 (.pointer ((some a154)))) H138 (.int .u64 n155) ∧
 ∃ n156 : Int, HCall Try.prog base 23 #[(.int .u64 n155), (.slice Ax9 lx9 cx9), (.int .u64 n126)] H138 (fun v_ H_ => v_ = (.int .u64 n156) ∧ H_ = H138) ∧
 ∃ a157 : Addr, AQ Try.prog (Instr.fieldAt 25 (.pointer ((some x3))) 0) (.pointer ((some a157))) ∧
 ∃ n158 : Int, QRun Try.prog (Instr.loadAt 22 (.pointer ((some a157)))) H138 (.int .u64 n158) ∧
 ∃ a159 : Addr, AQ Try.prog (Instr.fieldAt 25 (.pointer ((some x3))) 3) (.pointer ((some a159))) ∧
 ∃ (A160 : Option Addr) (l160 c160 : Nat), QRun Try.prog (Instr.loadAt 23 (.pointer ((some a159)))) H138 (.slice A160 l160 c160) ∧
 ∃ n161 : Int, HCall Try.prog base 23 #[(.int .u64 n158), (.slice A160 l160 c160), (.int .u64 n126)] H138 (fun v_ H_ => v_ = (.int .u64 n161) ∧ H_ = H138) ∧
 if ((n156 : Int) != n161) = true then
 K (.bool false) H138
 else
 N1 (.int .i64 ((IntKind.i64.wrap (y15 + 1)))) H138
 else
 K (.bool false) H138
 else
 K (.bool false) H138
 else
 K (.bool false) H138
 else
 ∃ a162 : Addr, AQ Try.prog (Instr.fieldAt 25 (.pointer ((some x3))) 0) (.pointer ((some a162))) ∧
 ∃ n163 : Int, QRun Try.prog (Instr.loadAt 22 (.pointer ((some a162)))) H0 (.int .u64 n163) ∧
 ∃ a164 : Addr, AQ Try.prog (Instr.fieldAt 25 (.pointer ((some x3))) 1) (.pointer ((some a164))) ∧
 ∃ n165 : Int, QRun Try.prog (Instr.loadAt 3 (.pointer ((some a164)))) H0 (.int .i64 n165) ∧
 ∃ a166 : Addr, AQ Try.prog (Instr.fieldAt 25 (.pointer ((some x3))) 0) (.pointer ((some a166))) ∧
 ∃ n167 : Int, QRun Try.prog (Instr.loadAt 22 (.pointer ((some a166)))) H0 (.int .u64 n167) ∧
 ∃ n168 : Int, HCall Try.prog base 30 #[(.int .u64 n167), (.int .u64 x5)] H0 (fun v_ H_ => v_ = (.int .u64 n168) ∧ H_ = H0) ∧
 ∃ a169 : Addr, AQ Try.prog (Instr.fieldAt 25 (.pointer ((some x3))) 0) (.pointer ((some a169))) ∧
 ∃ n170 : Int, QRun Try.prog (Instr.loadAt 22 (.pointer ((some a169)))) H0 (.int .u64 n170) ∧
 ∃ n171 : Int, HCall Try.prog base 30 #[(.int .u64 n170), (.int .u64 x6)] H0 (fun v_ H_ => v_ = (.int .u64 n171) ∧ H_ = H0) ∧
 HCall Try.prog base 29 #[(.int .u64 n163), (.int .i64 n165), (.slice Ax8 lx8 cx8), (.slice Ax9 lx9 cx9), (.slice Ax10 lx10 cx10), (.slice Ax7 lx7 cx7), (.int .u64 n168), (.int .u64 n171)] H0 fun v172 H173 =>
 ∃ (A174 : Option Addr) (l174 c174 : Nat), ∃ (A175 : Option Addr) (l175 c175 : Nat), ∃ (A176 : Option Addr) (l176 c176 : Nat), v172 = (.tuple #[(.slice A174 l174 c174), (.slice A175 l175 c175), (.slice A176 l176 c176)]) ∧ ∃ a177 : Addr, AQ Try.prog (Instr.fieldAt 25 (.pointer ((some x3))) 0) (.pointer ((some a177))) ∧
 ∃ n178 : Int, QRun Try.prog (Instr.loadAt 22 (.pointer ((some a177)))) H173 (.int .u64 n178) ∧
 ∃ a179 : Addr, AQ Try.prog (Instr.fieldAt 25 (.pointer ((some x3))) 0) (.pointer ((some a179))) ∧
 ∃ n180 : Int, QRun Try.prog (Instr.loadAt 22 (.pointer ((some a179)))) H173 (.int .u64 n180) ∧
 ∃ a181 : Addr, AQ Try.prog (Instr.fieldAt 25 (.pointer ((some x3))) 2) (.pointer ((some a181))) ∧
 ∃ (A182 : Option Addr) (l182 c182 : Nat), QRun Try.prog (Instr.loadAt 23 (.pointer ((some a181)))) H173 (.slice A182 l182 c182) ∧
 ∃ a183 : Addr, AQ Try.prog (Instr.indexAt 23 (.slice A182 l182 c182) (.int .i64 0)) (.pointer ((some a183))) ∧
 ∃ n184 : Int, QRun Try.prog (Instr.loadAt 22 (.pointer ((some a183)))) H173 (.int .u64 n184) ∧
 ∃ n185 : Int, HCall Try.prog base 31 #[(.int .u64 n180), (.int .u64 n184), (.int .u64 x5)] H173 (fun v_ H_ => v_ = (.int .u64 n185) ∧ H_ = H173) ∧
 ∃ a186 : Addr, AQ Try.prog (Instr.fieldAt 25 (.pointer ((some x3))) 0) (.pointer ((some a186))) ∧
 ∃ n187 : Int, QRun Try.prog (Instr.loadAt 22 (.pointer ((some a186)))) H173 (.int .u64 n187) ∧
 ∃ a188 : Addr, AQ Try.prog (Instr.fieldAt 25 (.pointer ((some x3))) 3) (.pointer ((some a188))) ∧
 ∃ (A189 : Option Addr) (l189 c189 : Nat), QRun Try.prog (Instr.loadAt 23 (.pointer ((some a188)))) H173 (.slice A189 l189 c189) ∧
 ∃ a190 : Addr, AQ Try.prog (Instr.indexAt 23 (.slice A189 l189 c189) (.int .i64 0)) (.pointer ((some a190))) ∧
 ∃ n191 : Int, QRun Try.prog (Instr.loadAt 22 (.pointer ((some a190)))) H173 (.int .u64 n191) ∧
 ∃ n192 : Int, HCall Try.prog base 31 #[(.int .u64 n187), (.int .u64 n191), (.int .u64 x6)] H173 (fun v_ H_ => v_ = (.int .u64 n192) ∧ H_ = H173) ∧
 ∃ n193 : Int, HCall Try.prog base 21 #[(.int .u64 n178), (.int .u64 n185), (.int .u64 n192)] H173 (fun v_ H_ => v_ = (.int .u64 n193) ∧ H_ = H173) ∧
 HCall Try.prog base 16 #[] H173 fun v194 H195 =>
 ∃ b196 : Bool, v194 = (.bool b196) ∧ if b196 = true then
 ∃ a197 : Addr, AQ Try.prog (Instr.indexAt 23 (.slice Ax14 lx14 cx14) (.int .i64 0)) (.pointer ((some a197))) ∧
 ∃ n198 : Int, QRun Try.prog (Instr.loadAt 22 (.pointer ((some a197)))) H195 (.int .u64 n198) ∧
 if ((n198 : Int) == n193) = true then
 ∃ a199 : Addr, AQ Try.prog (Instr.fieldAt 25 (.pointer ((some x3))) 2) (.pointer ((some a199))) ∧
 ∃ (A200 : Option Addr) (l200 c200 : Nat), QRun Try.prog (Instr.loadAt 23 (.pointer ((some a199)))) H195 (.slice A200 l200 c200) ∧
 HCall Try.prog base 20 #[(.slice A174 l174 c174), (.slice A200 l200 c200)] H195 fun v201 H202 =>
 ∃ b203 : Bool, v201 = (.bool b203) ∧ if b203 = true then
 ∃ a204 : Addr, AQ Try.prog (Instr.fieldAt 25 (.pointer ((some x3))) 3) (.pointer ((some a204))) ∧
 ∃ (A205 : Option Addr) (l205 c205 : Nat), QRun Try.prog (Instr.loadAt 23 (.pointer ((some a204)))) H202 (.slice A205 l205 c205) ∧
 HCall Try.prog base 20 #[(.slice A175 l175 c175), (.slice A205 l205 c205)] H202 fun v206 H207 =>
 ∃ b208 : Bool, v206 = (.bool b208) ∧ if b208 = true then
 ∃ a209 : Addr, AQ Try.prog (Instr.fieldAt 25 (.pointer ((some x3))) 4) (.pointer ((some a209))) ∧
 ∃ (A210 : Option Addr) (l210 c210 : Nat), QRun Try.prog (Instr.loadAt 23 (.pointer ((some a209)))) H207 (.slice A210 l210 c210) ∧
 HCall Try.prog base 20 #[(.slice A176 l176 c176), (.slice A210 l210 c210)] H207 fun v211 H212 =>
 ∃ b213 : Bool, v211 = (.bool b213) ∧ K (.bool b213) H212
 else
 K (.bool false) H207
 else
 K (.bool false) H202
 else
 K (.bool false) H195
 else
 K (.bool false) H195
def privitylaw21_ProductProofChange.ann : Ann := ⟨fun k => bif Nat.beq k 9 then [] else bif Nat.beq k 14 then [9, 15, 16, 25, 26] else bif Nat.beq k 20 then [5, 19, 20, 21] else bif Nat.beq k 22 then [0, 3, 12, 13, 14] else [], fun k => false, fun k => bif Nat.beq k 5 then [1, 3, 4] else bif Nat.beq k 18 then [3, 7, 11, 12, 13, 14, 15, 16] else []⟩
def privitylaw21_ProductProofChange.P1 (base : Nat) (l : List Value) (H0 : HH) (K : Value → HH → Prop) : Prop := HCodeL Try.prog base 201 (codeAt [.r, .r, .r, .r, .r, .r, .r, .r, .r, .r, .r, .l, .r, .b] (bodyOf Try.f14)) [3, 7, 11, 12, 13, 14, 15, 16] l H0 (qAt Try.prog base 201 privitylaw21_ProductProofChange.ann [.r, .r, .r, .r, .r, .r, .r, .r, .r, .r, .r, .l, .r, .b] [] (bodyOf Try.f14) (retQ Try.prog 201 Try.f14 K))
def privitylaw21_ProductProofChange.L1 (base : Nat) (x3 : Addr) (Ax7 : Option Addr) (lx7 cx7 : Nat) (Ax11 : Option Addr) (lx11 cx11 : Nat) (Ax12 : Option Addr) (lx12 cx12 : Nat) (Ax13 : Option Addr) (lx13 cx13 : Nat) (Ax14 : Option Addr) (lx14 cx14 : Nat) (Ax15 : Option Addr) (lx15 cx15 : Nat) (y16 : Int) (H0 : HH) (K : Value → HH → Prop) : Prop := privitylaw21_ProductProofChange.P1 base [(.pointer ((some x3))), (.slice Ax7 lx7 cx7), (.slice Ax11 lx11 cx11), (.slice Ax12 lx12 cx12), (.slice Ax13 lx13 cx13), (.slice Ax14 lx14 cx14), (.slice Ax15 lx15 cx15), (.int .i64 y16)] H0 K
def privitylaw21_ProductProofChange.B1 (base : Nat) (x3 : Addr) (Ax7 : Option Addr) (lx7 cx7 : Nat) (Ax11 : Option Addr) (lx11 cx11 : Nat) (Ax12 : Option Addr) (lx12 cx12 : Nat) (Ax13 : Option Addr) (lx13 cx13 : Nat) (Ax14 : Option Addr) (lx14 cx14 : Nat) (Ax15 : Option Addr) (lx15 cx15 : Nat) (y16 : Int) (g : Fr) (N1 : Value → HH → Prop) (H0 : HH) (K : Value → HH → Prop) : Prop :=
 ∃ a149 : Addr, AQ Try.prog (Instr.fieldAt 25 (.pointer ((some x3))) 1) (.pointer ((some a149))) ∧
 ∃ n150 : Int, QRun Try.prog (Instr.loadAt 3 (.pointer ((some a149)))) H0 (.int .i64 n150) ∧
 if (decide ((y16 : Int) ≤ n150)) = true then
 ∃ a151 : Addr, AQ Try.prog (Instr.indexAt 28 (.slice Ax13 lx13 cx13) (.int .i64 ((IntKind.i64.wrap (y16 - 1))))) (.pointer ((some a151))) ∧
 ∃ (A152 : Option Addr) (l152 c152 : Nat), QRun Try.prog (Instr.loadAt 23 (.pointer ((some a151)))) H0 (.slice A152 l152 c152) ∧
 ∃ a153 : Addr, AQ Try.prog (Instr.fieldAt 25 (.pointer ((some x3))) 0) (.pointer ((some a153))) ∧
 ∃ n154 : Int, QRun Try.prog (Instr.loadAt 22 (.pointer ((some a153)))) H0 (.int .u64 n154) ∧
 ∃ a155 : Addr, AQ Try.prog (Instr.indexAt 28 (.slice Ax11 lx11 cx11) (.int .i64 ((IntKind.i64.wrap (y16 - 1))))) (.pointer ((some a155))) ∧
 ∃ (A156 : Option Addr) (l156 c156 : Nat), QRun Try.prog (Instr.loadAt 23 (.pointer ((some a155)))) H0 (.slice A156 l156 c156) ∧
 ∃ a157 : Addr, AQ Try.prog (Instr.fieldAt 25 (.pointer ((some x3))) 0) (.pointer ((some a157))) ∧
 ∃ n158 : Int, QRun Try.prog (Instr.loadAt 22 (.pointer ((some a157)))) H0 (.int .u64 n158) ∧
 HCall Try.prog base 42 #[(.slice A152 l152 c152)] H0 fun v159 H160 =>
 ∃ (A161 : Option Addr) (l161 c161 : Nat), v159 = (.slice A161 l161 c161) ∧ QRun Try.prog (Instr.loadAt 22 (.pointer ((some a157)))) H160 (.int .u64 n158) ∧
 QRun Try.prog (Instr.loadAt 23 (.pointer ((some a155)))) H160 (.slice A156 l156 c156) ∧
 QRun Try.prog (Instr.loadAt 22 (.pointer ((some a153)))) H160 (.int .u64 n154) ∧
 ∃ n162 : Int, HCall Try.prog base 45 #[(.slice Ax15 lx15 cx15), (.int .i64 y16)] H160 (fun v_ H_ => v_ = (.int .u64 n162) ∧ H_ = H160) ∧
 HCall Try.prog base 48 #[(.int .u64 n158), (.int .u64 n162), (.slice Ax7 lx7 cx7)] H160 fun v163 H164 =>
 ∃ (A165 : Option Addr) (l165 c165 : Nat), v163 = (.slice A165 l165 c165) ∧ QRun Try.prog (Instr.loadAt 23 (.pointer ((some a155)))) H164 (.slice A156 l156 c156) ∧
 QRun Try.prog (Instr.loadAt 22 (.pointer ((some a153)))) H164 (.int .u64 n154) ∧
 HCall Try.prog base 47 #[(.int .u64 n154), (.slice A156 l156 c156), (.slice A165 l165 c165)] H164 fun v166 H167 =>
 ∃ (A168 : Option Addr) (l168 c168 : Nat), v166 = (.slice A168 l168 c168) ∧ HCall Try.prog base 20 #[(.slice A161 l161 c161), (.slice A168 l168 c168)] H167 fun v169 H170 =>
 ∃ b171 : Bool, v169 = (.bool b171) ∧ if (!b171) = true then
 K (.bool false) H170
 else
 N1 (.int .i64 ((IntKind.i64.wrap (y16 + 1)))) H170
 else
 HCall Try.prog base 16 #[] H0 fun v172 H173 =>
 ∃ b174 : Bool, v172 = (.bool b174) ∧ if b174 = true then
 ∃ a175 : Addr, AQ Try.prog (Instr.fieldAt 25 (.pointer ((some x3))) 0) (.pointer ((some a175))) ∧
 ∃ n176 : Int, QRun Try.prog (Instr.loadAt 22 (.pointer ((some a175)))) H173 (.int .u64 n176) ∧
 ∃ a177 : Addr, AQ Try.prog (Instr.fieldAt 25 (.pointer ((some x3))) 0) (.pointer ((some a177))) ∧
 ∃ n178 : Int, QRun Try.prog (Instr.loadAt 22 (.pointer ((some a177)))) H173 (.int .u64 n178) ∧
 HCall Try.prog base 42 #[(.slice Ax14 lx14 cx14)] H173 fun v179 H180 =>
 ∃ (A181 : Option Addr) (l181 c181 : Nat), v179 = (.slice A181 l181 c181) ∧ QRun Try.prog (Instr.loadAt 22 (.pointer ((some a177)))) H180 (.int .u64 n178) ∧
 QRun Try.prog (Instr.loadAt 22 (.pointer ((some a175)))) H180 (.int .u64 n176) ∧
 ∃ n182 : Int, HCall Try.prog base 45 #[(.slice Ax15 lx15 cx15), (.int .i64 0)] H180 (fun v_ H_ => v_ = (.int .u64 n182) ∧ H_ = H180) ∧
 HCall Try.prog base 48 #[(.int .u64 n178), (.int .u64 n182), (.slice Ax7 lx7 cx7)] H180 fun v183 H184 =>
 ∃ (A185 : Option Addr) (l185 c185 : Nat), v183 = (.slice A185 l185 c185) ∧ QRun Try.prog (Instr.loadAt 22 (.pointer ((some a175)))) H184 (.int .u64 n176) ∧
 HCall Try.prog base 47 #[(.int .u64 n176), (.slice Ax12 lx12 cx12), (.slice A185 l185 c185)] H184 fun v186 H187 =>
 ∃ (A188 : Option Addr) (l188 c188 : Nat), v186 = (.slice A188 l188 c188) ∧ HCall Try.prog base 20 #[(.slice A181 l181 c181), (.slice A188 l188 c188)] H187 fun v189 H190 =>
 ∃ b191 : Bool, v189 = (.bool b191) ∧ K (.bool b191) H190
 else
 K (.bool false) H173
def privitylaw21_ProductProofUnique.ann : Ann := ⟨fun k => bif Nat.beq k 11 then [29] else bif Nat.beq k 13 then [1, 14, 19, 20, 21, 22] else bif Nat.beq k 14 then [] else bif Nat.beq k 20 then [21] else [], fun k => bif Nat.beq k 14 then true else false, fun k => bif Nat.beq k 9 then [1, 2, 3, 7, 8, 9, 10, 11] else bif Nat.beq k 14 then [1, 2, 3, 7, 8, 9, 10, 11] else bif Nat.beq k 17 then [1, 3, 8, 9, 10, 12, 13] else []⟩
def privitylaw21_ProductProofUnique.P0 (base : Nat) (l : List Value) (H0 : HH) (K : Value → HH → Prop) : Prop := HCodeL Try.prog base 193 (codeAt [.r, .r, .r, .r, .r, .r, .l, .r, .b] (bodyOf Try.f7)) [1, 2, 3, 7, 8, 9, 10, 11] l H0 (qAt Try.prog base 193 privitylaw21_ProductProofUnique.ann [.r, .r, .r, .r, .r, .r, .l, .r, .b] [] (bodyOf Try.f7) (retQ Try.prog 193 Try.f7 K))
def privitylaw21_ProductProofUnique.P1 (base : Nat) (l : List Value) (H0 : HH) (K : Value → HH → Prop) : Prop := HCodeL Try.prog base 193 (codeAt [.r, .r, .r, .r, .r, .r, .r, .r, .l, .r, .b] (bodyOf Try.f7)) [1, 3, 8, 9, 10, 12, 13] l H0 (qAt Try.prog base 193 privitylaw21_ProductProofUnique.ann [.r, .r, .r, .r, .r, .r, .r, .r, .l, .r, .b] [] (bodyOf Try.f7) (retQ Try.prog 193 Try.f7 K))
def privitylaw21_ProductProofUnique.R0 (base : Nat) (N0 : Value → Value → Value → HH → Prop) (l : List Value) (H0 : HH) (K : Value → HH → Prop) : Prop := HCodeL Try.prog base 193 (codeAt [.r, .r, .r, .r, .r, .r, .l, .r, .b, .lp, .r, .l, .b, .r, .r] (bodyOf Try.f7)) [1, 2, 3, 7, 8, 9, 10, 11] l H0 (qAt Try.prog base 193 privitylaw21_ProductProofUnique.ann [.r, .r, .r, .r, .r, .r, .l, .r, .b, .lp, .r, .l, .b, .r, .r] [fun fr H => N0 (fr 9) (fr 10) (fr 11) H] (bodyOf Try.f7) (retQ Try.prog 193 Try.f7 K))
def privitylaw21_ProductProofUnique.S0 (base : Nat) (N0 : Value → Value → Value → HH → Prop) (Ax1 : Option Addr) (lx1 cx1 : Nat) (Ax2 : Option Addr) (lx2 cx2 : Nat) (x3 : Addr) (Ax7 : Option Addr) (lx7 cx7 : Nat) (Ax8 : Option Addr) (lx8 cx8 : Nat) (x9 : Bool) (Ax10 : Option Addr) (lx10 cx10 : Nat) (x11 : Int) (H0 : HH) (K : Value → HH → Prop) : Prop :=
 if x9 = true then
 ∃ a169 : Addr, AQ Try.prog (Instr.indexAt 23 (.slice Ax2 lx2 cx2) (.int .i64 x11)) (.pointer ((some a169))) ∧
 ∃ n170 : Int, QRun Try.prog (Instr.loadAt 22 (.pointer ((some a169)))) H0 (.int .u64 n170) ∧
 ∃ a171 : Addr, AQ Try.prog (Instr.indexAt 28 (.slice Ax7 lx7 cx7) (.int .i64 x11)) (.pointer ((some a171))) ∧
 ∃ (A172 : Option Addr) (l172 c172 : Nat), QRun Try.prog (Instr.loadAt 23 (.pointer ((some a171)))) H0 (.slice A172 l172 c172) ∧
 ∃ a173 : Addr, AQ Try.prog (Instr.fieldAt 25 (.pointer ((some x3))) 1) (.pointer ((some a173))) ∧
 ∃ n174 : Int, QRun Try.prog (Instr.loadAt 3 (.pointer ((some a173)))) H0 (.int .i64 n174) ∧
 ∃ a175 : Addr, AQ Try.prog (Instr.indexAt 23 (.slice A172 l172 c172) (.int .i64 n174)) (.pointer ((some a175))) ∧
 ∃ n176 : Int, QRun Try.prog (Instr.loadAt 22 (.pointer ((some a175)))) H0 (.int .u64 n176) ∧
 N0 (.bool (((n170 : Int) == n176))) (.slice Ax10 lx10 cx10) (.int .i64 ((IntKind.i64.wrap (x11 + 1)))) H0
 else
 N0 (.bool false) (.slice Ax10 lx10 cx10) (.int .i64 ((IntKind.i64.wrap (x11 + 1)))) H0
def privitylaw21_ProductProofUnique.T0 (base : Nat) (N0 : Value → Value → Value → HH → Prop) (Ax1 : Option Addr) (lx1 cx1 : Nat) (Ax2 : Option Addr) (lx2 cx2 : Nat) (x3 : Addr) (Ax7 : Option Addr) (lx7 cx7 : Nat) (Ax8 : Option Addr) (lx8 cx8 : Nat) (x9 : Bool) (Ax10 : Option Addr) (lx10 cx10 : Nat) (x11 : Int) (H0 : HH) (K : Value → HH → Prop) : Prop := privitylaw21_ProductProofUnique.S0 base N0 Ax1 lx1 cx1 Ax2 lx2 cx2 x3 Ax7 lx7 cx7 Ax8 lx8 cx8 x9 Ax10 lx10 cx10 x11 H0 K
theorem privitylaw21_ProductProofUnique.rest0 {base : Nat} {N0 : Value → Value → Value → HH → Prop} {Ax1 : Option Addr} {lx1 cx1 : Nat} {Ax2 : Option Addr} {lx2 cx2 : Nat} {x3 : Addr} {Ax7 : Option Addr} {lx7 cx7 : Nat} {Ax8 : Option Addr} {lx8 cx8 : Nat} {x9 : Bool} {Ax10 : Option Addr} {lx10 cx10 : Nat} {x11 : Int} {H0 : HH} {K : Value → HH → Prop} (h : privitylaw21_ProductProofUnique.S0 base N0 Ax1 lx1 cx1 Ax2 lx2 cx2 x3 Ax7 lx7 cx7 Ax8 lx8 cx8 x9 Ax10 lx10 cx10 x11 H0 K) : privitylaw21_ProductProofUnique.R0 base N0 [(.slice Ax1 lx1 cx1), (.slice Ax2 lx2 cx2), (.pointer ((some x3))), (.slice Ax7 lx7 cx7), (.slice Ax8 lx8 cx8), (.bool x9), (.slice Ax10 lx10 cx10), (.int .i64 x11)] H0 K := by
  refine wpCL_sound (ann := privitylaw21_ProductProofUnique.ann) mix (fun fr ⟨e1, e2, e3, e7, e8, e9, e10, e11, _⟩ => ?_)
  rw [← ov_eq (g := fr) [(1, (.slice Ax1 lx1 cx1)), (2, (.slice Ax2 lx2 cx2)), (3, (.pointer ((some x3)))), (7, (.slice Ax7 lx7 cx7)), (8, (.slice Ax8 lx8 cx8)), (9, (.bool x9)), (10, (.slice Ax10 lx10 cx10)), (11, (.int .i64 x11))] (by simp only [List.mem_cons, List.not_mem_nil, or_false, forall_eq_or_imp, forall_eq, false_implies, implies_true]; exact ⟨e1, e2, e3, e7, e8, e9, e10, e11⟩)]
  exact cast (show privitylaw21_ProductProofUnique.S0 base N0 Ax1 lx1 cx1 Ax2 lx2 cx2 x3 Ax7 lx7 cx7 Ax8 lx8 cx8 x9 Ax10 lx10 cx10 x11 H0 K = wpC Try.prog base 193 privitylaw21_ProductProofUnique.ann (codeAt [.r, .r, .r, .r, .r, .r, .l, .r, .b, .lp, .r, .l, .b, .r, .r] (bodyOf Try.f7)) (ov fr [(1, (.slice Ax1 lx1 cx1)), (2, (.slice Ax2 lx2 cx2)), (3, (.pointer ((some x3)))), (7, (.slice Ax7 lx7 cx7)), (8, (.slice Ax8 lx8 cx8)), (9, (.bool x9)), (10, (.slice Ax10 lx10 cx10)), (11, (.int .i64 x11))]) H0 (qAt Try.prog base 193 privitylaw21_ProductProofUnique.ann [.r, .r, .r, .r, .r, .r, .l, .r, .b, .lp, .r, .l, .b, .r, .r] [fun fr H => N0 (fr 9) (fr 10) (fr 11) H] (bodyOf Try.f7) (retQ Try.prog 193 Try.f7 K)) by kernel_rfl) h
theorem privitylaw21_ProductProofUnique.cut0 {base : Nat} {N0 : Value → Value → Value → HH → Prop} {Ax1 : Option Addr} {lx1 cx1 : Nat} {Ax2 : Option Addr} {lx2 cx2 : Nat} {x3 : Addr} {Ax7 : Option Addr} {lx7 cx7 : Nat} {Ax8 : Option Addr} {lx8 cx8 : Nat} {x9 : Bool} {Ax10 : Option Addr} {lx10 cx10 : Nat} {x11 : Int} {H0 : HH} {K : Value → HH → Prop} (h : privitylaw21_ProductProofUnique.T0 base N0 Ax1 lx1 cx1 Ax2 lx2 cx2 x3 Ax7 lx7 cx7 Ax8 lx8 cx8 x9 Ax10 lx10 cx10 x11 H0 K) : privitylaw21_ProductProofUnique.R0 base N0 [(.slice Ax1 lx1 cx1), (.slice Ax2 lx2 cx2), (.pointer ((some x3))), (.slice Ax7 lx7 cx7), (.slice Ax8 lx8 cx8), (.bool x9), (.slice Ax10 lx10 cx10), (.int .i64 x11)] H0 K := privitylaw21_ProductProofUnique.rest0 h
def privitylaw21_ProductProofUnique.L1 (base : Nat) (Ax1 : Option Addr) (lx1 cx1 : Nat) (x3 : Addr) (Ax8 : Option Addr) (lx8 cx8 : Nat) (x9 : Bool) (Ax10 : Option Addr) (lx10 cx10 : Nat) (y12 : Bool) (y13 : Int) (H0 : HH) (K : Value → HH → Prop) : Prop := privitylaw21_ProductProofUnique.P1 base [(.slice Ax1 lx1 cx1), (.pointer ((some x3))), (.slice Ax8 lx8 cx8), (.bool x9), (.slice Ax10 lx10 cx10), (.bool y12), (.int .i64 y13)] H0 K
def privitylaw21_ProductProofUnique.sh (base : Nat) (x0_0 : Int) (x0_1 : Int) (Ax0_2 : Option Addr) (lx0_2 cx0_2 : Nat) (Ax0_3 : Option Addr) (lx0_3 cx0_3 : Nat) (Ax0_4 : Option Addr) (lx0_4 cx0_4 : Nat) (Ax1 : Option Addr) (lx1 cx1 : Nat) (Ax2 : Option Addr) (lx2 cx2 : Nat) (H0 : HH) (K : Value → HH → Prop) : Prop :=
 HRun Try.prog base (Instr.box 25 (.agg #[(.int .u64 x0_0), (.int .i64 x0_1), (.slice Ax0_2 lx0_2 cx0_2), (.slice Ax0_3 lx0_3 cx0_3), (.slice Ax0_4 lx0_4 cx0_4)])) H0 fun v1 H2 =>
 ∃ a3 : Addr, v1 = (.pointer ((some a3))) ∧ ∃ n4 : Int, ∃ n5 : Int, ∃ (A6 : Option Addr) (l6 c6 : Nat), ∃ (A7 : Option Addr) (l7 c7 : Nat), ∃ (A8 : Option Addr) (l8 c8 : Nat), QRun Try.prog (Instr.loadAt 25 (.pointer ((some a3)))) H2 (.agg #[(.int .u64 n4), (.int .i64 n5), (.slice A6 l6 c6), (.slice A7 l7 c7), (.slice A8 l8 c8)]) ∧
 HCall Try.prog base 15 #[(.agg #[(.int .u64 n4), (.int .i64 n5), (.slice A6 l6 c6), (.slice A7 l7 c7), (.slice A8 l8 c8)])] H2 fun v9 H10 =>
 ∃ b11 : Bool, v9 = (.bool b11) ∧ if (!b11) = false then
 ∃ a12 : Addr, AQ Try.prog (Instr.fieldAt 25 (.pointer ((some a3))) 1) (.pointer ((some a12))) ∧
 ∃ n13 : Int, QRun Try.prog (Instr.loadAt 3 (.pointer ((some a12)))) H10 (.int .i64 n13) ∧
 if ((((lx1 : Nat) : Int) : Int) != ((IntKind.i64.wrap (n13 + 1)))) = false then
 ∃ a14 : Addr, AQ Try.prog (Instr.fieldAt 25 (.pointer ((some a3))) 0) (.pointer ((some a14))) ∧
 ∃ n15 : Int, QRun Try.prog (Instr.loadAt 22 (.pointer ((some a14)))) H10 (.int .u64 n15) ∧
 HCall Try.prog base 26 #[(.int .u64 n15), (.slice Ax1 lx1 cx1), (.int .i64 5)] H10 fun v16 H17 =>
 ∃ b18 : Bool, v16 = (.bool b18) ∧ if (!b18) = false then
 ∃ a19 : Addr, AQ Try.prog (Instr.fieldAt 25 (.pointer ((some a3))) 1) (.pointer ((some a19))) ∧
 ∃ n20 : Int, QRun Try.prog (Instr.loadAt 3 (.pointer ((some a19)))) H17 (.int .i64 n20) ∧
 if ((((lx2 : Nat) : Int) : Int) != n20) = false then
 ∃ a21 : Addr, AQ Try.prog (Instr.fieldAt 25 (.pointer ((some a3))) 0) (.pointer ((some a21))) ∧
 ∃ n22 : Int, QRun Try.prog (Instr.loadAt 22 (.pointer ((some a21)))) H17 (.int .u64 n22) ∧
 HCall Try.prog base 26 #[(.int .u64 n22), (.slice Ax2 lx2 cx2), (.int .i64 5)] H17 fun v23 H24 =>
 ∃ b25 : Bool, v23 = (.bool b25) ∧ if (!b25) = true then
 HCall Try.prog base 16 #[] H24 fun v26 H27 =>
 ∃ b28 : Bool, v26 = (.bool b28) ∧ K (.bool b28) H27
 else
 ∃ a29 : Addr, AQ Try.prog (Instr.fieldAt 25 (.pointer ((some a3))) 0) (.pointer ((some a29))) ∧
 ∃ n30 : Int, QRun Try.prog (Instr.loadAt 22 (.pointer ((some a29)))) H24 (.int .u64 n30) ∧
 ∃ a31 : Addr, AQ Try.prog (Instr.fieldAt 25 (.pointer ((some a3))) 1) (.pointer ((some a31))) ∧
 ∃ n32 : Int, QRun Try.prog (Instr.loadAt 3 (.pointer ((some a31)))) H24 (.int .i64 n32) ∧
 ∃ a33 : Addr, AQ Try.prog (Instr.fieldAt 25 (.pointer ((some a3))) 2) (.pointer ((some a33))) ∧
 ∃ (A34 : Option Addr) (l34 c34 : Nat), QRun Try.prog (Instr.loadAt 23 (.pointer ((some a33)))) H24 (.slice A34 l34 c34) ∧
 ∃ a35 : Addr, AQ Try.prog (Instr.fieldAt 25 (.pointer ((some a3))) 3) (.pointer ((some a35))) ∧
 ∃ (A36 : Option Addr) (l36 c36 : Nat), QRun Try.prog (Instr.loadAt 23 (.pointer ((some a35)))) H24 (.slice A36 l36 c36) ∧
 ∃ a37 : Addr, AQ Try.prog (Instr.fieldAt 25 (.pointer ((some a3))) 4) (.pointer ((some a37))) ∧
 ∃ (A38 : Option Addr) (l38 c38 : Nat), QRun Try.prog (Instr.loadAt 23 (.pointer ((some a37)))) H24 (.slice A38 l38 c38) ∧
 HCall Try.prog base 17 #[(.int .u64 n30), (.int .i64 n32), (.slice A34 l34 c34), (.slice A36 l36 c36), (.slice A38 l38 c38)] H24 fun v39 H40 =>
 ∃ (A41 : Option Addr) (l41 c41 : Nat), ∃ (A42 : Option Addr) (l42 c42 : Nat), v39 = (.tuple #[(.slice A41 l41 c41), (.slice A42 l42 c42)]) ∧ ∃ a43 : Addr, AQ Try.prog (Instr.fieldAt 25 (.pointer ((some a3))) 1) (.pointer ((some a43))) ∧
 ∃ n44 : Int, QRun Try.prog (Instr.loadAt 3 (.pointer ((some a43)))) H40 (.int .i64 n44) ∧
 if ((((l41 : Nat) : Int) : Int) != n44) = true then
 K (.bool false) H40
 else
 privitylaw21_ProductProofUnique.P0 base [(.slice Ax1 lx1 cx1), (.slice Ax2 lx2 cx2), (.pointer ((some a3))), (.slice A41 l41 c41), (.slice A42 l42 c42), (.bool true), (.slice none 0 0), (.int .i64 0)] H40 K
 else
 HCall Try.prog base 16 #[] H17 fun v45 H46 =>
 ∃ b47 : Bool, v45 = (.bool b47) ∧ K (.bool b47) H46
 else
 HCall Try.prog base 16 #[] H17 fun v48 H49 =>
 ∃ b50 : Bool, v48 = (.bool b50) ∧ K (.bool b50) H49
 else
 HCall Try.prog base 16 #[] H10 fun v51 H52 =>
 ∃ b53 : Bool, v51 = (.bool b53) ∧ K (.bool b53) H52
 else
 HCall Try.prog base 16 #[] H10 fun v54 H55 =>
 ∃ b56 : Bool, v54 = (.bool b56) ∧ K (.bool b56) H55
theorem privitylaw21_ProductProofUnique.spec {base : Nat} {x0_0 : Int} {x0_1 : Int} {Ax0_2 : Option Addr} {lx0_2 cx0_2 : Nat} {Ax0_3 : Option Addr} {lx0_3 cx0_3 : Nat} {Ax0_4 : Option Addr} {lx0_4 cx0_4 : Nat} {Ax1 : Option Addr} {lx1 cx1 : Nat} {Ax2 : Option Addr} {lx2 cx2 : Nat} {H0 : HH} {K : Value → HH → Prop} (h : privitylaw21_ProductProofUnique.sh base x0_0 x0_1 Ax0_2 lx0_2 cx0_2 Ax0_3 lx0_3 cx0_3 Ax0_4 lx0_4 cx0_4 Ax1 lx1 cx1 Ax2 lx2 cx2 H0 K) : HCall Try.prog base 7 #[(.agg #[(.int .u64 x0_0), (.int .i64 x0_1), (.slice Ax0_2 lx0_2 cx0_2), (.slice Ax0_3 lx0_3 cx0_3), (.slice Ax0_4 lx0_4 cx0_4)]), (.slice Ax1 lx1 cx1), (.slice Ax2 lx2 cx2)] H0 K := spec_of_wpC (n := 193) (ann := privitylaw21_ProductProofUnique.ann) mix Try.func7 (by kernel_rfl) (cast (show privitylaw21_ProductProofUnique.sh base x0_0 x0_1 Ax0_2 lx0_2 cx0_2 Ax0_3 lx0_3 cx0_3 Ax0_4 lx0_4 cx0_4 Ax1 lx1 cx1 Ax2 lx2 cx2 H0 K = wpC Try.prog base 193 privitylaw21_ProductProofUnique.ann (bodyOf Try.f7) (ofL [(.agg #[(.int .u64 x0_0), (.int .i64 x0_1), (.slice Ax0_2 lx0_2 cx0_2), (.slice Ax0_3 lx0_3 cx0_3), (.slice Ax0_4 lx0_4 cx0_4)]), (.slice Ax1 lx1 cx1), (.slice Ax2 lx2 cx2)]) H0 (retQ Try.prog 193 Try.f7 K) by kernel_rfl) h)
def privitylaw21_ProductProofUnique.B0 (base : Nat) (Ax1 : Option Addr) (lx1 cx1 : Nat) (Ax2 : Option Addr) (lx2 cx2 : Nat) (x3 : Addr) (Ax7 : Option Addr) (lx7 cx7 : Nat) (Ax8 : Option Addr) (lx8 cx8 : Nat) (y9 : Bool) (Ay10 : Option Addr) (ly10 cy10 : Nat) (y11 : Int) (g : Fr) (N0 : Value → Value → Value → HH → Prop) (H0 : HH) (K : Value → HH → Prop) : Prop :=
 ∃ a57 : Addr, AQ Try.prog (Instr.fieldAt 25 (.pointer ((some x3))) 1) (.pointer ((some a57))) ∧
 ∃ n58 : Int, QRun Try.prog (Instr.loadAt 3 (.pointer ((some a57)))) H0 (.int .i64 n58) ∧
 if (decide ((y11 : Int) < n58)) = true then
 ∃ a59 : Addr, AQ Try.prog (Instr.indexAt 28 (.slice Ax7 lx7 cx7) (.int .i64 y11)) (.pointer ((some a59))) ∧
 ∃ (A60 : Option Addr) (l60 c60 : Nat), QRun Try.prog (Instr.loadAt 23 (.pointer ((some a59)))) H0 (.slice A60 l60 c60) ∧
 ∃ a61 : Addr, AQ Try.prog (Instr.fieldAt 25 (.pointer ((some x3))) 1) (.pointer ((some a61))) ∧
 ∃ n62 : Int, QRun Try.prog (Instr.loadAt 3 (.pointer ((some a61)))) H0 (.int .i64 n62) ∧
 if ((((l60 : Nat) : Int) : Int) != ((IntKind.i64.wrap (n62 + 1)))) = false then
 ∃ a63 : Addr, AQ Try.prog (Instr.indexAt 28 (.slice Ax7 lx7 cx7) (.int .i64 y11)) (.pointer ((some a63))) ∧
 ∃ (A64 : Option Addr) (l64 c64 : Nat), QRun Try.prog (Instr.loadAt 23 (.pointer ((some a63)))) H0 (.slice A64 l64 c64) ∧
 ∃ a65 : Addr, AQ Try.prog (Instr.fieldAt 25 (.pointer ((some x3))) 1) (.pointer ((some a65))) ∧
 ∃ n66 : Int, QRun Try.prog (Instr.loadAt 3 (.pointer ((some a65)))) H0 (.int .i64 n66) ∧
 ∃ (A67 : Option Addr) (l67 c67 : Nat), AQ Try.prog (Instr.sliceAt 23 (.slice A64 l64 c64) none (some (.int .i64 n66)) none) (.slice A67 l67 c67) ∧
 ∃ a68 : Addr, AQ Try.prog (Instr.fieldAt 25 (.pointer ((some x3))) 4) (.pointer ((some a68))) ∧
 ∃ (A69 : Option Addr) (l69 c69 : Nat), QRun Try.prog (Instr.loadAt 23 (.pointer ((some a68)))) H0 (.slice A69 l69 c69) ∧
 ∃ a70 : Addr, AQ Try.prog (Instr.fieldAt 25 (.pointer ((some x3))) 1) (.pointer ((some a70))) ∧
 ∃ n71 : Int, QRun Try.prog (Instr.loadAt 3 (.pointer ((some a70)))) H0 (.int .i64 n71) ∧
 ∃ a72 : Addr, AQ Try.prog (Instr.fieldAt 25 (.pointer ((some x3))) 1) (.pointer ((some a72))) ∧
 ∃ n73 : Int, QRun Try.prog (Instr.loadAt 3 (.pointer ((some a72)))) H0 (.int .i64 n73) ∧
 ∃ (A74 : Option Addr) (l74 c74 : Nat), AQ Try.prog (Instr.sliceAt 23 (.slice A69 l69 c69) (some (.int .i64 ((IntKind.i64.wrap (y11 * n71))))) (some (.int .i64 ((IntKind.i64.wrap (((IntKind.i64.wrap (y11 + 1))) * n73))))) none) (.slice A74 l74 c74) ∧
 HCall Try.prog base 20 #[(.slice A67 l67 c67), (.slice A74 l74 c74)] H0 fun v75 H76 =>
 ∃ b77 : Bool, v75 = (.bool b77) ∧ if (!b77) = true then
 K (.bool false) H76
 else
 ∃ a78 : Addr, AQ Try.prog (Instr.fieldAt 25 (.pointer ((some x3))) 4) (.pointer ((some a78))) ∧
 ∃ (A79 : Option Addr) (l79 c79 : Nat), QRun Try.prog (Instr.loadAt 23 (.pointer ((some a78)))) H76 (.slice A79 l79 c79) ∧
 ∃ a80 : Addr, AQ Try.prog (Instr.fieldAt 25 (.pointer ((some x3))) 1) (.pointer ((some a80))) ∧
 ∃ n81 : Int, QRun Try.prog (Instr.loadAt 3 (.pointer ((some a80)))) H76 (.int .i64 n81) ∧
 ∃ a82 : Addr, AQ Try.prog (Instr.fieldAt 25 (.pointer ((some x3))) 1) (.pointer ((some a82))) ∧
 ∃ n83 : Int, QRun Try.prog (Instr.loadAt 3 (.pointer ((some a82)))) H76 (.int .i64 n83) ∧
 ∃ (A84 : Option Addr) (l84 c84 : Nat), AQ Try.prog (Instr.sliceAt 23 (.slice A79 l79 c79) (some (.int .i64 ((IntKind.i64.wrap (y11 * n81))))) (some (.int .i64 ((IntKind.i64.wrap (((IntKind.i64.wrap (y11 + 1))) * n83))))) none) (.slice A84 l84 c84) ∧
 ∃ a85 : Addr, AQ Try.prog (Instr.indexAt 23 (.slice Ax2 lx2 cx2) (.int .i64 y11)) (.pointer ((some a85))) ∧
 ∃ n86 : Int, QRun Try.prog (Instr.loadAt 22 (.pointer ((some a85)))) H76 (.int .u64 n86) ∧
 (HRun Try.prog base (Instr.buildSlice 23 0 #[]) H76 fun v87 H88 =>
 ∃ (A89 : Option Addr) (l89 c89 : Nat), v87 = (.slice A89 l89 c89) ∧ QRun Try.prog (Instr.loadAt 22 (.pointer ((some a85)))) H88 (.int .u64 n86) ∧
 QRun Try.prog (Instr.loadAt 3 (.pointer ((some a82)))) H88 (.int .i64 n83) ∧
 QRun Try.prog (Instr.loadAt 3 (.pointer ((some a80)))) H88 (.int .i64 n81) ∧
 QRun Try.prog (Instr.loadAt 23 (.pointer ((some a78)))) H88 (.slice A79 l79 c79) ∧
 (HRun Try.prog base (Builtin.append_ #[23, 23] 23 #[(.slice A89 l89 c89), (.slice A84 l84 c84)]) H88 fun v90 H91 =>
 ∃ (A92 : Option Addr) (l92 c92 : Nat), v90 = (.slice A92 l92 c92) ∧ QRun Try.prog (Instr.loadAt 22 (.pointer ((some a85)))) H91 (.int .u64 n86) ∧
 HRun Try.prog base (Instr.buildSlice 23 1 #[(0, (.int .u64 n86))]) H91 fun v93 H94 =>
 ∃ (A95 : Option Addr) (l95 c95 : Nat), v93 = (.slice A95 l95 c95) ∧ HRun Try.prog base (Builtin.append_ #[23, 23] 23 #[(.slice A92 l92 c92), (.slice A95 l95 c95)]) H94 fun v96 H97 =>
 ∃ (A98 : Option Addr) (l98 c98 : Nat), v96 = (.slice A98 l98 c98) ∧ HRun Try.prog base (Instr.buildSlice 28 1 #[(0, (.slice A98 l98 c98))]) H97 fun v99 H100 =>
 ∃ (A101 : Option Addr) (l101 c101 : Nat), v99 = (.slice A101 l101 c101) ∧ HRun Try.prog base (Builtin.append_ #[28, 28] 28 #[(.slice Ay10 ly10 cy10), (.slice A101 l101 c101)]) H100 fun v102 H103 =>
 ∃ (A104 : Option Addr) (l104 c104 : Nat), v102 = (.slice A104 l104 c104) ∧ privitylaw21_ProductProofUnique.R0 base N0 [(.slice Ax1 lx1 cx1), (.slice Ax2 lx2 cx2), (.pointer ((some x3))), (.slice Ax7 lx7 cx7), (.slice Ax8 lx8 cx8), (.bool y9), (.slice A104 l104 c104), (.int .i64 y11)] H103 K) ∧
 (HRun Try.prog base (Instr.buildSlice 23 1 #[(0, (.int .u64 n86))]) H88 fun v105 H106 =>
 ∃ (A107 : Option Addr) (l107 c107 : Nat), v105 = (.slice A107 l107 c107) ∧ QRun Try.prog (Instr.loadAt 3 (.pointer ((some a82)))) H106 (.int .i64 n83) ∧
 QRun Try.prog (Instr.loadAt 3 (.pointer ((some a80)))) H106 (.int .i64 n81) ∧
 QRun Try.prog (Instr.loadAt 23 (.pointer ((some a78)))) H106 (.slice A79 l79 c79) ∧
 HRun Try.prog base (Builtin.append_ #[23, 23] 23 #[(.slice A89 l89 c89), (.slice A84 l84 c84)]) H106 fun v108 H109 =>
 ∃ (A110 : Option Addr) (l110 c110 : Nat), v108 = (.slice A110 l110 c110) ∧ HRun Try.prog base (Builtin.append_ #[23, 23] 23 #[(.slice A110 l110 c110), (.slice A107 l107 c107)]) H109 fun v111 H112 =>
 ∃ (A113 : Option Addr) (l113 c113 : Nat), v111 = (.slice A113 l113 c113) ∧ HRun Try.prog base (Instr.buildSlice 28 1 #[(0, (.slice A113 l113 c113))]) H112 fun v114 H115 =>
 ∃ (A116 : Option Addr) (l116 c116 : Nat), v114 = (.slice A116 l116 c116) ∧ HRun Try.prog base (Builtin.append_ #[28, 28] 28 #[(.slice Ay10 ly10 cy10), (.slice A116 l116 c116)]) H115 fun v117 H118 =>
 ∃ (A119 : Option Addr) (l119 c119 : Nat), v117 = (.slice A119 l119 c119) ∧ privitylaw21_ProductProofUnique.R0 base N0 [(.slice Ax1 lx1 cx1), (.slice Ax2 lx2 cx2), (.pointer ((some x3))), (.slice Ax7 lx7 cx7), (.slice Ax8 lx8 cx8), (.bool y9), (.slice A119 l119 c119), (.int .i64 y11)] H118 K)) ∧
 (HRun Try.prog base (Instr.buildSlice 23 1 #[(0, (.int .u64 n86))]) H76 fun v120 H121 =>
 ∃ (A122 : Option Addr) (l122 c122 : Nat), v120 = (.slice A122 l122 c122) ∧ QRun Try.prog (Instr.loadAt 3 (.pointer ((some a82)))) H121 (.int .i64 n83) ∧
 QRun Try.prog (Instr.loadAt 3 (.pointer ((some a80)))) H121 (.int .i64 n81) ∧
 QRun Try.prog (Instr.loadAt 23 (.pointer ((some a78)))) H121 (.slice A79 l79 c79) ∧
 HRun Try.prog base (Instr.buildSlice 23 0 #[]) H121 fun v123 H124 =>
 ∃ (A125 : Option Addr) (l125 c125 : Nat), v123 = (.slice A125 l125 c125) ∧ QRun Try.prog (Instr.loadAt 3 (.pointer ((some a82)))) H124 (.int .i64 n83) ∧
 QRun Try.prog (Instr.loadAt 3 (.pointer ((some a80)))) H124 (.int .i64 n81) ∧
 QRun Try.prog (Instr.loadAt 23 (.pointer ((some a78)))) H124 (.slice A79 l79 c79) ∧
 HRun Try.prog base (Builtin.append_ #[23, 23] 23 #[(.slice A125 l125 c125), (.slice A84 l84 c84)]) H124 fun v126 H127 =>
 ∃ (A128 : Option Addr) (l128 c128 : Nat), v126 = (.slice A128 l128 c128) ∧ HRun Try.prog base (Builtin.append_ #[23, 23] 23 #[(.slice A128 l128 c128), (.slice A122 l122 c122)]) H127 fun v129 H130 =>
 ∃ (A131 : Option Addr) (l131 c131 : Nat), v129 = (.slice A131 l131 c131) ∧ HRun Try.prog base (Instr.buildSlice 28 1 #[(0, (.slice A131 l131 c131))]) H130 fun v132 H133 =>
 ∃ (A134 : Option Addr) (l134 c134 : Nat), v132 = (.slice A134 l134 c134) ∧ HRun Try.prog base (Builtin.append_ #[28, 28] 28 #[(.slice Ay10 ly10 cy10), (.slice A134 l134 c134)]) H133 fun v135 H136 =>
 ∃ (A137 : Option Addr) (l137 c137 : Nat), v135 = (.slice A137 l137 c137) ∧ privitylaw21_ProductProofUnique.R0 base N0 [(.slice Ax1 lx1 cx1), (.slice Ax2 lx2 cx2), (.pointer ((some x3))), (.slice Ax7 lx7 cx7), (.slice Ax8 lx8 cx8), (.bool y9), (.slice A137 l137 c137), (.int .i64 y11)] H136 K)
 else
 K (.bool false) H0
 else
 privitylaw21_ProductProofUnique.P1 base [(.slice Ax1 lx1 cx1), (.pointer ((some x3))), (.slice Ax8 lx8 cx8), (.bool y9), (.slice Ay10 ly10 cy10), (.bool true), (.int .i64 0)] H0 K
theorem privitylaw21_ProductProofUnique.loop0 {base : Nat} {Ax1 : Option Addr} {lx1 cx1 : Nat} {Ax2 : Option Addr} {lx2 cx2 : Nat} {x3 : Addr} {Ax7 : Option Addr} {lx7 cx7 : Nat} {Ax8 : Option Addr} {lx8 cx8 : Nat} {y9_i : Bool} {Ay10_i : Option Addr} {ly10_i cy10_i : Nat} {y11_i : Int} {H0 : HH} {K : Value → HH → Prop} (J : Nat → Bool → Option Addr → Nat → Nat → Int → HH → Prop) (n : Nat) (h0 : J n y9_i Ay10_i ly10_i cy10_i y11_i H0)
    (hs : ∀ (n : Nat) (y9 : Bool) (Ay10 : Option Addr) (ly10 cy10 : Nat) (y11 : Int) (g : Fr) (H0 : HH), J n y9 Ay10 ly10 cy10 y11 H0 → privitylaw21_ProductProofUnique.B0 base Ax1 lx1 cx1 Ax2 lx2 cx2 x3 Ax7 lx7 cx7 Ax8 lx8 cx8 y9 Ay10 ly10 cy10 y11 g (fun w9 w10 w11 H => ∃ n', n' < n ∧ ∃ (y9' : Bool) (Ay10' : Option Addr) (ly10' cy10' : Nat) (y11' : Int), w9 = (.bool y9') ∧ w10 = (.slice Ay10' ly10' cy10') ∧ w11 = (.int .i64 y11') ∧ J n' y9' Ay10' ly10' cy10' y11' H) H0 K) : privitylaw21_ProductProofUnique.P0 base [(.slice Ax1 lx1 cx1), (.slice Ax2 lx2 cx2), (.pointer ((some x3))), (.slice Ax7 lx7 cx7), (.slice Ax8 lx8 cx8), (.bool y9_i), (.slice Ay10_i ly10_i cy10_i), (.int .i64 y11_i)] H0 K := by
  refine loop_rule (ann := privitylaw21_ProductProofUnique.ann) (body := codeAt [.r, .r, .r, .r, .r, .r, .l, .r, .b, .lp] (bodyOf Try.f7)) mix (by kernel_rfl) 22300745198530623141535570698695771829571136 (by kernel_rfl) [1, 2, 3, 7, 8] [(.slice Ax1 lx1 cx1), (.slice Ax2 lx2 cx2), (.pointer ((some x3))), (.slice Ax7 lx7 cx7), (.slice Ax8 lx8 cx8)] (by kernel_rfl) (fun fr ⟨e1, e2, e3, e7, e8, e9, e10, e11, _⟩ => ⟨e1, e2, e3, e7, e8, trivial⟩) (fun n g H => ∃ (y9 : Bool) (Ay10 : Option Addr) (ly10 cy10 : Nat) (y11 : Int), g 9 = (.bool y9) ∧ g 10 = (.slice Ay10 ly10 cy10) ∧ g 11 = (.int .i64 y11) ∧ J n y9 Ay10 ly10 cy10 y11 H) n (fun fr ⟨e1, e2, e3, e7, e8, e9, e10, e11, _⟩ => ⟨y9_i, Ay10_i, ly10_i, cy10_i, y11_i, e9, e10, e11, h0⟩) ?_
  rintro n g H0 ⟨e1, e2, e3, e7, e8, _⟩ ⟨y9, Ay10, ly10, cy10, y11, e9, e10, e11, hJ⟩
  rw [← ov_eq (g := g) [(1, (.slice Ax1 lx1 cx1)), (2, (.slice Ax2 lx2 cx2)), (3, (.pointer ((some x3)))), (7, (.slice Ax7 lx7 cx7)), (8, (.slice Ax8 lx8 cx8)), (9, (.bool y9)), (10, (.slice Ay10 ly10 cy10)), (11, (.int .i64 y11))] (by simp only [List.mem_cons, List.not_mem_nil, or_false, forall_eq_or_imp, forall_eq, false_implies, implies_true]; exact ⟨e1, e2, e3, e7, e8, e9, e10, e11⟩)]
  have key : ∀ NN : Value → Value → Value → HH → Prop, privitylaw21_ProductProofUnique.B0 base Ax1 lx1 cx1 Ax2 lx2 cx2 x3 Ax7 lx7 cx7 Ax8 lx8 cx8 y9 Ay10 ly10 cy10 y11 g NN H0 K = wpC Try.prog base 193 privitylaw21_ProductProofUnique.ann (codeAt [.r, .r, .r, .r, .r, .r, .l, .r, .b, .lp] (bodyOf Try.f7)) (ov g [(1, (.slice Ax1 lx1 cx1)), (2, (.slice Ax2 lx2 cx2)), (3, (.pointer ((some x3)))), (7, (.slice Ax7 lx7 cx7)), (8, (.slice Ax8 lx8 cx8)), (9, (.bool y9)), (10, (.slice Ay10 ly10 cy10)), (11, (.int .i64 y11))]) H0 (thenQ (fun fr H => NN (fr 9) (fr 10) (fr 11) H) (qAt Try.prog base 193 privitylaw21_ProductProofUnique.ann [.r, .r, .r, .r, .r, .r, .l, .r, .b] [] (bodyOf Try.f7) (retQ Try.prog 193 Try.f7 K))) := fun NN => by kernel_rfl
  refine cast ?_ (hs n y9 Ay10 ly10 cy10 y11 g H0 hJ)
  refine (key (fun w9 w10 w11 H => ∃ n', n' < n ∧ ∃ (y9' : Bool) (Ay10' : Option Addr) (ly10' cy10' : Nat) (y11' : Int), w9 = (.bool y9') ∧ w10 = (.slice Ay10' ly10' cy10') ∧ w11 = (.int .i64 y11') ∧ J n' y9' Ay10' ly10' cy10' y11' H)).trans ?_
  kernel_rfl
def privitylaw21_ProductProofUnique.B1 (base : Nat) (Ax1 : Option Addr) (lx1 cx1 : Nat) (x3 : Addr) (Ax8 : Option Addr) (lx8 cx8 : Nat) (x9 : Bool) (Ax10 : Option Addr) (lx10 cx10 : Nat) (y12 : Bool) (y13 : Int) (g : Fr) (N1 : Value → Value → HH → Prop) (H0 : HH) (K : Value → HH → Prop) : Prop :=
 ∃ a138 : Addr, AQ Try.prog (Instr.fieldAt 25 (.pointer ((some x3))) 1) (.pointer ((some a138))) ∧
 ∃ n139 : Int, QRun Try.prog (Instr.loadAt 3 (.pointer ((some a138)))) H0 (.int .i64 n139) ∧
 if (decide ((y13 : Int) ≤ ((IntKind.i64.wrap (2 * n139))))) = true then
 if y12 = true then
 ∃ a140 : Addr, AQ Try.prog (Instr.fieldAt 25 (.pointer ((some x3))) 0) (.pointer ((some a140))) ∧
 ∃ n141 : Int, QRun Try.prog (Instr.loadAt 22 (.pointer ((some a140)))) H0 (.int .u64 n141) ∧
 ∃ a142 : Addr, AQ Try.prog (Instr.fieldAt 25 (.pointer ((some x3))) 0) (.pointer ((some a142))) ∧
 ∃ n143 : Int, QRun Try.prog (Instr.loadAt 22 (.pointer ((some a142)))) H0 (.int .u64 n143) ∧
 ∃ a144 : Addr, AQ Try.prog (Instr.fieldAt 25 (.pointer ((some x3))) 2) (.pointer ((some a144))) ∧
 ∃ (A145 : Option Addr) (l145 c145 : Nat), QRun Try.prog (Instr.loadAt 23 (.pointer ((some a144)))) H0 (.slice A145 l145 c145) ∧
 ∃ n146 : Int, HCall Try.prog base 23 #[(.int .u64 n143), (.slice A145 l145 c145), (.int .u64 ((IntKind.u64.wrap y13)))] H0 (fun v_ H_ => v_ = (.int .u64 n146) ∧ H_ = H0) ∧
 ∃ a147 : Addr, AQ Try.prog (Instr.fieldAt 25 (.pointer ((some x3))) 0) (.pointer ((some a147))) ∧
 ∃ n148 : Int, QRun Try.prog (Instr.loadAt 22 (.pointer ((some a147)))) H0 (.int .u64 n148) ∧
 ∃ a149 : Addr, AQ Try.prog (Instr.fieldAt 25 (.pointer ((some x3))) 3) (.pointer ((some a149))) ∧
 ∃ (A150 : Option Addr) (l150 c150 : Nat), QRun Try.prog (Instr.loadAt 23 (.pointer ((some a149)))) H0 (.slice A150 l150 c150) ∧
 ∃ n151 : Int, HCall Try.prog base 23 #[(.int .u64 n148), (.slice A150 l150 c150), (.int .u64 ((IntKind.u64.wrap y13)))] H0 (fun v_ H_ => v_ = (.int .u64 n151) ∧ H_ = H0) ∧
 ∃ a152 : Addr, AQ Try.prog (Instr.fieldAt 25 (.pointer ((some x3))) 0) (.pointer ((some a152))) ∧
 ∃ n153 : Int, QRun Try.prog (Instr.loadAt 22 (.pointer ((some a152)))) H0 (.int .u64 n153) ∧
 ∃ a154 : Addr, AQ Try.prog (Instr.fieldAt 25 (.pointer ((some x3))) 0) (.pointer ((some a154))) ∧
 ∃ n155 : Int, QRun Try.prog (Instr.loadAt 22 (.pointer ((some a154)))) H0 (.int .u64 n155) ∧
 HCall Try.prog base 24 #[(.int .u64 n153), (.slice Ax10 lx10 cx10), (.int .u64 ((IntKind.u64.wrap y13)))] H0 fun v156 H157 =>
 ∃ (A158 : Option Addr) (l158 c158 : Nat), v156 = (.slice A158 l158 c158) ∧ QRun Try.prog (Instr.loadAt 22 (.pointer ((some a154)))) H157 (.int .u64 n155) ∧
 QRun Try.prog (Instr.loadAt 22 (.pointer ((some a140)))) H157 (.int .u64 n141) ∧
 ∃ n159 : Int, HCall Try.prog base 23 #[(.int .u64 n155), (.slice Ax1 lx1 cx1), (.int .u64 ((IntKind.u64.wrap y13)))] H157 (fun v_ H_ => v_ = (.int .u64 n159) ∧ H_ = H157) ∧
 ∃ b160 : Bool, HCall Try.prog base 22 #[(.int .u64 n141), (.int .u64 ((IntKind.u64.wrap y13))), (.int .u64 n146), (.int .u64 n151), (.slice A158 l158 c158), (.int .u64 n159)] H157 (fun v_ H_ => v_ = (.bool b160) ∧ H_ = H157) ∧
 N1 (.bool b160) (.int .i64 ((IntKind.i64.wrap (y13 + 1)))) H157
 else
 N1 (.bool false) (.int .i64 ((IntKind.i64.wrap (y13 + 1)))) H0
 else
 HCall Try.prog base 16 #[] H0 fun v161 H162 =>
 ∃ b163 : Bool, v161 = (.bool b163) ∧ if b163 = true then
 if x9 = true then
 HCall Try.prog base 20 #[(.slice Ax1 lx1 cx1), (.slice Ax8 lx8 cx8)] H162 fun v164 H165 =>
 ∃ b166 : Bool, v164 = (.bool b166) ∧ ∃ b167 : Bool, AQ Try.prog (binSem .eql 4 (.tmp 184) (.tmp 190) (.bool y12) (.bool b166)) (.bool b167) ∧
 K (.bool b167) H165
 else
 ∃ b168 : Bool, AQ Try.prog (binSem .eql 4 (.tmp 184) (.tmp 190) (.bool y12) (.bool false)) (.bool b168) ∧
 K (.bool b168) H162
 else
 K (.bool false) H162
theorem privitylaw21_ProductProofUnique.loop1 {base : Nat} {Ax1 : Option Addr} {lx1 cx1 : Nat} {x3 : Addr} {Ax8 : Option Addr} {lx8 cx8 : Nat} {x9 : Bool} {Ax10 : Option Addr} {lx10 cx10 : Nat} {y12_i : Bool} {y13_i : Int} {H0 : HH} {K : Value → HH → Prop} (J : Nat → Bool → Int → HH → Prop) (n : Nat) (h0 : J n y12_i y13_i H0)
    (hs : ∀ (n : Nat) (y12 : Bool) (y13 : Int) (g : Fr) (H0 : HH), J n y12 y13 H0 → privitylaw21_ProductProofUnique.B1 base Ax1 lx1 cx1 x3 Ax8 lx8 cx8 x9 Ax10 lx10 cx10 y12 y13 g (fun w12 w13 H => ∃ n', n' < n ∧ ∃ (y12' : Bool) (y13' : Int), w12 = (.bool y12') ∧ w13 = (.int .i64 y13') ∧ J n' y12' y13' H) H0 K) : privitylaw21_ProductProofUnique.P1 base [(.slice Ax1 lx1 cx1), (.pointer ((some x3))), (.slice Ax8 lx8 cx8), (.bool x9), (.slice Ax10 lx10 cx10), (.bool y12_i), (.int .i64 y13_i)] H0 K := by
  refine loop_rule (ann := privitylaw21_ProductProofUnique.ann) (body := codeAt [.r, .r, .r, .r, .r, .r, .r, .r, .l, .r, .b, .lp] (bodyOf Try.f7)) mix (by kernel_rfl) 6129982163441254688234857485459701016202308127228456960 (by kernel_rfl) [1, 3, 8, 9, 10] [(.slice Ax1 lx1 cx1), (.pointer ((some x3))), (.slice Ax8 lx8 cx8), (.bool x9), (.slice Ax10 lx10 cx10)] (by kernel_rfl) (fun fr ⟨e1, e3, e8, e9, e10, e12, e13, _⟩ => ⟨e1, e3, e8, e9, e10, trivial⟩) (fun n g H => ∃ (y12 : Bool) (y13 : Int), g 12 = (.bool y12) ∧ g 13 = (.int .i64 y13) ∧ J n y12 y13 H) n (fun fr ⟨e1, e3, e8, e9, e10, e12, e13, _⟩ => ⟨y12_i, y13_i, e12, e13, h0⟩) ?_
  rintro n g H0 ⟨e1, e3, e8, e9, e10, _⟩ ⟨y12, y13, e12, e13, hJ⟩
  rw [← ov_eq (g := g) [(1, (.slice Ax1 lx1 cx1)), (3, (.pointer ((some x3)))), (8, (.slice Ax8 lx8 cx8)), (9, (.bool x9)), (10, (.slice Ax10 lx10 cx10)), (12, (.bool y12)), (13, (.int .i64 y13))] (by simp only [List.mem_cons, List.not_mem_nil, or_false, forall_eq_or_imp, forall_eq, false_implies, implies_true]; exact ⟨e1, e3, e8, e9, e10, e12, e13⟩)]
  have key : ∀ NN : Value → Value → HH → Prop, privitylaw21_ProductProofUnique.B1 base Ax1 lx1 cx1 x3 Ax8 lx8 cx8 x9 Ax10 lx10 cx10 y12 y13 g NN H0 K = wpC Try.prog base 193 privitylaw21_ProductProofUnique.ann (codeAt [.r, .r, .r, .r, .r, .r, .r, .r, .l, .r, .b, .lp] (bodyOf Try.f7)) (ov g [(1, (.slice Ax1 lx1 cx1)), (3, (.pointer ((some x3)))), (8, (.slice Ax8 lx8 cx8)), (9, (.bool x9)), (10, (.slice Ax10 lx10 cx10)), (12, (.bool y12)), (13, (.int .i64 y13))]) H0 (thenQ (fun fr H => NN (fr 12) (fr 13) H) (qAt Try.prog base 193 privitylaw21_ProductProofUnique.ann [.r, .r, .r, .r, .r, .r, .r, .r, .l, .r, .b] [] (bodyOf Try.f7) (retQ Try.prog 193 Try.f7 K))) := fun NN => by kernel_rfl
  refine cast ?_ (hs n y12 y13 g H0 hJ)
  refine (key (fun w12 w13 H => ∃ n', n' < n ∧ ∃ (y12' : Bool) (y13' : Int), w12 = (.bool y12') ∧ w13 = (.int .i64 y13') ∧ J n' y12' y13' H)).trans ?_
  kernel_rfl
end Go.Proofs.Ytjkggiemnfigbaa.HL
end
namespace Go.Proofs.Ytjkggiemnfigbaa.HL
end Go.Proofs.Ytjkggiemnfigbaa.HL
section
set_option linter.unusedVariables false
set_option linter.unusedSimpArgs false
set_option linter.unusedSectionVars false
set_option maxHeartbeats 8000000
namespace Go.Proofs.Ytjkggiemnfigbaa.HL
open Go Go.Proofs.YtjkggiemnfigbaaNum Go.Proofs.Ytjkggiemnfigbaa.FEv
theorem QRun.up' {α : Type} {P : Program} {s : Sem α} {H H' : HH} {v : α} (h : QRun P s H v) (X : Ext H H') : QRun P s H' v := fun W hs => h W (fun k o hk => hs k o (X k o hk))
section
variable {p : Nat} [NeZero p]
/-- The rows of another proof with the same free coefficients. -/
def othL (t : Nat) (r tops : List (Fin p)) (j : Nat) : List (List (Fin p)) := (List.range j).map fun i => roW t r i (cf tops i)
@[simp] theorem othL_len (t : Nat) (r tops : List (Fin p)) (j : Nat) : (othL t r tops j).length = j := by simp [othL]
theorem othL_get {t j i : Nat} {r tops : List (Fin p)} (h : i < j) : rowN (othL t r tops j) i = roW t r i (cf tops i) := by
  unfold rowN othL
  rw [List.getD_eq_getElem?_getD, List.getElem?_map, List.getElem?_range h]; rfl
theorem roW_last {t i : Nat} {r : List (Fin p)} (hr : r.length = t * t) (hi : i < t) (x : Fin p) : cf (roW t r i x) t = x := by
  have := Nat.mul_le_mul_right t (show i + 1 ≤ t from hi)
  rw [Nat.succ_mul] at this
  have hl : ((r.drop (i * t)).take t).length = t := by rw [List.length_take, List.length_drop]; omega
  unfold roW
  rw [cf_append, hl, if_neg (by omega), Nat.sub_self, cf_single, if_pos rfl]
theorem pD_roW {t i : Nat} {r L : List (Fin p)} (hr : r.length = t * t) (hi : i < t) : rowN (pD t r L) i = roW t r i (cf (rowN (pD t r L) i) t) := by
  have e : rowN (pD t r L) i = roW t r i (cf (pleft t r L (t - 1 - i)) (i + 1 + t)) := by
    rw [rowN_pD hi]
    unfold prow roW
    rw [Nat.add_sub_cancel]
  rw [e, roW_last hr hi]
theorem roW_take {t i : Nat} {r : List (Fin p)} (hr : r.length = t * t) (hi : i < t) (x : Fin p) : (roW t r i x).take t = (r.drop (i * t)).take t := by
  have := Nat.mul_le_mul_right t (show i + 1 ≤ t from hi)
  rw [Nat.succ_mul] at this
  have hl : ((r.drop (i * t)).take t).length = t := by rw [List.length_take, List.length_drop]; omega
  unfold roW
  rw [List.take_append_of_le_length (by omega), List.take_of_length_le (by omega)]
def ptL (p : Nat) [NeZero p] (m : Nat) : Fin p := E (m : Int)
theorem V_ptL {m : Nat} (h : m < p) : V (ptL p m) = (m : Int) := V_E_lt (by omega) (by omega)
theorem ptL_nodup {n : Nat} (h : n ≤ p) : ((List.range n).map (ptL p)).Nodup := by
  unfold List.Nodup
  rw [List.pairwise_map]
  refine List.Pairwise.imp_of_mem ?_ List.nodup_range
  intro i j hi hj hne e
  have h1 := V_ptL (p := p) (m := i) (by have := List.mem_range.1 hi; omega)
  have h2 := V_ptL (p := p) (m := j) (by have := List.mem_range.1 hj; omega)
  rw [e, h2] at h1
  omega
/-- The check at x. -/
def chkL (t : Nat) (a b c : List (Fin p)) (D : List (List (Fin p))) (x : Fin p) : Prop := peval a x * peval b x - vsum x D.length (cf (valsL D x)) = peval c x
instance chkL_dec (t : Nat) (a b c : List (Fin p)) (D : List (List (Fin p))) (x : Fin p) : Decidable (chkL t a b c D x) := by unfold chkL; exact inferInstance
theorem uniq_law {t : Nat} (hp : IsPr p) (hpt : 2 * t + 1 ≤ p) {a b c r tops : List (Fin p)} (al : a.length = t + 1) (bl : b.length = t + 1) (cl : c.length = t + 1) (rl : r.length = t * t) (tl : tops.length = t) :
    (∀ m, m < 2 * t + 1 → chkL t a b c (othL t r tops t) (ptL p m)) ↔ (∀ i, i < t → cf tops i = cf (rowN (pD t r (pL t a b)) i) t) ∧ c = pC t r (pL t a b) := by
  have hrow : ∀ i, i < t → (rowN (othL t r tops t) i).length = t + 1 := fun i hi => by rw [othL_get hi]; exact roW_len rl hi _
  have hv : ∀ x : Fin p, cf (valsL (othL t r tops t) x) = fun i => peval (rowN (othL t r tops t) i) x := fun x => funext (cf_valsL _ x)
  constructor
  · intro h
    have hc := of_values hp (t := t) (a := a) (b := b) (C := c) (D := othL t r tops t) (by omega) (by omega) (by omega) (fun i hi => by rw [hrow i hi]; exact Nat.le_refl _) (xs := (List.range (2 * t + 1)).map (ptL p)) (ptL_nodup hpt) (by simp) (fun x hx => by
      obtain ⟨m, hm, rfl⟩ := List.mem_map.1 hx
      have := h m (List.mem_range.1 hm)
      unfold chkL at this
      rw [hv, othL_len] at this
      exact this)
    obtain ⟨e1, e2⟩ := prove_unique (t := t) (r := r) (L := pL t a b) (C := c) (D := othL t r tops t) (by omega) (pL_len _ _ _) (by simp) cl hrow (fun i hi m hm => by
      rw [othL_get hi]
      unfold roW
      have := Nat.mul_le_mul_right t (show i + 1 ≤ t from hi)
      rw [Nat.succ_mul] at this
      rw [cf_append, List.length_take, List.length_drop, if_pos (by omega), cf_takeN, if_pos hm, cf_drop]) (fun j => by rw [cf_pL (by omega) (by omega)]; exact hc j)
    refine ⟨fun i hi => ?_, e2⟩
    rw [← e1, othL_get hi, roW_last rl hi]
  · rintro ⟨h1, h2⟩ m hm
    have e : othL t r tops t = pD t r (pL t a b) := by
      apply List.ext_getElem (by simp [pD_len])
      intro i h3 h4
      rw [othL_len] at h3
      have e1 : rowN (othL t r tops t) i = (othL t r tops t)[i] := by unfold rowN; simp [h3]
      have e2 : rowN (pD t r (pL t a b)) i = (pD t r (pL t a b))[i] := by unfold rowN; simp [h4]
      rw [← e1, ← e2, othL_get h3, pD_roW rl h3, h1 i h3]
    unfold chkL
    rw [hv, othL_len, e, h2]
    exact values_of (t := t) (by rw [pC_len (pL_len _ _ _)]; exact Nat.le_refl _) (fun i hi => by rw [pD_row (by omega) hi]; exact Nat.le_refl _) (fun j => by
      have := prove_holds (t := t) (r := r) (L := pL t a b) (by omega) (pL_len _ _ _) j
      rwa [cf_pL (by omega) (by omega)] at this) _
end
theorem Frz.less {F F' H : HH} {v : Value} (h : Frz F' H v) (X : Ext F F') : Frz F H v := ⟨X.trans h.ext, fun b hb => X.none (h.off b hb)⟩
theorem row_litO {base : Nat} {H : HH} {x : Int} {C : Value → HH → Prop} (hk : ∀ A' H', Ext H H' → Own base H' 22 1 (.slice A' 1 1) 1 [.int .u64 x] → Fresh H (.slice A' 1 1) → C (.slice A' 1 1) H') : HRun Try.prog base (Instr.buildSlice 23 1 #[(0, .int .u64 x)]) H C := by
  have hfill : Instr.fill (fun i => some (i * 1, 1)) (madeCells (Value.int .u64 0).cells (1 * 1)) [(0, .int .u64 x)] = some #[.int .u64 x] := by kernel_rfl
  refine h_lit (sz := 1) (z := .int .u64 0) (cs := #[.int .u64 x]) un32 (by kernel_rfl) (by decide) hfill (by decide) (fun gb hgb hbase => ?_)
  have ho := Own.lit (H := H) (T := 22) (sz := 1) hbase #[.int .u64 x] 1 (by decide) (by simp)
  refine hk _ _ (Ext.upd hgb _) ho (fun b' hb' => ?_)
  have e : gb = b' := by simpa [Value.ownBlock] using hb'
  rw [← e]; exact hgb
section
variable {p : Nat} [NeZero p] {base : Nat} {H Hb F : HH} {K : Value → HH → Prop} {N0 : Value → Value → Value → HH → Prop} {A1 A2 A3 A4 A5 A6 A7 A8 A10 : Option Addr} {n1 n2 n3 n4 n5 c1 c2 c3 c3' c4 c7 l8 c8 c10 b2 : Nat} {P T : Int} {g : Fr}
theorem uq_round {t j : Nat} {r tops : List (Fin p)} {D : List (List (Fin p))} {sm : Bool} (t1 : 1 ≤ t) (t4 : t ≤ 4) (rl : r.length = t * t) (tl : tops.length = t) (hD : D.length = t) (hrow : ∀ i, i < t → rowN D i = roW t r i (cf (rowN D i) t))
    (zb : ZB Hb b2 p t A4 n4 c4 A5 n3 c3' A6 n2 c2) (hr : Row Hb A6 n2 (vs r)) (hc : n2 ≤ c2) (MD : MatC Hb A7 t (ms D)) (ht : Row Hb A2 n1 (vs tops)) (hjt : j < t) (om : OwnM base F H (.slice A10 j c10) j (ms (othL t r tops j)))
    (hN : ∀ A' c' H' F', Ext F F' → OwnM base F' H' (.slice A' (j + 1) c') (j + 1) (ms (othL t r tops (j + 1))) → N0 (.bool (sm && decide (cf tops j = cf (rowN D j) t))) (.slice A' (j + 1) c') (.int .i64 (IntKind.i64.wrap ((j : Int) + 1))) H') (he : Ext Hb F) :
    privitylaw21_ProductProofUnique.B0 base A1 n5 c1 A2 n1 c3 ⟨b2, 0, none⟩ A7 t c7 A8 l8 c8 sm A10 j c10 j g N0 H K := by
  unfold privitylaw21_ProductProofUnique.B0
  have XB : Ext Hb H := he.trans om.frz.ext
  have e2 := hr.1
  rw [vs_length] at e2
  have hlt : j * t + t ≤ t * t := by
    have := Nat.mul_le_mul_right t (show j + 1 ≤ t from hjt)
    rwa [Nat.succ_mul] at this
  have htt : t * t ≤ 16 := Nat.mul_le_mul t4 t4
  have w0 : IntKind.i64.wrap ((t : Int) + 1) = ((t + 1 : Nat) : Int) := nxt (n := 1000) (by omega) (by decide)
  have w1 : IntKind.i64.wrap ((j : Int) * (t : Int)) = ((j * t : Nat) : Int) := by
    rw [← Int.natCast_mul, w64 (by omega) (by omega)]
  have w2 : IntKind.i64.wrap (IntKind.i64.wrap ((j : Int) + 1) * (t : Int)) = ((j * t + t : Nat) : Int) := by
    rw [nxt (n := 1000) (by omega) (by decide), ← Int.natCast_mul, Nat.succ_mul, w64 (by omega) (by omega)]
  obtain ⟨a1, q1, B1, d1, q2, q3, q4⟩ := MD.at c7 (i := (j : Int)) (by omega) (by omega)
  rw [Int.toNat_natCast, ms_get] at q2 q3 q4
  have hrl : rowL D j = roW t r j (cf (rowN D j) t) := hrow j hjt
  have hln : (rowL D j).length = t + 1 := by rw [hrl]; exact roW_len rl hjt _
  rw [vs_length, hln] at q2 q4
  rw [vs_length] at q3
  obtain ⟨B2, d2, s1, s2, s3⟩ := hr.sub (c := c2) (a := j * t) (b := j * t + t) hc (by omega) (by rw [vs_length]; omega)
  rw [show j * t + t - j * t = t by omega] at s1 s2 s3
  rw [vs_sub] at s2
  obtain ⟨a3, p1, p2⟩ := ht.at c3 (i := (j : Int)) (by omega) (by have := ht.1; rw [vs_length] at this; omega)
  rw [Int.toNat_natCast, vs_get] at p2
  have hseg : ((r.drop (j * t)).take t).length = t := by rw [List.length_take, List.length_drop]; omega
  refine ⟨_, fz b2 1 (by decide), _, zb.zt.up' XB, ?_⟩
  rw [if_pos (decide_eq_true (by omega))]
  refine ⟨a1, q1, _, _, _, q2.up' XB, _, fz b2 1 (by decide), _, zb.zt.up' XB, ?_⟩
  rw [w0, if_pos (by simp)]
  refine ⟨a1, q1, _, _, _, q2.up' XB, _, fz b2 1 (by decide), _, zb.zt.up' XB, _, _, _, aq_to un32 info22 (by omega) (by omega), _, fz b2 4 (by decide), _, _, _, zb.zr.up' XB, _, fz b2 1 (by decide), _, zb.zt.up' XB, _, fz b2 1 (by decide), _, zb.zt.up' XB, ?_⟩
  rw [w1, w2]
  refine ⟨_, _, _, s1, ?_⟩
  have q5 := q3.le_take (k := t) (by omega)
  rw [hrl, roW_take rl hjt] at q5
  rw [Int.toNat_natCast]
  refine h_sameList (q5.ext XB) (s2.ext XB) (by rw [vs_length, hseg]; unfold maxLen; omega) ⟨_, rfl, ?_⟩
  rw [if_neg (by simp)]
  refine ⟨_, fz b2 4 (by decide), _, _, _, zb.zr.up' XB, _, fz b2 1 (by decide), _, zb.zt.up' XB, _, fz b2 1 (by decide), _, zb.zt.up' XB, ?_⟩
  have fin : ∀ A' c' H' F', Ext F F' → OwnM base F' H' (.slice A' (j + 1) c') (j + 1) (ms (othL t r tops j) ++ [vs (roW t r j (cf tops j))]) → privitylaw21_ProductProofUnique.R0 base N0 [.slice A1 n5 c1, .slice A2 n1 c3, .pointer (some ⟨b2, 0, none⟩), .slice A7 t c7, .slice A8 l8 c8, .bool sm, .slice A' (j + 1) c', .int .i64 (j : Int)] H' K := fun A' c' H' F' X om' => by
    refine privitylaw21_ProductProofUnique.cut0 ?_
    unfold privitylaw21_ProductProofUnique.T0 privitylaw21_ProductProofUnique.S0
    have XH : Ext Hb H' := he.trans (X.trans om'.frz.ext)
    rw [← ms_snoc, show othL t r tops j ++ [roW t r j (cf tops j)] = othL t r tops (j + 1) from (mk_succ _ _).symm] at om'
    have hn := hN A' c' H' F' X om'
    cases sm with
    | false =>
      rw [if_neg (by decide)]
      exact hn
    | true =>
      rw [if_pos rfl]
      have hq : cf (rowL D j) t = cf (rowN D j) t := rfl
      obtain ⟨a5, r1, r2⟩ := (q3.ext XH).at d1 (i := (t : Int)) (by omega) (by rw [hln]; omega)
      rw [Int.toNat_natCast, vs_get, hq] at r2
      rw [hln] at r1
      refine ⟨a3, p1, _, p2.up' XH, a1, q1, _, _, _, q2.up' XH, _, fz b2 1 (by decide), _, zb.zt.up' XH, a5, r1, _, r2, ?_⟩
      rw [V_beq]
      rwa [Bool.true_and] at hn
  rw [w1, w2]
  refine ⟨_, _, _, s1, a3, p1, _, p2.up' XB, ?_, ?_⟩
  · refine row_lit0 (fun A89 c89 H5 X5 o5 f5 => ⟨_, _, _, rfl, p2.up' (XB.trans X5), zb.zt.up' (XB.trans X5), zb.zt.up' (XB.trans X5), zb.zr.up' (XB.trans X5), ?_, ?_⟩)
    · refine h_appR (l := ([] : List (Fin p))) o5 ⟨X5, f5⟩ hseg.symm (by omega) (s2.ext (XB.trans X5)).2 (fun A8 c8 H8 o8 f8 => ?_)
      rw [List.nil_append] at o8; rw [Nat.zero_add] at o8 f8 ⊢
      refine ⟨p2.up' (XB.trans f8.ext), row_lit (fun A9 H9 X9 r9 => ⟨_, _, _, rfl, ?_⟩)⟩
      refine h_appR (m := 1) (l := (r.drop (j * t)).take t) (f := [cf tops j]) (o8.ext X9) (f8.more X9) rfl (by omega) r9 (fun A10 c10 H10 o10 f10 => ?_)
      exact h_pushR2 om (by omega) f10 o10 (fun F' A' c' H' X om' => fin A' c' H' F' X om')
    · refine row_litO (fun A9 H9 X9 o9 f9 => ⟨_, _, _, rfl, zb.zt.up' (XB.trans (X5.trans X9)), zb.zt.up' (XB.trans (X5.trans X9)), zb.zr.up' (XB.trans (X5.trans X9)), ?_⟩)
      have o5' := o5.ext X9
      obtain ⟨F', XF, fw, A9', c9', e9, r9⟩ := freeze (F := H) ((Frz.mk X5 f5).more X9) (v := .slice A9 1 1) ⟨X5.trans X9, fun b hb => X5.none (f9 b hb)⟩ o9 (fun b hb hb' => by
        obtain ⟨_, cur, hcur⟩ := o5.known hb
        rw [f9 b hb'] at hcur; cases hcur)
      cases e9
      refine h_appR (l := ([] : List (Fin p))) o5' fw hseg.symm (by omega) (s2.ext (XB.trans (X5.trans X9))).2 (fun A8 c8 H8 o8 f8 => ?_)
      rw [List.nil_append] at o8; rw [Nat.zero_add] at o8 f8 ⊢
      refine h_appR (m := 1) (l := (r.drop (j * t)).take t) (f := [cf tops j]) o8 f8 rfl (by omega) (r9.ext f8.ext) (fun A10 c10 H10 o10 f10 => ?_)
      exact h_pushR2 om (by omega) (f10.less XF) o10 (fun F' A' c' H' X om' => fin A' c' H' F' X om')
  · refine row_litO (fun A9 H9 X9 o9 f9 => ⟨_, _, _, rfl, zb.zt.up' (XB.trans X9), zb.zt.up' (XB.trans X9), zb.zr.up' (XB.trans X9), ?_⟩)
    refine row_lit0 (fun A89 c89 H5 X5 o5 f5 => ⟨_, _, _, rfl, zb.zt.up' (XB.trans (X9.trans X5)), zb.zt.up' (XB.trans (X9.trans X5)), zb.zr.up' (XB.trans (X9.trans X5)), ?_⟩)
    obtain ⟨F', XF, fw, A9', c9', e9, r9⟩ := freeze (F := H) (w := .slice A89 0 c89) (v := .slice A9 1 1) ⟨X9.trans X5, fun b hb => X9.none (f5 b hb)⟩ ((Frz.mk X9 f9).more X5) (o9.ext X5) (fun b hb hb' => by
      obtain ⟨_, cur, hcur⟩ := o9.known hb'
      rw [f5 b hb] at hcur; cases hcur)
    cases e9
    refine h_appR (l := ([] : List (Fin p))) o5 fw hseg.symm (by omega) (s2.ext (XB.trans (X9.trans X5))).2 (fun A8 c8 H8 o8 f8 => ?_)
    rw [List.nil_append] at o8; rw [Nat.zero_add] at o8 f8 ⊢
    refine h_appR (m := 1) (l := (r.drop (j * t)).take t) (f := [cf tops j]) o8 f8 rfl (by omega) (r9.ext f8.ext) (fun A10 c10 H10 o10 f10 => ?_)
    exact h_pushR2 om (by omega) (f10.less XF) o10 (fun F' A' c' H' X om' => fin A' c' H' F' X om')
end
section
variable {base : Nat} {H : HH} {A2 A3 A4 A5 A6 : Option Addr} {n2 n3 n4 n5 n6 c2 c3 c4 c5 c6 : Nat} {P T : Int} {la lb lr lc lt : List Int}
theorem law_ProductProofUnique (ha : Row H A2 n2 la) (hb : Row H A3 n3 lb) (hr : Row H A4 n4 lr) (na : ∀ x ∈ la, 0 ≤ x) (nb : ∀ x ∈ lb, 0 ≤ x) (nr : ∀ x ∈ lr, 0 ≤ x) (ma : la.length ≤ maxLen) (mb : lb.length ≤ maxLen) (mr : lr.length ≤ maxLen) (hc : n4 ≤ c4)
    (hC : Row H A5 n5 lc) (nc : ∀ x ∈ lc, 0 ≤ x) (mc : lc.length ≤ maxLen) (hT : Row H A6 n6 lt) (nt : ∀ x ∈ lt, 0 ≤ x) (mt : lt.length ≤ maxLen) :
    HCall Try.prog base 7 #[.agg #[.int .u64 P, .int .i64 T, .slice A2 n2 c2, .slice A3 n3 c3, .slice A4 n4 c4], .slice A5 n5 c5, .slice A6 n6 c6] H fun v _ => v = .bool true := by
  refine privitylaw21_ProductProofUnique.spec ?_
  unfold privitylaw21_ProductProofUnique.sh
  refine h_zbox (fun b2 H1 X1 zb => ⟨_, rfl, _, _, _, _, _, _, _, _, _, _, _, zb.all, h_vcase (ha.ext X1) (hb.ext X1) (hr.ext X1) na nb nr ma mb mr (fun q hz t a b r vc H3 X3 => ⟨_, rfl, ?_⟩) (fun H3 X3 => ⟨_, rfl, ?_⟩)⟩)
  rotate_left
  · rw [if_neg (by decide)]
    exact h_awakeP (fun _ _ => ⟨_, rfl, rfl⟩)
  rw [if_pos (by decide)]
  obtain ⟨hp, rfl, rfl, rfl, rfl, rfl, t1, t4, al, bl, rl⟩ := vc
  have X13 := X1.trans X3
  have zb3 := zb.ext X3
  have htt : t * t ≤ 16 := Nat.mul_le_mul t4 t4
  have wt : IntKind.i64.wrap ((t : Int) + 1) = ((t + 1 : Nat) : Int) := nxt (n := 1000) (by omega) (by decide)
  refine ⟨_, fz b2 1 (by decide), _, zb3.zt, ?_⟩
  rw [wt]
  by_cases e1 : n5 = t + 1
  rotate_left
  · rw [if_neg (by simp; omega)]
    exact h_awakeP (fun _ _ => ⟨_, rfl, rfl⟩)
  rw [if_pos (by simp [e1])]
  refine ⟨_, fz b2 0 (by decide), _, zb3.zp, h_below (hC.ext X13) mc ⟨_, rfl, ?_⟩⟩
  cases e2 : belowB q lc 5 with
  | false =>
    rw [if_neg (by decide)]
    exact h_awakeP (fun _ _ => ⟨_, rfl, rfl⟩)
  | true =>
  rw [if_pos (by decide)]
  refine ⟨_, fz b2 1 (by decide), _, zb3.zt, ?_⟩
  by_cases e3 : n6 = t
  rotate_left
  · rw [if_neg (by simp; omega)]
    exact h_awakeP (fun _ _ => ⟨_, rfl, rfl⟩)
  rw [if_pos (by simp [e3])]
  refine ⟨_, fz b2 0 (by decide), _, zb3.zp, h_below (hT.ext X13) mt ⟨_, rfl, ?_⟩⟩
  cases e4 : belowB q lt 5 with
  | false =>
    rw [if_pos (by decide)]
    exact h_awakeP (fun _ _ => ⟨_, rfl, rfl⟩)
  | true =>
  rw [if_neg (by decide)]
  obtain ⟨_, b2'⟩ := below_of e2
  obtain ⟨_, b4'⟩ := below_of e4
  obtain ⟨cc, rfl⟩ : ∃ cc : List (Fin q), lc = vs cc := ⟨_, (liftV nc b2').symm⟩
  obtain ⟨tops, rfl⟩ : ∃ tops : List (Fin q), lt = vs tops := ⟨_, (liftV nt b4').symm⟩
  have ccl : cc.length = t + 1 := by have := hC.1; rw [vs_length] at this; omega
  have tl : tops.length = t := by have := hT.1; rw [vs_length] at this; omega
  subst e1
  subst e3
  have ha3 := ha.ext X13
  have hb3 := hb.ext X13
  have hr3 := hr.ext X13
  have hC3 := hC.ext X13
  have hT3 := hT.ext X13
  clear ha hb hr hC hT X1 X3 X13 zb
  refine ⟨_, fz b2 0 (by decide), _, zb3.zp, _, fz b2 1 (by decide), _, zb3.zt, _, fz b2 2 (by decide), _, _, _, zb3.za, _, fz b2 3 (by decide), _, _, _, zb3.zb, _, fz b2 4 (by decide), _, _, _, zb3.zr, ?_⟩
  refine h_prove hp ha3 hb3 hr3 t1 (by omega) al bl rl hc (fun A7 c7 A8 c8 H4 X4 MD RC hcC => ⟨_, _, _, _, _, _, rfl, ?_⟩)
  have lD := pD_len (t := n6) (r := r) (L := pL n6 a b)
  have lC := pC_len (r := r) (pL_len n6 a b)
  have hrow : ∀ i, i < n6 → rowN (pD n6 r (pL n6 a b)) i = roW n6 r i (cf (rowN (pD n6 r (pL n6 a b)) i) n6) := fun i hi => pD_roW rl hi
  have hp31 : 31 ≤ q := by have := hp; unfold Sup at this; omega
  have hU := uniq_law (t := n6) hp.pr (by omega) al bl ccl rl tl
  generalize pD n6 r (pL n6 a b) = D at *
  generalize pC n6 r (pL n6 a b) = C at *
  have zb4 := zb3.ext X4
  refine ⟨_, fz b2 1 (by decide), _, zb4.zt, ?_⟩
  rw [if_neg (by simp)]
  refine privitylaw21_ProductProofUnique.loop0 (fun k sm A10 l10 c10 y H' => ∃ j : Nat, y = j ∧ j ≤ n6 ∧ k = n6 - j ∧ l10 = j ∧ sm = decide (∀ i, i < j → cf tops i = cf (rowN D i) n6) ∧ ∃ F, Ext H4 F ∧ OwnM base F H' (.slice A10 j c10) j (ms (othL n6 r tops j))) n6
    ⟨0, rfl, Nat.zero_le _, rfl, rfl, by rw [decide_eq_true]; intro i hi; omega, H4, .refl _, OwnM.nil _ _⟩ ?_
  rintro k sm A10 l10 c10 y g H5 ⟨j, rfl, hj, rfl, rfl, rfl, F, XF, om⟩
  have X45 := XF.trans om.frz.ext
  have zb5 := zb4.ext X45
  by_cases hjt : l10 < n6
  · refine uq_round (F := F) (Hb := H4) t1 t4 rl tl lD hrow zb4 (hr3.ext X4) hc MD (hT3.ext X4) hjt om (fun A' c' H' F' X' om' => ?_) XF
    · refine ⟨n6 - l10 - 1, by omega, _, _, _, _, _, rfl, rfl, rfl, l10 + 1, nxt (n := 1000) (by omega) (by decide), by omega, by omega, rfl, ?_, F', XF.trans X', om'⟩
      rw [Bool.eq_iff_iff, Bool.and_eq_true, decide_eq_true_iff, decide_eq_true_iff, decide_eq_true_iff]
      constructor
      · rintro ⟨h1, h2⟩ i hi
        by_cases e : i = l10
        · rw [e]; exact h2
        · exact h1 i (by omega)
      · intro h
        exact ⟨fun i hi => h i (by omega), h l10 (by omega)⟩
  · obtain rfl : l10 = n6 := by omega
    unfold privitylaw21_ProductProofUnique.B0
    refine ⟨_, fz b2 1 (by decide), _, zb5.zt, ?_⟩
    rw [if_neg (by simp)]
    generalize hsm : decide (∀ i, i < l10 → cf tops i = cf (rowN D i) l10) = sm
    have Mo := om.mat
    have smo : Sm (othL l10 r tops l10) := ⟨by simp; omega, fun l hl => by
      obtain ⟨i, hi, rfl⟩ := List.mem_map.1 hl
      rw [roW_len rl (List.mem_range.1 hi)]; omega⟩
    have a5 := ha3.ext (X4.trans X45)
    have b5 := hb3.ext (X4.trans X45)
    have C5 := hC3.ext (X4.trans X45)
    have RC5 := RC.ext X45
    refine privitylaw21_ProductProofUnique.loop1 (fun k hd y H' => ∃ m : Nat, y = m ∧ m ≤ 2 * l10 + 1 ∧ k = 2 * l10 + 1 - m ∧ hd = decide (∀ i, i < m → chkL l10 a b cc (othL l10 r tops l10) (ptL q i)) ∧ Ext H5 H') (2 * l10 + 1) ⟨0, rfl, Nat.zero_le _, rfl, by rw [decide_eq_true]; intro i hi; omega, .refl _⟩ ?_
    rintro k hd y g6 H6 ⟨m, rfl, hm, rfl, rfl, X6⟩
    unfold privitylaw21_ProductProofUnique.B1
    have zb6 := zb5.ext X6
    refine ⟨_, fz b2 1 (by decide), _, zb6.zt, ?_⟩
    have w2 : IntKind.i64.wrap (2 * (l10 : Int)) = ((2 * l10 : Nat) : Int) := by rw [w64 (by omega) (by omega)]; omega
    rw [w2]
    have hnext : ∀ (bb : Bool), bb = decide (∀ i, i < m + 1 → chkL l10 a b cc (othL l10 r tops l10) (ptL q i)) → ∀ H', Ext H6 H' → m < 2 * l10 + 1 → ∃ n', n' < 2 * l10 + 1 - m ∧ ∃ (y12 : Bool) (y13 : Int), Value.bool bb = .bool y12 ∧ Value.int .i64 (IntKind.i64.wrap ((m : Int) + 1)) = .int .i64 y13 ∧ ∃ m' : Nat, y13 = m' ∧ m' ≤ 2 * l10 + 1 ∧ n' = 2 * l10 + 1 - m' ∧ y12 = decide (∀ i, i < m' → chkL l10 a b cc (othL l10 r tops l10) (ptL q i)) ∧ Ext H5 H' := fun bb hb H' X hlt =>
      ⟨2 * l10 + 1 - m - 1, by omega, _, _, rfl, rfl, m + 1, nxt (n := 1000) (by omega) (by decide), by omega, by omega, hb, X6.trans X⟩
    by_cases e5 : (m : Int) ≤ ((2 * l10 : Nat) : Int)
    · rw [if_pos (decide_eq_true e5)]
      by_cases hh : ∀ i, i < m → chkL l10 a b cc (othL l10 r tops l10) (ptL q i)
      · rw [decide_eq_true hh, if_pos rfl]
        have hu : IntKind.u64.wrap (m : Int) = V (ptL q m) := by rw [V_ptL (by omega), w64_in (by omega) (by omega)]
        rw [hu]
        refine ⟨_, fz b2 0 (by decide), _, zb6.zp, _, fz b2 0 (by decide), _, zb6.zp, _, fz b2 2 (by decide), _, _, _, zb6.za, _, h_eval hp (a5.ext X6) (by omega) _ ⟨rfl, rfl⟩, _, fz b2 0 (by decide), _, zb6.zp, _, fz b2 3 (by decide), _, _, _, zb6.zb, _, h_eval hp (b5.ext X6) (by omega) _ ⟨rfl, rfl⟩, _, fz b2 0 (by decide), _, zb6.zp, _, fz b2 0 (by decide), _, zb6.zp, ?_⟩
        refine h_vals hp (Mo.ext X6) smo _ (fun A20 c20 H7 X7 r20 => ?_)
        rw [othL_len] at r20 ⊢
        refine ⟨_, _, _, rfl, zb6.zp.up' X7, zb6.zp.up' X7, _, h_eval hp (C5.ext (X6.trans X7)) (by omega) _ ⟨rfl, rfl⟩, _, h_verify hp _ _ _ _ r20 (by simp; omega) ⟨rfl, rfl⟩, ?_⟩
        refine hnext _ ?_ H7 X7 (by omega)
        rw [valsL_len, Bool.eq_iff_iff, decide_eq_true_iff, decide_eq_true_iff]
        constructor
        · intro h i hi
          by_cases e : i = m
          · rw [e]; exact h
          · exact hh i (by omega)
        · intro h
          exact h m (by omega)
      · rw [decide_eq_false hh, if_neg (by decide)]
        refine hnext false ?_ H6 (.refl _) (by omega)
        rw [decide_eq_false]
        exact fun h => hh (fun i hi => h i (by omega))
    · rw [if_neg (fun h => e5 (of_decide_eq_true h))]
      obtain rfl : m = 2 * l10 + 1 := by omega
      refine h_awakeP (fun H7 X7 => ⟨_, rfl, ?_⟩)
      rw [if_pos rfl]
      by_cases hs : ∀ i, i < l10 → cf tops i = cf (rowN D i) l10
      · rw [decide_eq_true hs] at hsm
        rw [← hsm, if_pos rfl]
        refine h_sameList (C5.ext (X6.trans X7)) (RC5.ext (X6.trans X7)) (by rw [vs_length]; unfold maxLen; omega) ⟨_, rfl, _, aq_eqbP unBoP _ _, ?_⟩
        by_cases he : cc = C
        · rw [decide_eq_true (hU.2 ⟨hs, he⟩), decide_eq_true (by rw [he])]; rfl
        · rw [decide_eq_false (fun h => he (hU.1 h).2), decide_eq_false (fun h => he (vs_inj h))]; rfl
      · rw [decide_eq_false hs] at hsm
        rw [← hsm, if_neg (by decide)]
        refine ⟨_, aq_eqbP unBoP _ _, ?_⟩
        rw [decide_eq_false (fun h => hs (hU.1 h).1)]; rfl
end
end Go.Proofs.Ytjkggiemnfigbaa.HL
end

/- Part M of: The statement ProductProofVerify: the law answers true whatever its arguments; no condition. -/
import Derived.Test.YtjkggiemnfigbaaZProductProofVerifyL
import Derived.KernelRfl
import Derived.Test.YtjkggiemnfigbaaProg
import Derived.Laws.Tables
section
set_option linter.unusedVariables false
set_option linter.unusedSimpArgs false
set_option linter.unusedSectionVars false
namespace Go.Proofs.Ytjkggiemnfigbaa.HL
open Go Go.Proofs.YtjkggiemnfigbaaNum Go.Proofs.Ytjkggiemnfigbaa.FEv
section
end
def PtAt (H : HH) (a : Addr) (q : Int × Int) : Prop := cellH H (a.add 0) = some (.int .u64 q.1) ∧ cellH H (a.add 1) = some (.int .u64 q.2)
section
variable {base : Nat} {H : HH} {a : Addr} {q : Int × Int}
theorem PtAt.ext {H' : HH} (h : PtAt H a q) (he : Ext H H') : PtAt H' a q := ⟨cellH_ext he h.1, cellH_ext he h.2⟩
theorem PtAt.x (h : PtAt H a q) : QRun Try.prog (Instr.loadAt 22 (.pointer (some (a.add 0)))) H (.int .u64 q.1) := q_ld sc22 h.1
theorem PtAt.y (h : PtAt H a q) : QRun Try.prog (Instr.loadAt 22 (.pointer (some (a.add 1)))) H (.int .u64 q.2) := q_ld sc22 h.2
end
def pc (l : List (Int × Int)) : List Value := l.flatMap fun q => [.int .u64 q.1, .int .u64 q.2]
def Pts (H : HH) (A : Option Addr) (n : Nat) (l : List (Int × Int)) : Prop := n = l.length ∧ Rd H A (pc l)
section
variable {base : Nat} {H : HH} {A : Option Addr} {n : Nat} {l : List (Int × Int)} {i : Int}
theorem Pts.ext {H' : HH} (h : Pts H A n l) (he : Ext H H') : Pts H' A n l := ⟨h.1, h.2.ext he⟩
theorem Pts.nil : Pts H none 0 [] := ⟨rfl, .inl rfl⟩
theorem addr_add' (a : Addr) (m n : Nat) : (a.add m).add n = a.add (m + n) := by
  unfold Addr.add
  by_cases hm : m = 0 <;> by_cases hn : n = 0 <;> simp_all [Nat.add_assoc]
end
section
end
def RowI (H : HH) (A : Option Addr) (n : Nat) (l : List Nat) : Prop := n = l.length ∧ Rd H A (ns l)
theorem RowI.ext {H H' : HH} {A : Option Addr} {n : Nat} {l : List Nat} (h : RowI H A n l) (he : Ext H H') : RowI H' A n l := ⟨h.1, h.2.ext he⟩
theorem RowI.nil {H : HH} : RowI H none 0 [] := ⟨rfl, .inl rfl⟩
theorem RowI.at {H : HH} {A : Option Addr} {n : Nat} {l : List Nat} (h : RowI H A n l) (c : Nat) {j : Nat} (hj : j < n) : ∃ a, AQ Try.prog (Instr.indexAt 88 (.slice A n c) (.int .i64 j)) (.pointer (some a)) ∧ QRun Try.prog (Instr.loadAt 3 (.pointer (some a))) H (.int .i64 ((l.getD j 0 : Nat) : Int)) := by
  obtain ⟨e, h⟩ := h
  subst e
  exact Piv.at h c hj
end Go.Proofs.Ytjkggiemnfigbaa.HL
end
section
set_option linter.unusedVariables false
set_option linter.unusedSimpArgs false
set_option linter.unusedSectionVars false
set_option maxHeartbeats 1000000
namespace Go.Proofs.Ytjkggiemnfigbaa.HL
open Go Go.Proofs.YtjkggiemnfigbaaNum Go.Proofs.Ytjkggiemnfigbaa.FEv
theorem Rd.take {H : HH} {A : Option Addr} {xs : List Value} (h : Rd H A xs) (k : Nat) : Rd H A (xs.take k) := by
  rcases h with e | ⟨ad, e, hc⟩
  · exact .inl (by rw [e]; simp)
  · exact .inr ⟨ad, e, fun i u hu => hc i u (by
      rw [List.getElem?_take] at hu
      split at hu
      · exact hu
      · cases hu)⟩
theorem w64 {x : Int} (h0 : -9223372036854775808 ≤ x) (h1 : x < 9223372036854775808) : IntKind.i64.wrap x = x := by
  unfold IntKind.wrap
  simp [IntKind.bits, IntKind.signed]
  omega
section
end
end Go.Proofs.Ytjkggiemnfigbaa.HL
end
section
set_option linter.unusedVariables false
set_option linter.unusedSimpArgs false
set_option linter.unusedSectionVars false
set_option maxHeartbeats 2000000
namespace Go.Proofs.Ytjkggiemnfigbaa.HL
open Go Go.RowKit Go.Proofs.YtjkggiemnfigbaaW.PrintWords Go.Proofs.YtjkggiemnfigbaaW.PrintMore Go.Proofs.Ytjkggiemnfigbaa.PF Go.Proofs.YtjkggiemnfigbaaNum Go.Proofs.Ytjkggiemnfigbaa.FEv
section
variable {p : Nat} [NeZero p] {base : Nat} {H : HH} {K : Value → HH → Prop} {A A' A'' : Option Addr} {n n' n'' c c' c'' : Nat}
theorem h_pow (hp : Sup p) (a : Fin p) {m : Int} (h0 : 0 ≤ m) (h1 : m < 18446744073709551616) (hk : K (.int .u64 (V (a ^ m.toNat))) H) : HCall Try.prog base 40 #[.int .u64 p, .int .u64 (V a), .int .u64 m] H K := by
  obtain ⟨k, hk'⟩ := (pow_evI hp a m h0 h1).rounds
  exact (HCall.drew (enters Try.func40 (by kernel_rfl)) (fun W => field_Pow.calls k _ _ _ _ W hk')).to hk
theorem h_reduce1 (hp : Sup p) (m : Int) (h0 : 0 ≤ m) (h1 : m < 18446744073709551616) (hk : K (.int .u64 (V (E m : Fin p))) H) : HCall Try.prog base 54 #[.int .u64 p, .int .u64 m] H K := by
  obtain ⟨k, hk'⟩ := (reduce_ev hp m h0 h1).rounds
  exact (HCall.drew (enters Try.func54 (by kernel_rfl)) (fun W => field_Reduce.calls k _ _ _ W hk')).to hk
theorem h_prove (hp : Sup p) {t : Nat} {a b r : List (Fin p)} (ha : Row H A n (vs a)) (hb : Row H A' n' (vs b)) (hr : Row H A'' n'' (vs r)) (t1 : 1 ≤ t) (t2 : t ≤ 100) (la : a.length = t + 1) (lb : b.length = t + 1) (lr : r.length = t * t) (hc : n'' ≤ c'')
    (hk : ∀ A1 c1 A2 c2 H', Ext H H' → MatC H' A1 t (ms (pD t r (pL t a b))) → Row H' A2 (t + 1) (vs (pC t r (pL t a b))) → t + 1 ≤ c2 → K (.tuple #[.slice A1 t c1, .slice A2 (t + 1) c2]) H') :
    HCall Try.prog base 17 #[.int .u64 p, .int .i64 t, .slice A n c, .slice A' n' c', .slice A'' n'' c''] H K := by
  have e1 := ha.1
  have e2 := hb.1
  have e3 := hr.1
  subst e1 e2 e3
  rw [vs_length] at hc
  have htt : t * t ≤ 10000 := Nat.mul_le_mul t2 t2
  have hpf := X.proveF_eq hp (t := t) a b r t1 (by omega) (by omega) (by omega) (by omega) (by omega)
  have lD : (ms (pD t r (pL t a b))).length = t := by rw [ms_length, pD_len]
  have lC : (vs (pC t r (pL t a b))).length = t + 1 := by rw [vs_length, pC_len (pL_len t a b)]
  have mz : ∀ {x : Nat}, x ≤ 10000 → x ≤ maxLen := fun h => by unfold maxLen; omega
  refine HCall.fresh (Q := fun W W' v => ∃ v0 v1, v = .tuple #[v0, v1] ∧ Kd.S (Kd.slice 22 (Kd.int .u64)) 23 W' W.heap.size (fun k_ => some k_ ≠ (v1 : Value).ownBlock) v0 (ms (pD t r (pL t a b))) ∧ Kd.R (Kd.int .u64) 22 W' W.heap.size (fun k_ => some k_ ≠ (v0 : Value).ownBlock) v1 (vs (pC t r (pL t a b)))) (enters Try.func17 (by kernel_rfl)) (fun W hs hb' => ?_) (fun W W' v hs hb' hq X => ?_)
  · have := X.prove_calls' (p : Int) (t : Int) A c (vs a) A' c' (vs b) A'' c'' (vs r) _ _ W (kd_row hs ha (by rw [vs_length]; exact mz (by omega))) (kd_row hs hb (by rw [vs_length]; exact mz (by omega))) (kd_row hs hr (by rw [vs_length]; exact mz (by omega))) (by rw [vs_length]; exact hc) hpf
    exact this.mono fun e W' ⟨v0, v1, h1, h2, h3, h4⟩ => ⟨_, h1, ⟨v0, v1, rfl, h2, h3⟩, h4⟩
  · obtain ⟨v0, v1, rfl, k0, k1⟩ := hq
    obtain ⟨A1, c1, rfl, hc1, M⟩ := mat_more (H := H) hb' k0
    obtain ⟨A2, c2, rfl, o2⟩ := row_more (H := H) hb' k1
    obtain ⟨A3, c3, e3, hc3, _⟩ := o2.slice
    cases e3
    have R2 := o2.row
    rw [lD] at M
    rw [lC] at R2
    have := hk A1 c1 A2 c2 _ X M R2 (by rw [lC] at hc3; exact hc3)
    rw [lD, lC]
    exact this
end
end Go.Proofs.Ytjkggiemnfigbaa.HL
end
section
set_option linter.unusedVariables false
set_option linter.unusedSimpArgs false
set_option linter.unusedSectionVars false
set_option maxHeartbeats 1000000
namespace Go.Proofs.Ytjkggiemnfigbaa.HL
open Go Go.Proofs.YtjkggiemnfigbaaNum Go.Proofs.Ytjkggiemnfigbaa.FEv
section
variable {base : Nat} {H H' F : HH} {v : Value} {b : Nat}
theorem Own.same {T sz n : Nat} {xs : List Value} (h : Own base H T sz v n xs) (hb : v.ownBlock ≠ some b) (he : ∀ k, k ≠ b → H' k = H k) : Own base H' T sz v n xs :=
  h.move (fun g o hg ho => by rw [he g (fun e => hb (by rw [hg, e]))]; exact ho)
theorem Frz.same (h : Frz F H v) (hF : F b = none) (he : ∀ k, k ≠ b → H' k = H k) : Frz F H' v :=
  ⟨fun k o hk => by rw [he k (fun e => by rw [e, hF] at hk; cases hk)]; exact h.ext k o hk, h.off⟩
end
section
end
end Go.Proofs.Ytjkggiemnfigbaa.HL
end
section
set_option linter.unusedVariables false
set_option linter.unusedSimpArgs false
set_option linter.unusedSectionVars false
set_option maxHeartbeats 1000000
namespace Go.Proofs.Ytjkggiemnfigbaa.HL
open Go Go.Proofs.YtjkggiemnfigbaaNum Go.Proofs.Ytjkggiemnfigbaa.FEv
section
end
section
variable {base : Nat} {H : HH}
/-- A set of words. -/
def SetW (H : HH) (b : Nat) (xs : List Int) : Prop := ∃ (es : Array MapEntry) (clock : Nat), H b = some (.map es clock) ∧ es.toList.map (fun e => (e.key, e.val)) = xs.map fun x => (Value.int .u64 x, Value.bool true)
end
end Go.Proofs.Ytjkggiemnfigbaa.HL
end
section
set_option linter.unusedVariables false
set_option linter.unusedSimpArgs false
set_option linter.unusedSectionVars false
set_option maxHeartbeats 1000000
namespace Go.Proofs.Ytjkggiemnfigbaa.HL
open Go Go.Proofs.YtjkggiemnfigbaaNum Go.Proofs.Ytjkggiemnfigbaa.FEv
theorem SetW.ext {H H' : HH} {b : Nat} {xs : List Int} (h : SetW H b xs) (he : Ext H H') : SetW H' b xs := by
  obtain ⟨es, c, h1, h2⟩ := h
  exact ⟨es, c, he _ _ h1, h2⟩
section
end
section
end
end Go.Proofs.Ytjkggiemnfigbaa.HL
end
section
set_option linter.unusedVariables false
set_option linter.unusedSimpArgs false
set_option linter.unusedSectionVars false
set_option maxHeartbeats 2000000
namespace Go.Proofs.Ytjkggiemnfigbaa.HL
open Go Go.Proofs.YtjkggiemnfigbaaNum Go.Proofs.Ytjkggiemnfigbaa.FEv
section
variable {p : Nat} [NeZero p] {base : Nat} {H : HH} {K : Value → HH → Prop} {A A' : Option Addr} {n n' c c' : Nat}
theorem row_lit {x : Int} {C : Value → HH → Prop} (hk : ∀ A' H', Ext H H' → Rd H' A' [.int .u64 x] → C (.slice A' 1 1) H') : HRun Try.prog base (Instr.buildSlice 23 1 #[(0, .int .u64 x)]) H C := by
  have hfill : Instr.fill (fun i => some (i * 1, 1)) (madeCells (Value.int .u64 0).cells (1 * 1)) [(0, .int .u64 x)] = some #[.int .u64 x] := by
    simp [Instr.fill, madeCells, Value.cells, show Array.range 1 = #[0] from by decide]
  refine h_lit (sz := 1) (z := .int .u64 0) (cs := #[.int .u64 x]) un32 (by kernel_rfl) (by decide) hfill (by decide) (fun gb hgb hbase => hk _ _ (Ext.upd hgb _) (.inr ⟨_, rfl, fun i w hw => ?_⟩))
  match i, hw with
  | 0, hw =>
    cases hw
    show cellH _ ((⟨gb, 0, none⟩ : Addr).add 0) = _
    simp [Addr.add, cellH, upd_self]
end
end Go.Proofs.Ytjkggiemnfigbaa.HL
end
namespace Go.Proofs.Ytjkggiemnfigbaa.HL
end Go.Proofs.Ytjkggiemnfigbaa.HL
namespace Go.Proofs.Ytjkggiemnfigbaa.HL
end Go.Proofs.Ytjkggiemnfigbaa.HL
section
set_option linter.unusedVariables false
set_option linter.unusedSimpArgs false
set_option linter.unusedSectionVars false
set_option maxHeartbeats 4000000
namespace Go.Proofs.Ytjkggiemnfigbaa.HL
open Go Go.Proofs.YtjkggiemnfigbaaNum Go.Proofs.Ytjkggiemnfigbaa.FEv
theorem aq_eqbP {P : Program} {t : TypeId} (ht : P.underlying t = some .bool) {x y : Operand} (u v : Bool) : AQ P (binSem .eql t x y (.bool u) (.bool v)) (.bool (u == v)) := fun W => by
  have e : (Op.equal t (.bool u) (.bool v)).run P W = .ok (u == v) W := by
    show (Op.equalIn (_ + 1) t (.bool u) (.bool v)).run P W = _
    unfold Op.equalIn
    simp [run_under ht]
  have e2 : (eqGuard .eql t x y (.bool u) (.bool v)).run P W = .ok () W := by
    unfold eqGuard
    cases u <;> cases v <;> simp [bind, Sem.bind, pure, Sem.run]
  unfold binSem
  simp [binOp, e, e2]
theorem unBoP : Try.prog.underlying 4 = some .bool := by kernel_rfl
theorem aq_remP {P : Program} {k : IntKind} {t : TypeId} {x y : Operand} {a b : Int} (hb : b ≠ 0) : AQ P (binSem .rem t x y (.int k a) (.int k b)) (.int k (Int.tmod a b)) := fun W => by
  simp [binSem, eqGuard, binOp, Op.intDiv, hb, bind, Sem.bind, pure, Sem.run]
section
variable {p : Nat} [NeZero p] {base : Nat} {H : HH} {K : Value → HH → Prop} {A A' : Option Addr} {n n' c c' : Nat}
theorem vsum_step (x : Fin p) (i : Nat) (f : Nat → Fin p) (w : Fin p) : w - vsum x i f - x ^ (i + 1) * f i = w - vsum x (i + 1) f := by
  unfold vsum
  show _ = w - (sumF i _ + _)
  grind
theorem vsum_nil (x : Fin p) (f : Nat → Fin p) (w : Fin p) : w = w - vsum x 0 f := by unfold vsum; show w = w - 0; grind
theorem V_beq (a b : Fin p) : (V a == V b) = decide (a = b) := by
  by_cases h : a = b
  · rw [h]; simp
  · have : V a ≠ V b := fun e => h (V_inj.1 e)
    simp [h, this]
theorem h_verify (hp : Sup p) (x a b y : Fin p) {d : List (Fin p)} (h : Row H A n (vs d)) (hz : d.length ≤ 1000) (hk : K (.bool (decide (a * b - vsum x d.length (cf d) = y))) H) : HCall Try.prog base 22 #[.int .u64 p, .int .u64 (V x), .int .u64 (V a), .int .u64 (V b), .slice A n c, .int .u64 (V y)] H K := by
  refine productproof_Verify.spec ?_
  unfold productproof_Verify.sh
  have e1 := h.1
  rw [vs_length] at e1
  have hx := V64 hp x
  refine h_mul hp _ _ ⟨_, rfl, h_reduce1 hp _ hx.1 (by omega) ⟨_, rfl, ?_⟩⟩
  rw [E_V]
  refine productproof_Verify.loop0 (fun k y1 y2 y3 H' => H' = H ∧ ∃ i : Nat, y3 = i ∧ i ≤ n ∧ k = n - i ∧ y1 = V (a * b - vsum x i (cf d)) ∧ y2 = V (x ^ (i + 1))) n ⟨rfl, 0, rfl, Nat.zero_le _, rfl, by rw [← vsum_nil], by rw [pw_one]⟩ ?_
  rintro k y1 y2 y3 g H' ⟨rfl, i, rfl, hi, rfl, rfl, rfl⟩
  unfold productproof_Verify.B0
  split
  · rename_i e
    have e := of_decide_eq_true e
    obtain ⟨a1, q1, q2⟩ := h.at c (i := i) (by omega) e
    rw [Int.toNat_natCast, vs_get] at q2
    refine ⟨a1, q1, _, q2, h_mul hp _ _ ⟨_, rfl, h_sub hp _ _ ⟨_, rfl, h_mul hp _ _ ⟨_, rfl, ?_⟩⟩⟩⟩
    exact ⟨n - i - 1, by omega, _, _, _, rfl, rfl, rfl, rfl, i + 1, nxt (n := n) (by omega) (by unfold maxLen; omega), by omega, by omega, by rw [vsum_step], by rw [pw_succ x (i + 1)]⟩
  · rename_i e
    have e : ¬ ((i : Int) < (n : Int)) := fun h => e (decide_eq_true h)
    have : i = d.length := by omega
    subst this
    rw [V_beq]
    exact hk
theorem h_rverify (hp : Sup p) (x a b y : Fin p) {d : List (Fin p)} (h : Row H A n (vs d)) (hz : d.length ≤ 1000) (hk : K (.bool (decide (a * b - vsum x d.length (cf d) = y))) H) : HCall Try.prog base 41 #[.int .u64 p, .int .u64 (V x), .int .u64 (V a), .int .u64 (V b), .slice A n c, .int .u64 (V y)] H K := by
  refine privityref21_Verify.spec ?_
  unfold privityref21_Verify.sh
  have e1 := h.1
  rw [vs_length] at e1
  refine h_rmul hp _ _ ⟨_, rfl, ?_⟩
  refine privityref21_Verify.loop0 (fun k y1 y2 y3 H' => H' = H ∧ ∃ i : Nat, y3 = i ∧ i ≤ n ∧ k = n - i ∧ y1 = V (a * b - vsum x i (cf d)) ∧ y2 = V (x ^ i)) n ⟨rfl, 0, rfl, Nat.zero_le _, rfl, by rw [← vsum_nil], by rw [pw_zero, V_one hp]⟩ ?_
  rintro k y1 y2 y3 g H' ⟨rfl, i, rfl, hi, rfl, rfl, rfl⟩
  unfold privityref21_Verify.B0
  split
  · rename_i e
    have e := of_decide_eq_true e
    obtain ⟨a1, q1, q2⟩ := h.at c (i := i) (by omega) e
    rw [Int.toNat_natCast, vs_get] at q2
    refine h_rmul hp _ _ ⟨_, rfl, a1, q1, _, q2, h_rmul hp _ _ ⟨_, rfl, h_rsub hp _ _ ⟨_, rfl, ?_⟩⟩⟩
    refine ⟨n - i - 1, by omega, _, _, _, rfl, rfl, rfl, rfl, i + 1, nxt (n := n) (by omega) (by unfold maxLen; omega), by omega, by omega, ?_, by rw [pw_succ]⟩
    rw [← pw_succ, vsum_step]
  · rename_i e
    have e : ¬ ((i : Int) < (n : Int)) := fun h => e (decide_eq_true h)
    have : i = d.length := by omega
    subst this
    rw [V_beq]
    exact hk
end
abbrev tCase : Nat := 25
/-- What lies in a case's variable. -/
def ZB (H : HH) (b : Nat) (P T : Int) (A2 : Option Addr) (n2 c2 : Nat) (A3 : Option Addr) (n3 c3 : Nat) (A4 : Option Addr) (n4 c4 : Nat) : Prop := H b = some (.cells #[.int .u64 P, .int .i64 T, .slice A2 n2 c2, .slice A3 n3 c3, .slice A4 n4 c4] tCase (0, 0))
section
variable {base : Nat} {H : HH} {K : Value → HH → Prop} {A2 A3 A4 : Option Addr} {n2 n3 n4 c2 c3 c4 b : Nat} {P T : Int} {la lb lr : List Int}
theorem ZB.ext {H' : HH} (h : ZB H b P T A2 n2 c2 A3 n3 c3 A4 n4 c4) (he : Ext H H') : ZB H' b P T A2 n2 c2 A3 n3 c3 A4 n4 c4 := he _ _ h
theorem ZB.all (h : ZB H b P T A2 n2 c2 A3 n3 c3 A4 n4 c4) : QRun Try.prog (Instr.loadAt tCase (.pointer (some ⟨b, 0, none⟩))) H (.agg #[.int .u64 P, .int .i64 T, .slice A2 n2 c2, .slice A3 n3 c3, .slice A4 n4 c4]) :=
  q_lda (cs := [.int .u64 P, .int .i64 T, .slice A2 n2 c2, .slice A3 n3 c3, .slice A4 n4 c4]) (by kernel_rfl) (by kernel_rfl) (fun j u hu => by
    rw [add0, cellH_blk h, ← Array.getElem?_toList]
    exact hu)
theorem liftV {q : Nat} [NeZero q] {l : List Int} (h : ∀ x ∈ l, 0 ≤ x) (h2 : ∀ x ∈ l, x < (q : Int)) : vs (l.map E : List (Fin q)) = l := by
  unfold vs
  rw [List.map_map]
  conv => rhs; rw [← List.map_id l]
  exact List.map_congr_left (fun x hx => V_E_lt (h x hx) (h2 x hx))
theorem below_of {p most : Int} {l : List Int} (h : belowB p l most = true) : (l.length : Int) ≤ most ∧ ∀ x ∈ l, x < p := by
  unfold belowB at h
  rw [Bool.and_eq_true, List.all_eq_true] at h
  exact ⟨of_decide_eq_true h.1, fun x hx => of_decide_eq_true (h.2 x hx)⟩
theorem row_lit2 {x y : Int} {C : Value → HH → Prop} (hk : ∀ A' H', Ext H H' → Row H' A' 2 [x, y] → C (.slice A' 2 2) H') : HRun Try.prog base (Instr.buildSlice 23 2 #[(0, .int .u64 x), (1, .int .u64 y)]) H C := by
  have hfill : Instr.fill (fun i => some (i * 1, 1)) (madeCells (Value.int .u64 0).cells (2 * 1)) [(0, .int .u64 x), (1, .int .u64 y)] = some #[.int .u64 x, .int .u64 y] := by kernel_rfl
  refine h_lit (sz := 1) (z := .int .u64 0) (cs := #[.int .u64 x, .int .u64 y]) un32 (by kernel_rfl) (by decide) hfill (by decide) (fun gb hgb hbase => ?_)
  have ho := Own.lit (H := H) (T := 22) (sz := 1) hbase #[.int .u64 x, .int .u64 y] 2 (by decide) (by simp)
  exact hk _ _ (Ext.upd hgb _) (Own.row (l := [x, y]) ho)
theorem row_lit1 {x : Int} {C : Value → HH → Prop} (hk : ∀ A' H', Ext H H' → Row H' A' 1 [x] → C (.slice A' 1 1) H') : HRun Try.prog base (Instr.buildSlice 23 1 #[(0, .int .u64 x)]) H C :=
  row_lit (fun A' H' X r => hk A' H' X ⟨rfl, r⟩)
theorem mat_lit1 {A : Option Addr} {n c : Nat} {l : List Int} (h : Row H A n l) {C : Value → HH → Prop} (hk : ∀ A' H', Ext H H' → Mat H' A' 1 [l] → C (.slice A' 1 1) H') : HRun Try.prog base (Instr.buildSlice 28 1 #[(0, .slice A n c)]) H C := by
  have hfill : Instr.fill (fun i => some (i * 1, 1)) (madeCells (Value.slice none 0 0).cells (1 * 1)) [(0, .slice A n c)] = some #[.slice A n c] := by kernel_rfl
  refine h_lit (sz := 1) (z := .slice none 0 0) (cs := #[.slice A n c]) un23 (by kernel_rfl) (by decide) hfill (by decide) (fun gb hgb hbase => ?_)
  have X : Ext H (upd H gb (.cells #[.slice A n c] 23)) := Ext.upd hgb _
  refine hk _ _ X ⟨rfl, [.slice A n c], rfl, .inr ⟨_, rfl, fun i u hu => ?_⟩, fun i l' hl => ?_⟩
  · rw [add0, cellH_blk (upd_self _ _ _), ← Array.getElem?_toList]
    exact hu
  · have hi := (List.getElem?_eq_some_iff.1 hl).1
    have : i = 0 := by simp at hi; exact hi
    subst this
    have : l = l' := by simpa using hl
    subst this
    exact ⟨A, c, by rw [h.1]; rfl, h.2.ext X⟩
theorem sup31P : Sup 31 := .inl rfl
theorem h_awakeP (hk : ∀ H', Ext H H' → K (.bool true) H') : HCall Try.prog base 16 #[] H K := by
  refine privitylaw21_awake.spec ?_
  unfold privitylaw21_awake.sh
  refine row_lit2 (fun A1 H1 X1 r1 => ⟨_, _, _, rfl, row_lit2 (fun A2 H2 X2 r2 => ⟨_, _, _, rfl, row_lit1 (fun A3 H3 X3 r3 => ⟨_, _, _, rfl, ?_⟩)⟩)⟩)
  have ra : Row H3 A1 2 (vs ([2, 3] : List (Fin 31))) := (r1.ext X2).ext X3
  have rb : Row H3 A2 2 (vs ([4, 5] : List (Fin 31))) := r2.ext X3
  have rr : Row H3 A3 1 (vs ([7] : List (Fin 31))) := r3
  refine h_prove (p := 31) (t := 1) sup31P ra rb rr (by decide) (by decide) rfl rfl rfl (by decide) (fun A4 c4 A5 c5 H4 X4 M4 R5 _ => ⟨_, _, _, _, _, _, rfl, ?_⟩)
  have eD : ms (pD 1 ([7] : List (Fin 31)) (pL 1 [2, 3] [4, 5])) = [[7, 15]] := by decide +kernel
  have eC : vs (pC 1 ([7] : List (Fin 31)) (pL 1 [2, 3] [4, 5])) = [8, 15] := by decide +kernel
  rw [eD] at M4
  rw [eC] at R5
  refine row_lit2 (fun A6 H6 X6 r6 => ⟨_, _, _, rfl, mat_lit1 r6 (fun A7 H7 X7 m7 => ⟨_, _, _, rfl, ?_⟩)⟩)
  refine h_same (M4.mat.ext (X6.trans X7)) m7 (by decide) (by decide) ⟨_, rfl, ?_⟩
  rw [if_pos (by decide)]
  refine row_lit2 (fun A8 H8 X8 r8 => ⟨_, _, _, rfl, ?_⟩)
  refine h_sameList (R5.ext (X6.trans (X7.trans X8))) r8 (by decide) ⟨_, rfl, ?_⟩
  rw [if_pos (by decide)]
  refine row_lit1 (fun A9 H9 X9 r9 => ⟨_, _, _, rfl, ?_⟩)
  have r9' : Row H9 A9 1 (vs ([6] : List (Fin 31))) := r9
  refine h_verify (p := 31) sup31P 2 8 14 7 r9' (by decide) ⟨_, rfl, ?_⟩
  rw [if_pos (by decide +kernel)]
  refine row_lit1 (fun A10 H10 X10 r10 => ⟨_, _, _, rfl, ?_⟩)
  have r10' : Row H10 A10 1 (vs ([6] : List (Fin 31))) := r10
  refine h_verify (p := 31) sup31P 2 8 14 8 r10' (by decide) ⟨_, rfl, ?_⟩
  have ef : (!decide ((8 : Fin 31) * 14 - vsum 2 ([6] : List (Fin 31)).length (cf [6]) = 8)) = true := by decide +kernel
  rw [ef]
  exact hk H10 (X1.trans (X2.trans (X3.trans (X4.trans (X6.trans (X7.trans (X8.trans (X9.trans X10))))))))
end
end Go.Proofs.Ytjkggiemnfigbaa.HL
end
section
set_option linter.unusedVariables false
set_option linter.unusedSimpArgs false
set_option linter.unusedSectionVars false
set_option maxHeartbeats 4000000
namespace Go.Proofs.Ytjkggiemnfigbaa.HL
open Go Go.Proofs.YtjkggiemnfigbaaNum Go.Proofs.Ytjkggiemnfigbaa.FEv
section
variable {base : Nat} {H0 H : HH} {A : Option Addr} {n c : Nat} {rs : List Value} {w : List (List Int)}
/-- Only a block has turned that is none of theirs. -/
theorem Rows.same (h : Rows base H0 H A n c rs w) {H' : HH} {g : Nat} (hn : H0 g = none) {cur : Array Value} {T : Nat} (hg : H g = some (.cells cur T (0, 0))) (hT : 23 ≠ T) (hd : ∀ (i : Nat) (v : Value), rs[i]? = some v → v.ownBlock ≠ some g) (he : ∀ k, k ≠ g → H' k = H k) : Rows base H0 H' A n c rs w where
  ext := fun b x hx => by rw [he b (fun e => by rw [e, hn] at hx; cases hx)]; exact h.ext b x hx
  own := h.own.same (h.own.tag hg hT) he
  fo := h.fo
  len := h.len
  rows := fun i l hl => by
    obtain ⟨A1, c1, h6, h7, h8⟩ := h.rows i l hl
    exact ⟨A1, c1, h6, h7.same (hd i _ h6) he, h8⟩
  dist := h.dist
theorem Rows.known (h : Rows base H0 H A n c rs w) {i : Nat} {v : Value} (hv : rs[i]? = some v) {b : Nat} (hb : v.ownBlock = some b) : ∃ cur, H b = some (.cells cur 22 (0, 0)) := by
  have hi : i < w.length := by
    have h1 := (List.getElem?_eq_some_iff.1 hv).1
    have h2 := h.own.1
    rw [h.len]; omega
  obtain ⟨A1, c1, h6, h7, _⟩ := h.rows i _ (List.getElem?_eq_getElem hi)
  rw [hv] at h6
  cases h6
  exact (h7.known hb).2
end
section
variable {p : Nat} [NeZero p] {base : Nat} {H : HH} {K : Value → HH → Prop} {A A' A'' : Option Addr} {n n' n'' c c' c'' : Nat}
theorem Row.sub {l : List Int} (h : Row H A n l) (hc : n ≤ c) {a b : Nat} (h1 : a ≤ b) (h2 : b ≤ l.length) : ∃ A' c', AQ Try.prog (Instr.sliceAt 23 (.slice A n c) (some (.int .i64 a)) (some (.int .i64 b)) none) (.slice A' (b - a) c') ∧ Row H A' (b - a) ((l.drop a).take (b - a)) ∧ b - a ≤ c' := by
  have e1 := h.1
  refine ⟨if c = a then A else A.map (·.add (a * 1)), c - a, fun W => ?_, ⟨by rw [List.length_take, List.length_drop]; omega, ?_⟩, by omega⟩
  · have he : Try.prog.elem 23 = 22 := by unfold Program.elem; rw [un32]
    have hh := run_slice_lh W 23 A n c (he.symm ▸ un32) .i64 .i64 a b (by omega) (by omega) (by omega)
    rw [run_sliceAt_slice W 23 _ _ _ _ (he.symm ▸ un32), hh, he, run_sz info22]
    simp only [Result.andThen, sliced, Int.toNat_natCast]
  · by_cases e : a = b
    · left
      rw [e, Nat.sub_self]
      rfl
    · rcases h.2 with h3 | ⟨ad, rfl, h3⟩
      · have := congrArg List.length h3
        rw [us_length] at this
        have : l.length = 0 := this
        omega
      · rw [if_neg (by omega)]
        refine .inr ⟨_, rfl, fun i u hu => ?_⟩
        rw [Nat.mul_one, addr_add']
        refine h3 _ u ?_
        unfold us at hu ⊢
        rw [List.map_take, List.map_drop, List.getElem?_take] at hu
        split at hu
        · rw [List.getElem?_drop] at hu; exact hu
        · cases hu
end
end Go.Proofs.Ytjkggiemnfigbaa.HL
end
namespace Go.Proofs.Ytjkggiemnfigbaa.HL
end Go.Proofs.Ytjkggiemnfigbaa.HL
section
set_option linter.unusedVariables false
set_option linter.unusedSimpArgs false
set_option maxRecDepth 100000
namespace Go.Proofs.Ytjkggiemnfigbaa.HL
open Go
def privitylaw21_ProductProofProve.ann : Ann := ⟨fun k => [], fun k => false, fun k => []⟩
def privitylaw21_ProductProofVerify.ann : Ann := ⟨fun k => bif Nat.beq k 3 then [] else bif Nat.beq k 8 then [] else [], fun k => false, fun k => bif Nat.beq k 6 then [0, 2, 7, 8, 9, 10, 11, 12] else []⟩
def privitylaw21_ProductProofVerify.P0 (base : Nat) (l : List Value) (H0 : HH) (K : Value → HH → Prop) : Prop := HCodeL Try.prog base 95 (codeAt [.r, .r, .r, .r, .l, .r, .b] (bodyOf Try.f11)) [0, 2, 7, 8, 9, 10, 11, 12] l H0 (qAt Try.prog base 95 privitylaw21_ProductProofVerify.ann [.r, .r, .r, .r, .l, .r, .b] [] (bodyOf Try.f11) (retQ Try.prog 95 Try.f11 K))
def privitylaw21_ProductProofVerify.sh (base : Nat) (x0 : Int) (x1_0 : Int) (x1_1 : Int) (x1_2 : Int) (x1_3 : Int) (Ax2 : Option Addr) (lx2 cx2 : Nat) (H0 : HH) (K : Value → HH → Prop) : Prop :=
 HRun Try.prog base (Instr.box 64 (.agg #[(.int .u64 x1_0), (.int .u64 x1_1), (.int .u64 x1_2), (.int .u64 x1_3)])) H0 fun v1 H2 =>
 ∃ a3 : Addr, v1 = (.pointer ((some a3))) ∧ HCall Try.prog base 25 #[(.int .u64 x0)] H2 fun v4 H5 =>
 ∃ b6 : Bool, v4 = (.bool b6) ∧ if (!b6) = false then
 HCall Try.prog base 26 #[(.int .u64 x0), (.slice Ax2 lx2 cx2), (.int .i64 6)] H5 fun v7 H8 =>
 ∃ b9 : Bool, v7 = (.bool b9) ∧ if (!b9) = true then
 HCall Try.prog base 16 #[] H8 fun v10 H11 =>
 ∃ b12 : Bool, v10 = (.bool b12) ∧ K (.bool b12) H11
 else
 ∃ a13 : Addr, AQ Try.prog (Instr.indexAt 64 (.pointer ((some a3))) (.int .i64 0)) (.pointer ((some a13))) ∧
 ∃ n14 : Int, QRun Try.prog (Instr.loadAt 22 (.pointer ((some a13)))) H8 (.int .u64 n14) ∧
 ∃ n15 : Int, AQ Try.prog (binSem .rem 22 (.tmp 24) (.tmp 25) (.int .u64 n14) (.int .u64 x0)) (.int .u64 n15) ∧
 ∃ a16 : Addr, AQ Try.prog (Instr.indexAt 64 (.pointer ((some a3))) (.int .i64 1)) (.pointer ((some a16))) ∧
 ∃ n17 : Int, QRun Try.prog (Instr.loadAt 22 (.pointer ((some a16)))) H8 (.int .u64 n17) ∧
 ∃ n18 : Int, AQ Try.prog (binSem .rem 22 (.tmp 28) (.tmp 29) (.int .u64 n17) (.int .u64 x0)) (.int .u64 n18) ∧
 ∃ a19 : Addr, AQ Try.prog (Instr.indexAt 64 (.pointer ((some a3))) (.int .i64 2)) (.pointer ((some a19))) ∧
 ∃ n20 : Int, QRun Try.prog (Instr.loadAt 22 (.pointer ((some a19)))) H8 (.int .u64 n20) ∧
 ∃ n21 : Int, AQ Try.prog (binSem .rem 22 (.tmp 32) (.tmp 33) (.int .u64 n20) (.int .u64 x0)) (.int .u64 n21) ∧
 ∃ a22 : Addr, AQ Try.prog (Instr.indexAt 64 (.pointer ((some a3))) (.int .i64 3)) (.pointer ((some a22))) ∧
 ∃ n23 : Int, QRun Try.prog (Instr.loadAt 22 (.pointer ((some a22)))) H8 (.int .u64 n23) ∧
 ∃ n24 : Int, AQ Try.prog (binSem .rem 22 (.tmp 36) (.tmp 37) (.int .u64 n23) (.int .u64 x0)) (.int .u64 n24) ∧
 HCall Try.prog base 21 #[(.int .u64 x0), (.int .u64 n18), (.int .u64 n21)] H8 fun v25 H26 =>
 ∃ n27 : Int, v25 = (.int .u64 n27) ∧ privitylaw21_ProductProofVerify.P0 base [(.int .u64 x0), (.slice Ax2 lx2 cx2), (.int .u64 n15), (.int .u64 n18), (.int .u64 n21), (.int .u64 n24), (.int .u64 n27), (.int .i64 0)] H26 K
 else
 HCall Try.prog base 16 #[] H5 fun v28 H29 =>
 ∃ b30 : Bool, v28 = (.bool b30) ∧ K (.bool b30) H29
theorem privitylaw21_ProductProofVerify.spec {base : Nat} {x0 : Int} {x1_0 : Int} {x1_1 : Int} {x1_2 : Int} {x1_3 : Int} {Ax2 : Option Addr} {lx2 cx2 : Nat} {H0 : HH} {K : Value → HH → Prop} (h : privitylaw21_ProductProofVerify.sh base x0 x1_0 x1_1 x1_2 x1_3 Ax2 lx2 cx2 H0 K) : HCall Try.prog base 11 #[(.int .u64 x0), (.agg #[(.int .u64 x1_0), (.int .u64 x1_1), (.int .u64 x1_2), (.int .u64 x1_3)]), (.slice Ax2 lx2 cx2)] H0 K := spec_of_wpC (n := 95) (ann := privitylaw21_ProductProofVerify.ann) mix Try.func11 (by kernel_rfl) (cast (show privitylaw21_ProductProofVerify.sh base x0 x1_0 x1_1 x1_2 x1_3 Ax2 lx2 cx2 H0 K = wpC Try.prog base 95 privitylaw21_ProductProofVerify.ann (bodyOf Try.f11) (ofL [(.int .u64 x0), (.agg #[(.int .u64 x1_0), (.int .u64 x1_1), (.int .u64 x1_2), (.int .u64 x1_3)]), (.slice Ax2 lx2 cx2)]) H0 (retQ Try.prog 95 Try.f11 K) by kernel_rfl) h)
def privitylaw21_ProductProofVerify.B0 (base : Nat) (x0 : Int) (Ax2 : Option Addr) (lx2 cx2 : Nat) (x7 x8 x9 x10 : Int) (y11 : Int) (y12 : Int) (g : Fr) (N0 : Value → Value → HH → Prop) (H0 : HH) (K : Value → HH → Prop) : Prop :=
 if (decide ((y12 : Int) < (((lx2 : Nat) : Int)))) = true then
 ∃ n31 : Int, HCall Try.prog base 40 #[(.int .u64 x0), (.int .u64 x7), (.int .u64 ((IntKind.u64.wrap ((IntKind.i64.wrap (y12 + 1))))))] H0 (fun v_ H_ => v_ = (.int .u64 n31) ∧ H_ = H0) ∧
 ∃ a32 : Addr, AQ Try.prog (Instr.indexAt 23 (.slice Ax2 lx2 cx2) (.int .i64 y12)) (.pointer ((some a32))) ∧
 ∃ n33 : Int, QRun Try.prog (Instr.loadAt 22 (.pointer ((some a32)))) H0 (.int .u64 n33) ∧
 ∃ n34 : Int, HCall Try.prog base 21 #[(.int .u64 x0), (.int .u64 n31), (.int .u64 n33)] H0 (fun v_ H_ => v_ = (.int .u64 n34) ∧ H_ = H0) ∧
 ∃ n35 : Int, HCall Try.prog base 39 #[(.int .u64 x0), (.int .u64 y11), (.int .u64 n34)] H0 (fun v_ H_ => v_ = (.int .u64 n35) ∧ H_ = H0) ∧
 N0 (.int .u64 n35) (.int .i64 ((IntKind.i64.wrap (y12 + 1)))) H0
 else
 HCall Try.prog base 16 #[] H0 fun v36 H37 =>
 ∃ b38 : Bool, v36 = (.bool b38) ∧ if b38 = true then
 HCall Try.prog base 22 #[(.int .u64 x0), (.int .u64 x7), (.int .u64 x8), (.int .u64 x9), (.slice Ax2 lx2 cx2), (.int .u64 x10)] H37 fun v39 H40 =>
 ∃ b41 : Bool, v39 = (.bool b41) ∧ HCall Try.prog base 41 #[(.int .u64 x0), (.int .u64 x7), (.int .u64 x8), (.int .u64 x9), (.slice Ax2 lx2 cx2), (.int .u64 x10)] H40 fun v42 H43 =>
 ∃ b44 : Bool, v42 = (.bool b44) ∧ ∃ b45 : Bool, AQ Try.prog (binSem .eql 4 (.tmp 72) (.tmp 79) (.bool b41) (.bool b44)) (.bool b45) ∧
 if b45 = true then
 HCall Try.prog base 22 #[(.int .u64 x0), (.int .u64 x7), (.int .u64 x8), (.int .u64 x9), (.slice Ax2 lx2 cx2), (.int .u64 x10)] H43 fun v46 H47 =>
 ∃ b48 : Bool, v46 = (.bool b48) ∧ ∃ b49 : Bool, AQ Try.prog (binSem .eql 4 (.tmp 89) (.tmp 92) (.bool b48) (.bool (((x10 : Int) == y11)))) (.bool b49) ∧
 K (.bool b49) H47
 else
 K (.bool false) H43
 else
 K (.bool false) H37
theorem privitylaw21_ProductProofVerify.loop0 {base : Nat} {x0 : Int} {Ax2 : Option Addr} {lx2 cx2 : Nat} {x7 x8 x9 x10 y11_i y12_i : Int} {H0 : HH} {K : Value → HH → Prop} (J : Nat → Int → Int → HH → Prop) (n : Nat) (h0 : J n y11_i y12_i H0)
    (hs : ∀ (n : Nat) (y11 : Int) (y12 : Int) (g : Fr) (H0 : HH), J n y11 y12 H0 → privitylaw21_ProductProofVerify.B0 base x0 Ax2 lx2 cx2 x7 x8 x9 x10 y11 y12 g (fun w11 w12 H => ∃ n', n' < n ∧ ∃ (y11' : Int) (y12' : Int), w11 = (.int .u64 y11') ∧ w12 = (.int .i64 y12') ∧ J n' y11' y12' H) H0 K) : privitylaw21_ProductProofVerify.P0 base [(.int .u64 x0), (.slice Ax2 lx2 cx2), (.int .u64 x7), (.int .u64 x8), (.int .u64 x9), (.int .u64 x10), (.int .u64 y11_i), (.int .i64 y12_i)] H0 K := by
  refine loop_rule (ann := privitylaw21_ProductProofVerify.ann) (body := codeAt [.r, .r, .r, .r, .l, .r, .b, .lp] (bodyOf Try.f11)) mix (by kernel_rfl) 18446735277616535552 (by kernel_rfl) [0, 2, 7, 8, 9, 10] [(.int .u64 x0), (.slice Ax2 lx2 cx2), (.int .u64 x7), (.int .u64 x8), (.int .u64 x9), (.int .u64 x10)] (by kernel_rfl) (fun fr ⟨e0, e2, e7, e8, e9, e10, e11, e12, _⟩ => ⟨e0, e2, e7, e8, e9, e10, trivial⟩) (fun n g H => ∃ (y11 : Int) (y12 : Int), g 11 = (.int .u64 y11) ∧ g 12 = (.int .i64 y12) ∧ J n y11 y12 H) n (fun fr ⟨e0, e2, e7, e8, e9, e10, e11, e12, _⟩ => ⟨y11_i, y12_i, e11, e12, h0⟩) ?_
  rintro n g H0 ⟨e0, e2, e7, e8, e9, e10, _⟩ ⟨y11, y12, e11, e12, hJ⟩
  rw [← ov_eq (g := g) [(0, (.int .u64 x0)), (2, (.slice Ax2 lx2 cx2)), (7, (.int .u64 x7)), (8, (.int .u64 x8)), (9, (.int .u64 x9)), (10, (.int .u64 x10)), (11, (.int .u64 y11)), (12, (.int .i64 y12))] (by simp only [List.mem_cons, List.not_mem_nil, or_false, forall_eq_or_imp, forall_eq, false_implies, implies_true]; exact ⟨e0, e2, e7, e8, e9, e10, e11, e12⟩)]
  have key : ∀ NN : Value → Value → HH → Prop, privitylaw21_ProductProofVerify.B0 base x0 Ax2 lx2 cx2 x7 x8 x9 x10 y11 y12 g NN H0 K = wpC Try.prog base 95 privitylaw21_ProductProofVerify.ann (codeAt [.r, .r, .r, .r, .l, .r, .b, .lp] (bodyOf Try.f11)) (ov g [(0, (.int .u64 x0)), (2, (.slice Ax2 lx2 cx2)), (7, (.int .u64 x7)), (8, (.int .u64 x8)), (9, (.int .u64 x9)), (10, (.int .u64 x10)), (11, (.int .u64 y11)), (12, (.int .i64 y12))]) H0 (thenQ (fun fr H => NN (fr 11) (fr 12) H) (qAt Try.prog base 95 privitylaw21_ProductProofVerify.ann [.r, .r, .r, .r, .l, .r, .b] [] (bodyOf Try.f11) (retQ Try.prog 95 Try.f11 K))) := fun NN => by kernel_rfl
  refine cast ?_ (hs n y11 y12 g H0 hJ)
  refine (key (fun w11 w12 H => ∃ n', n' < n ∧ ∃ (y11' : Int) (y12' : Int), w11 = (.int .u64 y11') ∧ w12 = (.int .i64 y12') ∧ J n' y11' y12' H)).trans ?_
  kernel_rfl
def privitylaw21_ProductProofZeroKnowledge.ann : Ann := ⟨fun k => bif Nat.beq k 9 then [] else bif Nat.beq k 20 then [4, 9, 10] else bif Nat.beq k 22 then [16] else bif Nat.beq k 23 then [] else [], fun k => false, fun k => bif Nat.beq k 5 then [1, 3, 4] else bif Nat.beq k 17 then [1, 3, 5, 6, 7, 8, 9, 10, 11, 12, 13, 14, 15] else []⟩
def privitylaw21_ProductProofZeroKnowledge.P1 (base : Nat) (l : List Value) (H0 : HH) (K : Value → HH → Prop) : Prop := HCodeL Try.prog base 280 (codeAt [.r, .r, .r, .r, .r, .r, .r, .r, .r, .r, .l, .r, .b] (bodyOf Try.f6)) [1, 3, 5, 6, 7, 8, 9, 10, 11, 12, 13, 14, 15] l H0 (qAt Try.prog base 280 privitylaw21_ProductProofZeroKnowledge.ann [.r, .r, .r, .r, .r, .r, .r, .r, .r, .r, .l, .r, .b] [] (bodyOf Try.f6) (retQ Try.prog 280 Try.f6 K))
def privitylaw21_ProductProofZeroKnowledge.L1 (base : Nat) (x1 x3 : Addr) (x5 x6 : Int) (Ax7 : Option Addr) (lx7 cx7 : Nat) (Ax8 : Option Addr) (lx8 cx8 : Nat) (Ax9 : Option Addr) (lx9 cx9 : Nat) (Ax10 : Option Addr) (lx10 cx10 : Nat) (Ax11 : Option Addr) (lx11 cx11 : Nat) (Ax12 : Option Addr) (lx12 cx12 : Nat) (Ax13 : Option Addr) (lx13 cx13 : Nat) (Ax14 : Option Addr) (lx14 cx14 : Nat) (y15 : Int) (H0 : HH) (K : Value → HH → Prop) : Prop := privitylaw21_ProductProofZeroKnowledge.P1 base [(.pointer ((some x1))), (.pointer ((some x3))), (.int .u64 x5), (.int .u64 x6), (.slice Ax7 lx7 cx7), (.slice Ax8 lx8 cx8), (.slice Ax9 lx9 cx9), (.slice Ax10 lx10 cx10), (.slice Ax11 lx11 cx11), (.slice Ax12 lx12 cx12), (.slice Ax13 lx13 cx13), (.slice Ax14 lx14 cx14), (.int .i64 y15)] H0 K
def privitylaw21_ProductProofChange.ann : Ann := ⟨fun k => bif Nat.beq k 9 then [] else bif Nat.beq k 14 then [9, 15, 16, 25, 26] else bif Nat.beq k 20 then [5, 19, 20, 21] else bif Nat.beq k 22 then [0, 3, 12, 13, 14] else [], fun k => false, fun k => bif Nat.beq k 5 then [1, 3, 4] else bif Nat.beq k 18 then [3, 7, 11, 12, 13, 14, 15, 16] else []⟩
def privitylaw21_ProductProofChange.P1 (base : Nat) (l : List Value) (H0 : HH) (K : Value → HH → Prop) : Prop := HCodeL Try.prog base 201 (codeAt [.r, .r, .r, .r, .r, .r, .r, .r, .r, .r, .r, .l, .r, .b] (bodyOf Try.f14)) [3, 7, 11, 12, 13, 14, 15, 16] l H0 (qAt Try.prog base 201 privitylaw21_ProductProofChange.ann [.r, .r, .r, .r, .r, .r, .r, .r, .r, .r, .r, .l, .r, .b] [] (bodyOf Try.f14) (retQ Try.prog 201 Try.f14 K))
def privitylaw21_ProductProofChange.L1 (base : Nat) (x3 : Addr) (Ax7 : Option Addr) (lx7 cx7 : Nat) (Ax11 : Option Addr) (lx11 cx11 : Nat) (Ax12 : Option Addr) (lx12 cx12 : Nat) (Ax13 : Option Addr) (lx13 cx13 : Nat) (Ax14 : Option Addr) (lx14 cx14 : Nat) (Ax15 : Option Addr) (lx15 cx15 : Nat) (y16 : Int) (H0 : HH) (K : Value → HH → Prop) : Prop := privitylaw21_ProductProofChange.P1 base [(.pointer ((some x3))), (.slice Ax7 lx7 cx7), (.slice Ax11 lx11 cx11), (.slice Ax12 lx12 cx12), (.slice Ax13 lx13 cx13), (.slice Ax14 lx14 cx14), (.slice Ax15 lx15 cx15), (.int .i64 y16)] H0 K
def privitylaw21_ProductProofUnique.ann : Ann := ⟨fun k => bif Nat.beq k 11 then [29] else bif Nat.beq k 13 then [1, 14, 19, 20, 21, 22] else bif Nat.beq k 14 then [] else bif Nat.beq k 20 then [21] else [], fun k => bif Nat.beq k 14 then true else false, fun k => bif Nat.beq k 9 then [1, 2, 3, 7, 8, 9, 10, 11] else bif Nat.beq k 14 then [1, 2, 3, 7, 8, 9, 10, 11] else bif Nat.beq k 17 then [1, 3, 8, 9, 10, 12, 13] else []⟩
def privitylaw21_ProductProofUnique.P1 (base : Nat) (l : List Value) (H0 : HH) (K : Value → HH → Prop) : Prop := HCodeL Try.prog base 193 (codeAt [.r, .r, .r, .r, .r, .r, .r, .r, .l, .r, .b] (bodyOf Try.f7)) [1, 3, 8, 9, 10, 12, 13] l H0 (qAt Try.prog base 193 privitylaw21_ProductProofUnique.ann [.r, .r, .r, .r, .r, .r, .r, .r, .l, .r, .b] [] (bodyOf Try.f7) (retQ Try.prog 193 Try.f7 K))
def privitylaw21_ProductProofUnique.L1 (base : Nat) (Ax1 : Option Addr) (lx1 cx1 : Nat) (x3 : Addr) (Ax8 : Option Addr) (lx8 cx8 : Nat) (x9 : Bool) (Ax10 : Option Addr) (lx10 cx10 : Nat) (y12 : Bool) (y13 : Int) (H0 : HH) (K : Value → HH → Prop) : Prop := privitylaw21_ProductProofUnique.P1 base [(.slice Ax1 lx1 cx1), (.pointer ((some x3))), (.slice Ax8 lx8 cx8), (.bool x9), (.slice Ax10 lx10 cx10), (.bool y12), (.int .i64 y13)] H0 K
end Go.Proofs.Ytjkggiemnfigbaa.HL
end
section
set_option linter.unusedVariables false
set_option linter.unusedSimpArgs false
set_option linter.unusedSectionVars false
set_option maxHeartbeats 4000000
namespace Go.Proofs.Ytjkggiemnfigbaa.HL
open Go Go.Proofs.YtjkggiemnfigbaaNum Go.Proofs.Ytjkggiemnfigbaa.FEv
section
end
abbrev tArr4 : Nat := 64
theorem aq_arr4 (b i : Nat) (h : i < 4) : AQ Try.prog (Instr.indexAt tArr4 (.pointer (some ⟨b, 0, none⟩)) (.int .i64 i)) (.pointer (some ⟨b, i, none⟩)) := by
  match i, h with
  | 0, _ => exact fun W => by kernel_rfl
  | 1, _ => exact fun W => by kernel_rfl
  | 2, _ => exact fun W => by kernel_rfl
  | 3, _ => exact fun W => by kernel_rfl
section
variable {base : Nat} {H : HH} {A2 : Option Addr} {n2 c2 : Nat} {P v0 v1 v2 v3 : Int} {ld : List Int}
theorem law_ProductProofVerify (hP : 0 ≤ P) (g0 : 0 ≤ v0) (g1 : 0 ≤ v1) (g2 : 0 ≤ v2) (g3 : 0 ≤ v3) (h : Row H A2 n2 ld) (hn : ∀ x ∈ ld, 0 ≤ x) (hm : ld.length ≤ maxLen) :
    HCall Try.prog base 11 #[.int .u64 P, .agg #[.int .u64 v0, .int .u64 v1, .int .u64 v2, .int .u64 v3], .slice A2 n2 c2] H fun v _ => v = .bool true := by
  refine privitylaw21_ProductProofVerify.spec ?_
  unfold privitylaw21_ProductProofVerify.sh
  refine h_box (fun b hb hbase => ⟨_, rfl, h_sup P ⟨_, rfl, ?_⟩⟩)
  have X1 : Ext H (upd H b (.cells (Value.agg #[.int .u64 v0, .int .u64 v1, .int .u64 v2, .int .u64 v3]).cells tArr4)) := Ext.upd hb _
  have hbx : (upd H b (.cells (Value.agg #[.int .u64 v0, .int .u64 v1, .int .u64 v2, .int .u64 v3]).cells tArr4)) b = some (.cells #[.int .u64 v0, .int .u64 v1, .int .u64 v2, .int .u64 v3] tArr4 (0, 0)) := upd_self _ _ _
  generalize upd H b (.cells (Value.agg #[.int .u64 v0, .int .u64 v1, .int .u64 v2, .int .u64 v3]).cells tArr4) = H1 at X1 hbx ⊢
  split
  rotate_left
  · exact h_awakeP (fun _ _ => ⟨_, rfl, rfl⟩)
  rename_i e0
  have e0 : supB P = true := by simpa using e0
  refine h_below (h.ext X1) hm ⟨_, rfl, ?_⟩
  split
  · exact h_awakeP (fun _ _ => ⟨_, rfl, rfl⟩)
  rename_i e1
  have e1 : belowB P ld 6 = true := by simpa using e1
  obtain ⟨p, hp, rfl⟩ := supB_iff.1 e0
  have hz := hp.ne
  obtain ⟨b1, b2⟩ := below_of e1
  have hl := liftV (q := p) hn b2
  have q0 : QRun Try.prog (Instr.loadAt 22 (.pointer (some ⟨b, 0, none⟩))) H1 (.int .u64 v0) := q_ld sc22 (by rw [cellH_blk hbx]; rfl)
  have q1 : QRun Try.prog (Instr.loadAt 22 (.pointer (some ⟨b, 1, none⟩))) H1 (.int .u64 v1) := q_ld sc22 (by rw [cellH_blk hbx]; rfl)
  have q2 : QRun Try.prog (Instr.loadAt 22 (.pointer (some ⟨b, 2, none⟩))) H1 (.int .u64 v2) := q_ld sc22 (by rw [cellH_blk hbx]; rfl)
  have q3 : QRun Try.prog (Instr.loadAt 22 (.pointer (some ⟨b, 3, none⟩))) H1 (.int .u64 v3) := q_ld sc22 (by rw [cellH_blk hbx]; rfl)
  have hpne : ((p : Nat) : Int) ≠ 0 := by have := hp.le; omega
  refine ⟨_, aq_arr4 b 0 (by decide), _, q0, _, aq_remP hpne, _, aq_arr4 b 1 (by decide), _, q1, _, aq_remP hpne, _, aq_arr4 b 2 (by decide), _, q2, _, aq_remP hpne, _, aq_arr4 b 3 (by decide), _, q3, _, aq_remP hpne, ?_⟩
  rw [tmod_V (p := p) g0, tmod_V (p := p) g1, tmod_V (p := p) g2, tmod_V (p := p) g3]
  have hR := h.ext X1
  rw [← hl] at hR
  have hdl : (ld.map E : List (Fin p)).length ≤ 6 := by rw [List.length_map]; omega
  generalize (ld.map E : List (Fin p)) = d at hR hdl
  generalize (E v0 : Fin p) = x
  generalize (E v1 : Fin p) = a
  generalize (E v2 : Fin p) = bb
  generalize (E v3 : Fin p) = y
  refine h_mul hp _ _ ⟨_, rfl, ?_⟩
  have en := hR.1
  rw [vs_length] at en
  refine privitylaw21_ProductProofVerify.loop0 (fun k s z H' => H' = H1 ∧ ∃ i : Nat, z = i ∧ i ≤ n2 ∧ k = n2 - i ∧ s = V (a * bb - vsum x i (cf d))) n2 ⟨rfl, 0, rfl, Nat.zero_le _, rfl, by rw [← vsum_nil]⟩ ?_
  rintro k s z g H' ⟨rfl, i, rfl, hi, rfl, rfl⟩
  unfold privitylaw21_ProductProofVerify.B0
  split
  · rename_i e
    have e := of_decide_eq_true e
    obtain ⟨a1, r1, r2⟩ := hR.at c2 (i := i) (by omega) e
    rw [Int.toNat_natCast, vs_get] at r2
    have hnx : IntKind.i64.wrap ((i : Int) + 1) = ((i + 1 : Nat) : Int) := nxt (n := 1000) (by omega) (by decide)
    have hu : IntKind.u64.wrap ((i + 1 : Nat) : Int) = ((i + 1 : Nat) : Int) := w64_in (by omega) (by omega)
    rw [hnx, hu]
    refine ⟨_, h_pow hp x (by omega) (by omega) ⟨rfl, rfl⟩, a1, r1, _, r2, _, h_mul hp _ _ ⟨rfl, rfl⟩, _, h_sub hp _ _ ⟨rfl, rfl⟩, ?_⟩
    exact ⟨n2 - i - 1, by omega, _, _, rfl, rfl, rfl, i + 1, rfl, by omega, by omega, by rw [Int.toNat_natCast, vsum_step]⟩
  · rename_i e
    have e : ¬ ((i : Int) < (n2 : Int)) := fun h => e (decide_eq_true h)
    have : i = d.length := by omega
    subst this
    refine h_awakeP (fun H5 X5 => ⟨_, rfl, ?_⟩)
    rw [if_pos rfl]
    have R5 := hR.ext X5
    refine h_verify hp _ _ _ _ R5 (by omega) ⟨_, rfl, h_rverify hp _ _ _ _ R5 (by omega) ⟨_, rfl, _, aq_eqbP unBoP _ _, ?_⟩⟩
    rw [if_pos (by simp)]
    refine h_verify hp _ _ _ _ R5 (by omega) ⟨_, rfl, _, aq_eqbP unBoP _ _, ?_⟩
    rw [V_beq]
    by_cases e9 : a * bb - vsum x d.length (cf d) = y
    · rw [decide_eq_true e9, decide_eq_true e9.symm]; rfl
    · rw [decide_eq_false e9, decide_eq_false (fun h => e9 h.symm)]; rfl
end
end Go.Proofs.Ytjkggiemnfigbaa.HL
end

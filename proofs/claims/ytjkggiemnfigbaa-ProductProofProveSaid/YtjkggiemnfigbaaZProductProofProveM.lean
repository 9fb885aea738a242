/- Part M of: The statement ProductProofProve: the law answers true whatever its arguments; no condition. -/
import Derived.Test.YtjkggiemnfigbaaZProductProofProveL
import Derived.KernelRfl
import Derived.Test.YtjkggiemnfigbaaProg
import Derived.Laws.Tables
section
set_option linter.unusedVariables false
set_option linter.unusedSimpArgs false
set_option linter.unusedSectionVars false
namespace Go.Proofs.Ytjkggiemnfigbaa.HL
open Go Go.Proofs.YtjkggiemnfigbaaNum Go.Proofs.Ytjkggiemnfigbaa.FEv
section
end
def PtAt (H : HH) (a : Addr) (q : Int × Int) : Prop := cellH H (a.add 0) = some (.int .u64 q.1) ∧ cellH H (a.add 1) = some (.int .u64 q.2)
section
variable {base : Nat} {H : HH} {a : Addr} {q : Int × Int}
theorem PtAt.ext {H' : HH} (h : PtAt H a q) (he : Ext H H') : PtAt H' a q := ⟨cellH_ext he h.1, cellH_ext he h.2⟩
theorem PtAt.x (h : PtAt H a q) : QRun Try.prog (Instr.loadAt 22 (.pointer (some (a.add 0)))) H (.int .u64 q.1) := q_ld sc22 h.1
theorem PtAt.y (h : PtAt H a q) : QRun Try.prog (Instr.loadAt 22 (.pointer (some (a.add 1)))) H (.int .u64 q.2) := q_ld sc22 h.2
end
def pc (l : List (Int × Int)) : List Value := l.flatMap fun q => [.int .u64 q.1, .int .u64 q.2]
def Pts (H : HH) (A : Option Addr) (n : Nat) (l : List (Int × Int)) : Prop := n = l.length ∧ Rd H A (pc l)
section
variable {base : Nat} {H : HH} {A : Option Addr} {n : Nat} {l : List (Int × Int)} {i : Int}
theorem Pts.ext {H' : HH} (h : Pts H A n l) (he : Ext H H') : Pts H' A n l := ⟨h.1, h.2.ext he⟩
theorem Pts.nil : Pts H none 0 [] := ⟨rfl, .inl rfl⟩
theorem addr_add' (a : Addr) (m n : Nat) : (a.add m).add n = a.add (m + n) := by
  unfold Addr.add
  by_cases hm : m = 0 <;> by_cases hn : n = 0 <;> simp_all [Nat.add_assoc]
end
section
end
def RowI (H : HH) (A : Option Addr) (n : Nat) (l : List Nat) : Prop := n = l.length ∧ Rd H A (ns l)
theorem RowI.ext {H H' : HH} {A : Option Addr} {n : Nat} {l : List Nat} (h : RowI H A n l) (he : Ext H H') : RowI H' A n l := ⟨h.1, h.2.ext he⟩
theorem RowI.nil {H : HH} : RowI H none 0 [] := ⟨rfl, .inl rfl⟩
theorem RowI.at {H : HH} {A : Option Addr} {n : Nat} {l : List Nat} (h : RowI H A n l) (c : Nat) {j : Nat} (hj : j < n) : ∃ a, AQ Try.prog (Instr.indexAt 88 (.slice A n c) (.int .i64 j)) (.pointer (some a)) ∧ QRun Try.prog (Instr.loadAt 3 (.pointer (some a))) H (.int .i64 ((l.getD j 0 : Nat) : Int)) := by
  obtain ⟨e, h⟩ := h
  subst e
  exact Piv.at h c hj
end Go.Proofs.Ytjkggiemnfigbaa.HL
end
section
set_option linter.unusedVariables false
set_option linter.unusedSimpArgs false
set_option linter.unusedSectionVars false
set_option maxHeartbeats 1000000
namespace Go.Proofs.Ytjkggiemnfigbaa.HL
open Go Go.Proofs.YtjkggiemnfigbaaNum Go.Proofs.Ytjkggiemnfigbaa.FEv
theorem aq_to {P : Program} {t e sz : Nat} (ht : P.underlying t = some (.slice e)) (hs : (P.info? e).map (·.size) = some sz) {A : Option Addr} {n c : Nat} {kd : IntKind} {h : Int} (h0 : 0 ≤ h) (h1 : h ≤ c) :
    AQ P (Instr.sliceAt t (.slice A n c) none (some (.int kd h)) none) (.slice A h.toNat c) := fun W => by
  have he : P.elem t = e := by unfold Program.elem; rw [ht]
  have hh := run_slice_h W t A n c (he.symm ▸ ht) kd h h0 h1
  rw [run_sliceAt_slice W t _ _ _ _ (he.symm ▸ ht), hh, he, run_sz hs]
  have : (if c = 0 then A else A.map (·.add (0 * sz))) = A := by
    split
    · rfl
    · cases A with
      | none => rfl
      | some a => simp [Addr.add]
  simp only [Result.andThen, sliced, this, Nat.sub_zero]
theorem Rd.take {H : HH} {A : Option Addr} {xs : List Value} (h : Rd H A xs) (k : Nat) : Rd H A (xs.take k) := by
  rcases h with e | ⟨ad, e, hc⟩
  · exact .inl (by rw [e]; simp)
  · exact .inr ⟨ad, e, fun i u hu => hc i u (by
      rw [List.getElem?_take] at hu
      split at hu
      · exact hu
      · cases hu)⟩
theorem w64 {x : Int} (h0 : -9223372036854775808 ≤ x) (h1 : x < 9223372036854775808) : IntKind.i64.wrap x = x := by
  unfold IntKind.wrap
  simp [IntKind.bits, IntKind.signed]
  omega
section
end
end Go.Proofs.Ytjkggiemnfigbaa.HL
end
section
set_option linter.unusedVariables false
set_option linter.unusedSimpArgs false
set_option linter.unusedSectionVars false
set_option maxHeartbeats 2000000
namespace Go.Proofs.Ytjkggiemnfigbaa.HL
open Go Go.RowKit Go.Proofs.YtjkggiemnfigbaaW.PrintWords Go.Proofs.YtjkggiemnfigbaaW.PrintMore Go.Proofs.Ytjkggiemnfigbaa.PF Go.Proofs.YtjkggiemnfigbaaNum Go.Proofs.Ytjkggiemnfigbaa.FEv
section
variable {p : Nat} [NeZero p] {base : Nat} {H : HH} {K : Value → HH → Prop} {A A' A'' : Option Addr} {n n' n'' c c' c'' : Nat}
theorem h_reduce1 (hp : Sup p) (m : Int) (h0 : 0 ≤ m) (h1 : m < 18446744073709551616) (hk : K (.int .u64 (V (E m : Fin p))) H) : HCall Try.prog base 54 #[.int .u64 p, .int .u64 m] H K := by
  obtain ⟨k, hk'⟩ := (reduce_ev hp m h0 h1).rounds
  exact (HCall.drew (enters Try.func54 (by kernel_rfl)) (fun W => field_Reduce.calls k _ _ _ W hk')).to hk
theorem h_prove (hp : Sup p) {t : Nat} {a b r : List (Fin p)} (ha : Row H A n (vs a)) (hb : Row H A' n' (vs b)) (hr : Row H A'' n'' (vs r)) (t1 : 1 ≤ t) (t2 : t ≤ 100) (la : a.length = t + 1) (lb : b.length = t + 1) (lr : r.length = t * t) (hc : n'' ≤ c'')
    (hk : ∀ A1 c1 A2 c2 H', Ext H H' → MatC H' A1 t (ms (pD t r (pL t a b))) → Row H' A2 (t + 1) (vs (pC t r (pL t a b))) → t + 1 ≤ c2 → K (.tuple #[.slice A1 t c1, .slice A2 (t + 1) c2]) H') :
    HCall Try.prog base 17 #[.int .u64 p, .int .i64 t, .slice A n c, .slice A' n' c', .slice A'' n'' c''] H K := by
  have e1 := ha.1
  have e2 := hb.1
  have e3 := hr.1
  subst e1 e2 e3
  rw [vs_length] at hc
  have htt : t * t ≤ 10000 := Nat.mul_le_mul t2 t2
  have hpf := X.proveF_eq hp (t := t) a b r t1 (by omega) (by omega) (by omega) (by omega) (by omega)
  have lD : (ms (pD t r (pL t a b))).length = t := by rw [ms_length, pD_len]
  have lC : (vs (pC t r (pL t a b))).length = t + 1 := by rw [vs_length, pC_len (pL_len t a b)]
  have mz : ∀ {x : Nat}, x ≤ 10000 → x ≤ maxLen := fun h => by unfold maxLen; omega
  refine HCall.fresh (Q := fun W W' v => ∃ v0 v1, v = .tuple #[v0, v1] ∧ Kd.S (Kd.slice 22 (Kd.int .u64)) 23 W' W.heap.size (fun k_ => some k_ ≠ (v1 : Value).ownBlock) v0 (ms (pD t r (pL t a b))) ∧ Kd.R (Kd.int .u64) 22 W' W.heap.size (fun k_ => some k_ ≠ (v0 : Value).ownBlock) v1 (vs (pC t r (pL t a b)))) (enters Try.func17 (by kernel_rfl)) (fun W hs hb' => ?_) (fun W W' v hs hb' hq X => ?_)
  · have := X.prove_calls' (p : Int) (t : Int) A c (vs a) A' c' (vs b) A'' c'' (vs r) _ _ W (kd_row hs ha (by rw [vs_length]; exact mz (by omega))) (kd_row hs hb (by rw [vs_length]; exact mz (by omega))) (kd_row hs hr (by rw [vs_length]; exact mz (by omega))) (by rw [vs_length]; exact hc) hpf
    exact this.mono fun e W' ⟨v0, v1, h1, h2, h3, h4⟩ => ⟨_, h1, ⟨v0, v1, rfl, h2, h3⟩, h4⟩
  · obtain ⟨v0, v1, rfl, k0, k1⟩ := hq
    obtain ⟨A1, c1, rfl, hc1, M⟩ := mat_more (H := H) hb' k0
    obtain ⟨A2, c2, rfl, o2⟩ := row_more (H := H) hb' k1
    obtain ⟨A3, c3, e3, hc3, _⟩ := o2.slice
    cases e3
    have R2 := o2.row
    rw [lD] at M
    rw [lC] at R2
    have := hk A1 c1 A2 c2 _ X M R2 (by rw [lC] at hc3; exact hc3)
    rw [lD, lC]
    exact this
end
end Go.Proofs.Ytjkggiemnfigbaa.HL
end
section
set_option linter.unusedVariables false
set_option linter.unusedSimpArgs false
set_option linter.unusedSectionVars false
set_option maxHeartbeats 1000000
namespace Go.Proofs.Ytjkggiemnfigbaa.HL
open Go Go.Proofs.YtjkggiemnfigbaaNum Go.Proofs.Ytjkggiemnfigbaa.FEv
section
variable {base : Nat} {H H' F : HH} {v : Value} {b : Nat}
theorem Own.same {T sz n : Nat} {xs : List Value} (h : Own base H T sz v n xs) (hb : v.ownBlock ≠ some b) (he : ∀ k, k ≠ b → H' k = H k) : Own base H' T sz v n xs :=
  h.move (fun g o hg ho => by rw [he g (fun e => hb (by rw [hg, e]))]; exact ho)
theorem Frz.same (h : Frz F H v) (hF : F b = none) (he : ∀ k, k ≠ b → H' k = H k) : Frz F H' v :=
  ⟨fun k o hk => by rw [he k (fun e => by rw [e, hF] at hk; cases hk)]; exact h.ext k o hk, h.off⟩
end
section
variable {p : Nat} [NeZero p] {base : Nat} {H : HH} {K : Value → HH → Prop} {A A' : Option Addr} {n n' c c' : Nat}
theorem h_put2 {T q c : Nat} {g : Nat} {xs : List Value} (hT : (Try.prog.info? T).map (·.size) = some 1) (ho : Own base H T 1 (.slice (some ⟨g, 0, none⟩) q c) q xs) {j : Nat} (hj : j < q) {u : Value} (hu : u.oneCell' = true) {K : Unit → HH → Prop}
    (hk : ∀ H', Own base H' T 1 (.slice (some ⟨g, 0, none⟩) q c) q (xs.set j u) → (∀ k, k ≠ g → H' k = H k) → K () H') : HRun Try.prog base (Instr.storeAt T (.pointer (some ⟨g, j, none⟩)) u) H K := by
  obtain ⟨g', cur, e1, e2, e3, e4, e5⟩ := ho.at hj
  cases e1
  refine h_st hT hu e3 e2 e4 (hk _ (ho.put (by simp [Value.ownBlock]) e3 j u) (fun k hk => upd_ne _ hk))
end
end Go.Proofs.Ytjkggiemnfigbaa.HL
end
section
set_option linter.unusedVariables false
set_option linter.unusedSimpArgs false
set_option linter.unusedSectionVars false
set_option maxHeartbeats 1000000
namespace Go.Proofs.Ytjkggiemnfigbaa.HL
open Go Go.Proofs.YtjkggiemnfigbaaNum Go.Proofs.Ytjkggiemnfigbaa.FEv
section
end
section
variable {base : Nat} {H : HH}
/-- A set of words. -/
def SetW (H : HH) (b : Nat) (xs : List Int) : Prop := ∃ (es : Array MapEntry) (clock : Nat), H b = some (.map es clock) ∧ es.toList.map (fun e => (e.key, e.val)) = xs.map fun x => (Value.int .u64 x, Value.bool true)
end
end Go.Proofs.Ytjkggiemnfigbaa.HL
end
section
set_option linter.unusedVariables false
set_option linter.unusedSimpArgs false
set_option linter.unusedSectionVars false
set_option maxHeartbeats 1000000
namespace Go.Proofs.Ytjkggiemnfigbaa.HL
open Go Go.Proofs.YtjkggiemnfigbaaNum Go.Proofs.Ytjkggiemnfigbaa.FEv
theorem SetW.ext {H H' : HH} {b : Nat} {xs : List Int} (h : SetW H b xs) (he : Ext H H') : SetW H' b xs := by
  obtain ⟨es, c, h1, h2⟩ := h
  exact ⟨es, c, he _ _ h1, h2⟩
section
end
section
end
end Go.Proofs.Ytjkggiemnfigbaa.HL
end
section
set_option linter.unusedVariables false
set_option linter.unusedSimpArgs false
set_option linter.unusedSectionVars false
set_option maxHeartbeats 2000000
namespace Go.Proofs.Ytjkggiemnfigbaa.HL
open Go Go.Proofs.YtjkggiemnfigbaaNum Go.Proofs.Ytjkggiemnfigbaa.FEv
section
variable {p : Nat} [NeZero p] {base : Nat} {H : HH} {K : Value → HH → Prop} {A A' : Option Addr} {n n' c c' : Nat}
theorem mk_succ {α : Type} (f : Nat → α) (i : Nat) : (List.range (i + 1)).map f = (List.range i).map f ++ [f i] := by rw [List.range_succ, List.map_append]; rfl
theorem row_lit {x : Int} {C : Value → HH → Prop} (hk : ∀ A' H', Ext H H' → Rd H' A' [.int .u64 x] → C (.slice A' 1 1) H') : HRun Try.prog base (Instr.buildSlice 23 1 #[(0, .int .u64 x)]) H C := by
  have hfill : Instr.fill (fun i => some (i * 1, 1)) (madeCells (Value.int .u64 0).cells (1 * 1)) [(0, .int .u64 x)] = some #[.int .u64 x] := by
    simp [Instr.fill, madeCells, Value.cells, show Array.range 1 = #[0] from by decide]
  refine h_lit (sz := 1) (z := .int .u64 0) (cs := #[.int .u64 x]) un32 (by kernel_rfl) (by decide) hfill (by decide) (fun gb hgb hbase => hk _ _ (Ext.upd hgb _) (.inr ⟨_, rfl, fun i w hw => ?_⟩))
  match i, hw with
  | 0, hw =>
    cases hw
    show cellH _ ((⟨gb, 0, none⟩ : Addr).add 0) = _
    simp [Addr.add, cellH, upd_self]
theorem row_lit0 {C : Value → HH → Prop} (hk : ∀ A' c' H', Ext H H' → Own base H' 22 1 (.slice A' 0 c') 0 [] → Fresh H (.slice A' 0 c') → C (.slice A' 0 c') H') : HRun Try.prog base (Instr.buildSlice 23 0 #[]) H C := by
  refine h_lit0 (sz := 1) un32 (by rw [info22]) (fun b hb hbase => ?_)
  refine hk _ _ _ (Ext.upd hb _) (by simpa using Own.lit (H := H) (T := 22) (sz := 1) hbase #[] 0 (by decide) (by simp)) (fun b' hb' => ?_)
  have e : b = b' := by simpa [Value.ownBlock] using hb'
  rw [← e]; exact hb
/-- Words that are read are appended to a row of the call's own. -/
theorem h_appR {ty : Nat} {v : Value} {F : HH} {k m : Nat} {l f : List (Fin p)} {B : Option Addr} {d : Nat} (ho : Own base H 22 1 v k (us (vs l))) (hf : Frz F H v) (hm : m = f.length) (hl : k + m ≤ 100000) (hr : Rd H B (us (vs f))) {C : Option Addr → Nat → Nat → HH → Prop} (hk : ∀ A' c' H', Own base H' 22 1 (.slice A' (k + m) c') (k + m) (us (vs (l ++ f))) → Frz F H' (.slice A' (k + m) c') → C A' (k + m) c' H') :
    HRun Try.prog base (Builtin.append_ #[23, 23] ty #[v, .slice B m d]) H fun v H1 => ∃ (A' : Option Addr) (l' c' : Nat), v = .slice A' l' c' ∧ C A' l' c' H1 := by
  refine h_app (m := m) (ys := us (vs f)) un32 inf22 rfl (by decide) ho hr (by simp [hm]) (fun u hu => by obtain ⟨x, _, rfl⟩ := List.mem_map.1 hu; rfl) (fun e => ?_) (by omega) (by decide) (fun A' c' H' ho g => ⟨_, _, _, rfl, hk A' c' H' ?_ (hf.grow g)⟩)
  · rcases hr with e2 | ⟨ad, e2, _⟩
    · rw [hm]; simpa [us, vs] using e2
    · rw [e] at e2; cases e2
  · have : us (vs l) ++ us (vs f) = us (vs (l ++ f)) := by simp [us, vs]
    rwa [this] at ho
theorem Row.le_take {H : HH} {A : Option Addr} {n k : Nat} {l : List (Fin p)} (h : Row H A n (vs l)) (hk : k ≤ l.length) : Row H A k (vs (l.take k)) := by
  refine ⟨by simp; omega, ?_⟩
  have := h.2.take k
  unfold us vs at this ⊢
  rwa [← List.map_take, ← List.map_take] at this
end
end Go.Proofs.Ytjkggiemnfigbaa.HL
end
section
set_option linter.unusedVariables false
set_option linter.unusedSimpArgs false
set_option linter.unusedSectionVars false
set_option maxHeartbeats 2000000
namespace Go.Proofs.Ytjkggiemnfigbaa.HL
open Go Go.Proofs.YtjkggiemnfigbaaNum Go.Proofs.Ytjkggiemnfigbaa.FEv
section
variable {p : Nat} [NeZero p] {base : Nat} {H : HH} {K : Value → HH → Prop} {A A' : Option Addr} {n n' c c' : Nat}
/-- The product in the making: i rows, and j entries of the next. -/
def mulS (a b : List (Fin p)) (N i j : Nat) : List (Fin p) := (List.range N).map fun x => sumF i (fun t => if t ≤ x then cf a t * cf b (x - t) else 0) + if i ≤ x ∧ x < i + j then cf a i * cf b (x - i) else 0
theorem mulS_step {a b : List (Fin p)} {N i j : Nat} (h : i + j < N) : (mulS a b N i j).set (i + j) (cf (mulS a b N i j) (i + j) + cf a i * cf b j) = mulS a b N i (j + 1) := by
  have e : cf (mulS a b N i j) (i + j) = sumF i (fun t => if t ≤ i + j then cf a t * cf b (i + j - t) else 0) := by
    unfold mulS
    rw [cf_map_range, if_pos h, if_neg (by omega)]; grind
  rw [e]
  unfold mulS
  refine set_range _ _ h _ (by rw [if_pos (by omega), Nat.add_sub_cancel_left]) (fun x _ hx => ?_)
  by_cases h1 : i ≤ x ∧ x < i + j
  · rw [if_pos h1, if_pos (by omega)]
  · rw [if_neg h1, if_neg (by omega)]
theorem mulS_row {a b : List (Fin p)} {N i : Nat} : mulS a b N i b.length = mulS a b N (i + 1) 0 := by
  unfold mulS
  apply List.map_congr_left
  intro x _
  show _ = (sumF i _ + (if i ≤ x then cf a i * cf b (x - i) else 0)) + _
  rw [if_neg (show ¬ (i + 1 ≤ x ∧ x < i + 1 + 0) by omega)]
  by_cases h1 : i ≤ x
  · by_cases h2 : x < i + b.length
    · rw [if_pos ⟨h1, h2⟩, if_pos h1]; grind
    · rw [if_neg (by omega), if_pos h1, cf_ge (l := b) (by omega)]; grind
  · rw [if_neg (by omega), if_neg h1]; grind
end
end Go.Proofs.Ytjkggiemnfigbaa.HL
end
namespace Go.Proofs.Ytjkggiemnfigbaa.HL
end Go.Proofs.Ytjkggiemnfigbaa.HL
section
set_option linter.unusedVariables false
set_option linter.unusedSimpArgs false
set_option linter.unusedSectionVars false
set_option maxHeartbeats 4000000
namespace Go.Proofs.Ytjkggiemnfigbaa.HL
open Go Go.Proofs.YtjkggiemnfigbaaNum Go.Proofs.Ytjkggiemnfigbaa.FEv
section
variable {p : Nat} [NeZero p] {base : Nat} {H : HH} {K : Value → HH → Prop} {A A' : Option Addr} {n n' c c' : Nat}
theorem vsum_step (x : Fin p) (i : Nat) (f : Nat → Fin p) (w : Fin p) : w - vsum x i f - x ^ (i + 1) * f i = w - vsum x (i + 1) f := by
  unfold vsum
  show _ = w - (sumF i _ + _)
  grind
theorem vsum_nil (x : Fin p) (f : Nat → Fin p) (w : Fin p) : w = w - vsum x 0 f := by unfold vsum; show w = w - 0; grind
theorem V_beq (a b : Fin p) : (V a == V b) = decide (a = b) := by
  by_cases h : a = b
  · rw [h]; simp
  · have : V a ≠ V b := fun e => h (V_inj.1 e)
    simp [h, this]
theorem h_verify (hp : Sup p) (x a b y : Fin p) {d : List (Fin p)} (h : Row H A n (vs d)) (hz : d.length ≤ 1000) (hk : K (.bool (decide (a * b - vsum x d.length (cf d) = y))) H) : HCall Try.prog base 22 #[.int .u64 p, .int .u64 (V x), .int .u64 (V a), .int .u64 (V b), .slice A n c, .int .u64 (V y)] H K := by
  refine productproof_Verify.spec ?_
  unfold productproof_Verify.sh
  have e1 := h.1
  rw [vs_length] at e1
  have hx := V64 hp x
  refine h_mul hp _ _ ⟨_, rfl, h_reduce1 hp _ hx.1 (by omega) ⟨_, rfl, ?_⟩⟩
  rw [E_V]
  refine productproof_Verify.loop0 (fun k y1 y2 y3 H' => H' = H ∧ ∃ i : Nat, y3 = i ∧ i ≤ n ∧ k = n - i ∧ y1 = V (a * b - vsum x i (cf d)) ∧ y2 = V (x ^ (i + 1))) n ⟨rfl, 0, rfl, Nat.zero_le _, rfl, by rw [← vsum_nil], by rw [pw_one]⟩ ?_
  rintro k y1 y2 y3 g H' ⟨rfl, i, rfl, hi, rfl, rfl, rfl⟩
  unfold productproof_Verify.B0
  split
  · rename_i e
    have e := of_decide_eq_true e
    obtain ⟨a1, q1, q2⟩ := h.at c (i := i) (by omega) e
    rw [Int.toNat_natCast, vs_get] at q2
    refine ⟨a1, q1, _, q2, h_mul hp _ _ ⟨_, rfl, h_sub hp _ _ ⟨_, rfl, h_mul hp _ _ ⟨_, rfl, ?_⟩⟩⟩⟩
    exact ⟨n - i - 1, by omega, _, _, _, rfl, rfl, rfl, rfl, i + 1, nxt (n := n) (by omega) (by unfold maxLen; omega), by omega, by omega, by rw [vsum_step], by rw [pw_succ x (i + 1)]⟩
  · rename_i e
    have e : ¬ ((i : Int) < (n : Int)) := fun h => e (decide_eq_true h)
    have : i = d.length := by omega
    subst this
    rw [V_beq]
    exact hk
end
abbrev tCase : Nat := 25
theorem fz (b j : Nat) (hj : j < 5) : AQ Try.prog (Instr.fieldAt tCase (.pointer (some ⟨b, 0, none⟩)) j) (.pointer (some ⟨b, j, none⟩)) := by
  match j, hj with
  | 0, _ => have := aq_fld (P := Try.prog) (s := tCase) (f := 0) (off := 0) (sz := 1) (by kernel_rfl) (by decide) ⟨b, 0, none⟩; rwa [add0] at this
  | 1, _ => have := aq_fld (P := Try.prog) (s := tCase) (f := 1) (off := 1) (sz := 1) (by kernel_rfl) (by decide) ⟨b, 0, none⟩; rwa [add0] at this
  | 2, _ => have := aq_fld (P := Try.prog) (s := tCase) (f := 2) (off := 2) (sz := 1) (by kernel_rfl) (by decide) ⟨b, 0, none⟩; rwa [add0] at this
  | 3, _ => have := aq_fld (P := Try.prog) (s := tCase) (f := 3) (off := 3) (sz := 1) (by kernel_rfl) (by decide) ⟨b, 0, none⟩; rwa [add0] at this
  | 4, _ => have := aq_fld (P := Try.prog) (s := tCase) (f := 4) (off := 4) (sz := 1) (by kernel_rfl) (by decide) ⟨b, 0, none⟩; rwa [add0] at this
/-- What lies in a case's variable. -/
def ZB (H : HH) (b : Nat) (P T : Int) (A2 : Option Addr) (n2 c2 : Nat) (A3 : Option Addr) (n3 c3 : Nat) (A4 : Option Addr) (n4 c4 : Nat) : Prop := H b = some (.cells #[.int .u64 P, .int .i64 T, .slice A2 n2 c2, .slice A3 n3 c3, .slice A4 n4 c4] tCase (0, 0))
section
variable {base : Nat} {H : HH} {K : Value → HH → Prop} {A2 A3 A4 : Option Addr} {n2 n3 n4 c2 c3 c4 b : Nat} {P T : Int} {la lb lr : List Int}
theorem ZB.ext {H' : HH} (h : ZB H b P T A2 n2 c2 A3 n3 c3 A4 n4 c4) (he : Ext H H') : ZB H' b P T A2 n2 c2 A3 n3 c3 A4 n4 c4 := he _ _ h
theorem ZB.zp (h : ZB H b P T A2 n2 c2 A3 n3 c3 A4 n4 c4) : QRun Try.prog (Instr.loadAt 22 (.pointer (some ⟨b, 0, none⟩))) H (.int .u64 P) := q_ld sc22 (by rw [cellH_blk h]; rfl)
theorem ZB.zt (h : ZB H b P T A2 n2 c2 A3 n3 c3 A4 n4 c4) : QRun Try.prog (Instr.loadAt 3 (.pointer (some ⟨b, 1, none⟩))) H (.int .i64 T) := q_ld sc3 (by rw [cellH_blk h]; rfl)
theorem ZB.za (h : ZB H b P T A2 n2 c2 A3 n3 c3 A4 n4 c4) : QRun Try.prog (Instr.loadAt 23 (.pointer (some ⟨b, 2, none⟩))) H (.slice A2 n2 c2) := q_ld sc32 (by rw [cellH_blk h]; rfl)
theorem ZB.zb (h : ZB H b P T A2 n2 c2 A3 n3 c3 A4 n4 c4) : QRun Try.prog (Instr.loadAt 23 (.pointer (some ⟨b, 3, none⟩))) H (.slice A3 n3 c3) := q_ld sc32 (by rw [cellH_blk h]; rfl)
theorem ZB.zr (h : ZB H b P T A2 n2 c2 A3 n3 c3 A4 n4 c4) : QRun Try.prog (Instr.loadAt 23 (.pointer (some ⟨b, 4, none⟩))) H (.slice A4 n4 c4) := q_ld sc32 (by rw [cellH_blk h]; rfl)
theorem ZB.all (h : ZB H b P T A2 n2 c2 A3 n3 c3 A4 n4 c4) : QRun Try.prog (Instr.loadAt tCase (.pointer (some ⟨b, 0, none⟩))) H (.agg #[.int .u64 P, .int .i64 T, .slice A2 n2 c2, .slice A3 n3 c3, .slice A4 n4 c4]) :=
  q_lda (cs := [.int .u64 P, .int .i64 T, .slice A2 n2 c2, .slice A3 n3 c3, .slice A4 n4 c4]) (by kernel_rfl) (by kernel_rfl) (fun j u hu => by
    rw [add0, cellH_blk h, ← Array.getElem?_toList]
    exact hu)
theorem h_zbox (hk : ∀ b H', Ext H H' → ZB H' b P T A2 n2 c2 A3 n3 c3 A4 n4 c4 → K (.pointer (some ⟨b, 0, none⟩)) H') : HRun Try.prog base (Instr.box tCase (.agg #[.int .u64 P, .int .i64 T, .slice A2 n2 c2, .slice A3 n3 c3, .slice A4 n4 c4])) H K :=
  h_box (fun b hb hbase => hk b _ (Ext.upd hb _) (upd_self _ _ _))
/-- A valid case. -/
structure VC (P T : Int) (la lb lr : List Int) (q : Nat) [NeZero q] (t : Nat) (a b r : List (Fin q)) : Prop where
  sup : Sup q
  ep : P = q
  et : T = t
  ea : la = vs a
  eb : lb = vs b
  er : lr = vs r
  t1 : 1 ≤ t
  t4 : t ≤ 4
  al : a.length = t + 1
  bl : b.length = t + 1
  rl : r.length = t * t
theorem liftV {q : Nat} [NeZero q] {l : List Int} (h : ∀ x ∈ l, 0 ≤ x) (h2 : ∀ x ∈ l, x < (q : Int)) : vs (l.map E : List (Fin q)) = l := by
  unfold vs
  rw [List.map_map]
  conv => rhs; rw [← List.map_id l]
  exact List.map_congr_left (fun x hx => V_E_lt (h x hx) (h2 x hx))
theorem below_of {p most : Int} {l : List Int} (h : belowB p l most = true) : (l.length : Int) ≤ most ∧ ∀ x ∈ l, x < p := by
  unfold belowB at h
  rw [Bool.and_eq_true, List.all_eq_true] at h
  exact ⟨of_decide_eq_true h.1, fun x hx => of_decide_eq_true (h.2 x hx)⟩
theorem h_vcase (ha : Row H A2 n2 la) (hb : Row H A3 n3 lb) (hr : Row H A4 n4 lr) (na : ∀ x ∈ la, 0 ≤ x) (nb : ∀ x ∈ lb, 0 ≤ x) (nr : ∀ x ∈ lr, 0 ≤ x) (ma : la.length ≤ maxLen) (mb : lb.length ≤ maxLen) (mr : lr.length ≤ maxLen)
    (hk1 : ∀ (q : Nat) (_ : NeZero q) (t : Nat) (a b r : List (Fin q)), VC P T la lb lr q t a b r → ∀ H', Ext H H' → K (.bool true) H') (hk2 : ∀ H', Ext H H' → K (.bool false) H') :
    HCall Try.prog base 15 #[.agg #[.int .u64 P, .int .i64 T, .slice A2 n2 c2, .slice A3 n3 c3, .slice A4 n4 c4]] H K := by
  refine privitylaw21_validCase.spec ?_
  unfold privitylaw21_validCase.sh
  refine h_zbox (fun b H1 X1 zb => ⟨_, rfl, _, fz b 0 (by decide), _, zb.zp, h_sup P ⟨_, rfl, ?_⟩⟩)
  split
  rotate_left
  · exact hk2 H1 X1
  rename_i e0
  refine ⟨_, fz b 1 (by decide), _, zb.zt, ?_⟩
  split
  rotate_left
  · exact hk2 H1 X1
  rename_i e1
  have e1 := of_decide_eq_true e1
  refine ⟨_, fz b 1 (by decide), _, zb.zt, ?_⟩
  split
  rotate_left
  · exact hk2 H1 X1
  rename_i e2
  have e2 := of_decide_eq_true e2
  refine ⟨_, fz b 2 (by decide), _, _, _, zb.za, _, fz b 1 (by decide), _, zb.zt, ?_⟩
  split
  rotate_left
  · exact hk2 H1 X1
  rename_i e3
  refine ⟨_, fz b 3 (by decide), _, _, _, zb.zb, _, fz b 1 (by decide), _, zb.zt, ?_⟩
  split
  rotate_left
  · exact hk2 H1 X1
  rename_i e4
  refine ⟨_, fz b 4 (by decide), _, _, _, zb.zr, _, fz b 1 (by decide), _, zb.zt, _, fz b 1 (by decide), _, zb.zt, ?_⟩
  split
  rotate_left
  · exact hk2 H1 X1
  rename_i e5
  refine ⟨_, fz b 0 (by decide), _, zb.zp, _, fz b 2 (by decide), _, _, _, zb.za, h_below (ha.ext X1) ma ⟨_, rfl, ?_⟩⟩
  split
  rotate_left
  · exact hk2 H1 X1
  rename_i e6
  refine ⟨_, fz b 0 (by decide), _, zb.zp, _, fz b 3 (by decide), _, _, _, zb.zb, h_below (hb.ext X1) mb ⟨_, rfl, ?_⟩⟩
  split
  rotate_left
  · exact hk2 H1 X1
  rename_i e7
  refine ⟨_, fz b 0 (by decide), _, zb.zp, _, fz b 4 (by decide), _, _, _, zb.zr, h_below (hr.ext X1) mr ⟨_, rfl, ?_⟩⟩
  cases e8 : belowB P lr 16 with
  | false => exact hk2 H1 X1
  | true =>
    obtain ⟨q, hq, rfl⟩ := supB_iff.1 e0
    have hz := hq.ne
    obtain ⟨_, b6⟩ := below_of e6
    obtain ⟨_, b7⟩ := below_of e7
    obtain ⟨_, b8⟩ := below_of e8
    have l2 := ha.1
    have l3 := hb.1
    have l4 := hr.1
    have w1 : IntKind.i64.wrap (T + 1) = T + 1 := w64 (by omega) (by omega)
    rw [w1] at e3 e4
    have e3 : (n2 : Int) = T + 1 := by simpa using e3
    have e4 : (n3 : Int) = T + 1 := by simpa using e4
    have hT : T = 1 ∨ T = 2 ∨ T = 3 ∨ T = 4 := by omega
    have e5' : (n4 : Int) = T * T := by
      have e5 : (n4 : Int) = IntKind.i64.wrap (T * T) := by simpa using e5
      rcases hT with rfl | rfl | rfl | rfl <;> (rw [w64 (by decide) (by decide)] at e5; exact e5)
    have htt : T.toNat * T.toNat = n4 := by
      rcases hT with rfl | rfl | rfl | rfl <;> (simp at e5' ⊢; omega)
    exact hk1 q hz T.toNat (la.map E) (lb.map E) (lr.map E) ⟨hq, rfl, by omega, (liftV na b6).symm, (liftV nb b7).symm, (liftV nr b8).symm, by omega, by omega, by rw [List.length_map]; omega, by rw [List.length_map]; omega, by rw [List.length_map]; omega⟩ H1 X1
theorem row_lit2 {x y : Int} {C : Value → HH → Prop} (hk : ∀ A' H', Ext H H' → Row H' A' 2 [x, y] → C (.slice A' 2 2) H') : HRun Try.prog base (Instr.buildSlice 23 2 #[(0, .int .u64 x), (1, .int .u64 y)]) H C := by
  have hfill : Instr.fill (fun i => some (i * 1, 1)) (madeCells (Value.int .u64 0).cells (2 * 1)) [(0, .int .u64 x), (1, .int .u64 y)] = some #[.int .u64 x, .int .u64 y] := by kernel_rfl
  refine h_lit (sz := 1) (z := .int .u64 0) (cs := #[.int .u64 x, .int .u64 y]) un32 (by kernel_rfl) (by decide) hfill (by decide) (fun gb hgb hbase => ?_)
  have ho := Own.lit (H := H) (T := 22) (sz := 1) hbase #[.int .u64 x, .int .u64 y] 2 (by decide) (by simp)
  exact hk _ _ (Ext.upd hgb _) (Own.row (l := [x, y]) ho)
theorem row_lit1 {x : Int} {C : Value → HH → Prop} (hk : ∀ A' H', Ext H H' → Row H' A' 1 [x] → C (.slice A' 1 1) H') : HRun Try.prog base (Instr.buildSlice 23 1 #[(0, .int .u64 x)]) H C :=
  row_lit (fun A' H' X r => hk A' H' X ⟨rfl, r⟩)
theorem mat_lit1 {A : Option Addr} {n c : Nat} {l : List Int} (h : Row H A n l) {C : Value → HH → Prop} (hk : ∀ A' H', Ext H H' → Mat H' A' 1 [l] → C (.slice A' 1 1) H') : HRun Try.prog base (Instr.buildSlice 28 1 #[(0, .slice A n c)]) H C := by
  have hfill : Instr.fill (fun i => some (i * 1, 1)) (madeCells (Value.slice none 0 0).cells (1 * 1)) [(0, .slice A n c)] = some #[.slice A n c] := by kernel_rfl
  refine h_lit (sz := 1) (z := .slice none 0 0) (cs := #[.slice A n c]) un23 (by kernel_rfl) (by decide) hfill (by decide) (fun gb hgb hbase => ?_)
  have X : Ext H (upd H gb (.cells #[.slice A n c] 23)) := Ext.upd hgb _
  refine hk _ _ X ⟨rfl, [.slice A n c], rfl, .inr ⟨_, rfl, fun i u hu => ?_⟩, fun i l' hl => ?_⟩
  · rw [add0, cellH_blk (upd_self _ _ _), ← Array.getElem?_toList]
    exact hu
  · have hi := (List.getElem?_eq_some_iff.1 hl).1
    have : i = 0 := by simp at hi; exact hi
    subst this
    have : l = l' := by simpa using hl
    subst this
    exact ⟨A, c, by rw [h.1]; rfl, h.2.ext X⟩
theorem sup31P : Sup 31 := .inl rfl
theorem h_awakeP (hk : ∀ H', Ext H H' → K (.bool true) H') : HCall Try.prog base 16 #[] H K := by
  refine privitylaw21_awake.spec ?_
  unfold privitylaw21_awake.sh
  refine row_lit2 (fun A1 H1 X1 r1 => ⟨_, _, _, rfl, row_lit2 (fun A2 H2 X2 r2 => ⟨_, _, _, rfl, row_lit1 (fun A3 H3 X3 r3 => ⟨_, _, _, rfl, ?_⟩)⟩)⟩)
  have ra : Row H3 A1 2 (vs ([2, 3] : List (Fin 31))) := (r1.ext X2).ext X3
  have rb : Row H3 A2 2 (vs ([4, 5] : List (Fin 31))) := r2.ext X3
  have rr : Row H3 A3 1 (vs ([7] : List (Fin 31))) := r3
  refine h_prove (p := 31) (t := 1) sup31P ra rb rr (by decide) (by decide) rfl rfl rfl (by decide) (fun A4 c4 A5 c5 H4 X4 M4 R5 _ => ⟨_, _, _, _, _, _, rfl, ?_⟩)
  have eD : ms (pD 1 ([7] : List (Fin 31)) (pL 1 [2, 3] [4, 5])) = [[7, 15]] := by decide +kernel
  have eC : vs (pC 1 ([7] : List (Fin 31)) (pL 1 [2, 3] [4, 5])) = [8, 15] := by decide +kernel
  rw [eD] at M4
  rw [eC] at R5
  refine row_lit2 (fun A6 H6 X6 r6 => ⟨_, _, _, rfl, mat_lit1 r6 (fun A7 H7 X7 m7 => ⟨_, _, _, rfl, ?_⟩)⟩)
  refine h_same (M4.mat.ext (X6.trans X7)) m7 (by decide) (by decide) ⟨_, rfl, ?_⟩
  rw [if_pos (by decide)]
  refine row_lit2 (fun A8 H8 X8 r8 => ⟨_, _, _, rfl, ?_⟩)
  refine h_sameList (R5.ext (X6.trans (X7.trans X8))) r8 (by decide) ⟨_, rfl, ?_⟩
  rw [if_pos (by decide)]
  refine row_lit1 (fun A9 H9 X9 r9 => ⟨_, _, _, rfl, ?_⟩)
  have r9' : Row H9 A9 1 (vs ([6] : List (Fin 31))) := r9
  refine h_verify (p := 31) sup31P 2 8 14 7 r9' (by decide) ⟨_, rfl, ?_⟩
  rw [if_pos (by decide +kernel)]
  refine row_lit1 (fun A10 H10 X10 r10 => ⟨_, _, _, rfl, ?_⟩)
  have r10' : Row H10 A10 1 (vs ([6] : List (Fin 31))) := r10
  refine h_verify (p := 31) sup31P 2 8 14 8 r10' (by decide) ⟨_, rfl, ?_⟩
  have ef : (!decide ((8 : Fin 31) * 14 - vsum 2 ([6] : List (Fin 31)).length (cf [6]) = 8)) = true := by decide +kernel
  rw [ef]
  exact hk H10 (X1.trans (X2.trans (X3.trans (X4.trans (X6.trans (X7.trans (X8.trans (X9.trans X10))))))))
end
end Go.Proofs.Ytjkggiemnfigbaa.HL
end
section
set_option linter.unusedVariables false
set_option linter.unusedSimpArgs false
set_option linter.unusedSectionVars false
set_option maxHeartbeats 4000000
namespace Go.Proofs.Ytjkggiemnfigbaa.HL
open Go Go.Proofs.YtjkggiemnfigbaaNum Go.Proofs.Ytjkggiemnfigbaa.FEv
section
variable {base : Nat} {H0 H : HH} {A : Option Addr} {n c : Nat} {rs : List Value} {w : List (List Int)}
/-- Only a block has turned that is none of theirs. -/
theorem Rows.same (h : Rows base H0 H A n c rs w) {H' : HH} {g : Nat} (hn : H0 g = none) {cur : Array Value} {T : Nat} (hg : H g = some (.cells cur T (0, 0))) (hT : 23 ≠ T) (hd : ∀ (i : Nat) (v : Value), rs[i]? = some v → v.ownBlock ≠ some g) (he : ∀ k, k ≠ g → H' k = H k) : Rows base H0 H' A n c rs w where
  ext := fun b x hx => by rw [he b (fun e => by rw [e, hn] at hx; cases hx)]; exact h.ext b x hx
  own := h.own.same (h.own.tag hg hT) he
  fo := h.fo
  len := h.len
  rows := fun i l hl => by
    obtain ⟨A1, c1, h6, h7, h8⟩ := h.rows i l hl
    exact ⟨A1, c1, h6, h7.same (hd i _ h6) he, h8⟩
  dist := h.dist
theorem Rows.known (h : Rows base H0 H A n c rs w) {i : Nat} {v : Value} (hv : rs[i]? = some v) {b : Nat} (hb : v.ownBlock = some b) : ∃ cur, H b = some (.cells cur 22 (0, 0)) := by
  have hi : i < w.length := by
    have h1 := (List.getElem?_eq_some_iff.1 hv).1
    have h2 := h.own.1
    rw [h.len]; omega
  obtain ⟨A1, c1, h6, h7, _⟩ := h.rows i _ (List.getElem?_eq_getElem hi)
  rw [hv] at h6
  cases h6
  exact (h7.known hb).2
theorem h_pushRw {H2 : HH} (h : Rows base H0 H A n c rs w) (hlim : n ≤ 1000) {A1 : Option Addr} {n1 c1 : Nat} {l : List Int} (hl : l.length = n1) (hf : Frz H H2 (.slice A1 n1 c1)) (hr : Own base H2 22 1 (.slice A1 n1 c1) n1 (us l))
    {K : Option Addr → Nat → Nat → HH → Prop} (hk : ∀ A' c' H', Rows base H0 H' A' (n + 1) c' (rs ++ [.slice A1 n1 c1]) (w ++ [l]) → Grows H2 H' (.slice A n c) (.slice A' (n + 1) c') → K A' (n + 1) c' H') {ty : Nat} :
    HRun Try.prog base (Instr.buildSlice 28 1 #[(0, .slice A1 n1 c1)]) H2 fun v1 H1 => ∃ (A2 : Option Addr) (l2 c2 : Nat), v1 = .slice A2 l2 c2 ∧ HRun Try.prog base (Builtin.append_ #[28, 28] ty #[.slice A n c, .slice A2 l2 c2]) H1 fun v2 H3 => ∃ (A' : Option Addr) (l' c' : Nat), v2 = .slice A' l' c' ∧ K A' l' c' H3 := by
  subst hl
  have ho := h.own.ext hf.ext
  have hrl : rs.length = n := by have := h.own.1; omega
  have hne : ∀ {v : Value} {k : Nat} {xs : List Value}, Own base H2 22 1 v k xs → ∀ g, v.ownBlock = some g → (Value.slice A n c).ownBlock ≠ some g := fun hv g hg e => by
    obtain ⟨_, cur, hc⟩ := ho.known e
    exact hv.tag hc (by decide) hg
  refine h_push un23 inf32 rfl (by decide) rfl ho (by omega) (fun A3 c3 H3 ho3 g3 => hk A3 c3 H3 ⟨fun b x hx => ?_, ho3, fun b hb => ?_, by rw [List.length_append, h.len]; rfl, fun i l' hl' => ?_, fun i j v v' hi hj hij b hb hb' => ?_⟩ g3)
  · exact g3.keep b x (fun e => by rw [h.fo b e] at hx; cases hx) (hf.ext b x (h.ext b x hx))
  · rcases g3.at_ with e | e
    · exact h.fo b (e ▸ hb)
    · exact h.ext.none (hf.ext.none (e b hb))
  · rcases Nat.lt_or_ge i w.length with hi | hi
    · rw [List.getElem?_append_left hi] at hl'
      obtain ⟨A4, c4, h6, h7, h8⟩ := h.rows i l' hl'
      refine ⟨A4, c4, by rw [List.getElem?_append_left (by rw [hrl, ← h.len]; exact hi)]; exact h6, ?_, h8⟩
      exact (h7.ext hf.ext).move (fun g o hg hx => g3.keep g o (hne (h7.ext hf.ext) g hg) hx)
    · have hi' : i = w.length := by
        have := (List.getElem?_eq_some_iff.1 hl').1
        rw [List.length_append, List.length_singleton] at this
        omega
      subst hi'
      rw [List.getElem?_append_right (Nat.le_refl _)] at hl'
      have : l = l' := by simpa using hl'
      subst this
      refine ⟨A1, c1, ?_, hr.move (fun g o hg hx => g3.keep g o (hne hr g hg) hx), fun b hb => h.ext.none (hf.off b hb)⟩
      rw [h.len, ← hrl, List.getElem?_append_right (Nat.le_refl _)]
      simp
  · have split : ∀ {i : Nat} {v : Value}, (rs ++ [Value.slice A1 l.length c1])[i]? = some v → (i < n ∧ rs[i]? = some v) ∨ (i = n ∧ v = .slice A1 l.length c1) := fun {i v} hi => by
      rcases Nat.lt_or_ge i rs.length with hlt | hge
      · rw [List.getElem?_append_left hlt] at hi
        exact .inl ⟨by omega, hi⟩
      · have : i = rs.length := by
          have := (List.getElem?_eq_some_iff.1 hi).1
          rw [List.length_append, List.length_singleton] at this
          omega
        subst this
        rw [List.getElem?_append_right (Nat.le_refl _)] at hi
        exact .inr ⟨hrl, by simpa using hi.symm⟩
    rcases split hi with ⟨h1, h2⟩ | ⟨h1, h2⟩ <;> rcases split hj with ⟨h3, h4⟩ | ⟨h3, h4⟩
    · exact h.dist i j v v' h2 h4 hij b hb hb'
    · subst h4
      obtain ⟨cur, hc⟩ := h.known h2 hb
      rw [hf.off b hb'] at hc; cases hc
    · subst h2
      obtain ⟨cur, hc⟩ := h.known h4 hb'
      rw [hf.off b hb] at hc; cases hc
    · omega
end
section
variable {p : Nat} [NeZero p] {base : Nat} {H : HH} {K : Value → HH → Prop} {A A' A'' : Option Addr} {n n' n'' c c' c'' : Nat}
theorem mulS_pL {t : Nat} {a b : List (Fin p)} (ha : a.length = t + 1) (hb : b.length = t + 1) : mulS a b (2 * t + 1) a.length 0 = pL t a b := by
  unfold mulS pL
  apply List.map_congr_left
  intro x hx
  have hs : sumF a.length (fun t => if t ≤ x then cf a t * cf b (x - t) else 0) = conv (cf a) (cf b) x := by
    unfold conv
    rw [← sumF_ext (m := a.length) (n := max a.length (x + 1)) (Nat.le_max_left _ _) (fun i hi _ => by rw [cf_ge hi]; split <;> grind),
      sumF_ext (m := x + 1) (n := max a.length (x + 1)) (Nat.le_max_right _ _) (fun i hi _ => by rw [if_neg (by omega)])]
    exact sumF_congr (fun i hi => by rw [if_pos (by omega)])
  rw [if_neg (by omega), hs, cf_pmul]
  grind
theorem h_rmul21 (hp : Sup p) {t : Nat} {a b : List (Fin p)} (h : Row H A n (vs a)) (h' : Row H A' n' (vs b)) (ha : a.length = t + 1) (hb : b.length = t + 1) (ht : t ≤ 100)
    (hk : ∀ g H', base ≤ g → Own base H' 22 1 (.slice (some ⟨g, 0, none⟩) (2 * t + 1) (2 * t + 1)) (2 * t + 1) (us (vs (pL t a b))) → Frz H H' (.slice (some ⟨g, 0, none⟩) (2 * t + 1) (2 * t + 1)) → K (.slice (some ⟨g, 0, none⟩) (2 * t + 1) (2 * t + 1)) H') :
    HCall Try.prog base 50 #[.int .u64 p, .slice A n c, .slice A' n' c'] H K := by
  refine privityref21_Mul.spec ?_
  unfold privityref21_Mul.sh
  have e1 := h.1
  have e2 := h'.1
  rw [vs_length] at e1 e2
  have ew : IntKind.i64.wrap (IntKind.i64.wrap ((n : Int) + (n' : Int)) - 1) = ((2 * t + 1 : Nat) : Int) := by
    rw [w64 (x := (n : Int) + (n' : Int)) (by omega) (by omega), w64 (by omega) (by omega)]; omega
  rw [ew]
  generalize hN : 2 * t + 1 = N at *
  have hz0 : List.replicate N (0 : Fin p) = mulS a b N 0 0 := by
    apply List.ext_getElem?
    intro i
    unfold mulS
    rw [List.getElem?_replicate, List.getElem?_map]
    by_cases hi : i < N
    · rw [if_pos hi, List.getElem?_range hi]
      simp [sumF]
    · rw [if_neg hi, List.getElem?_eq_none (by simpa using hi)]; rfl
  refine h_zeros (p := p) (q := N) (by omega) (fun gb H2 hbase o2 f2 => ⟨_, _, _, rfl, ?_⟩)
  rw [hz0] at o2
  have hgb : (Value.slice (some ⟨gb, 0, none⟩) N N).ownBlock = some gb := by simp [Value.ownBlock]
  refine privityref21_Mul.loop0 (fun k y H' => ∃ i : Nat, y = i ∧ i ≤ n ∧ k = n - i ∧ Own base H' 22 1 (.slice (some ⟨gb, 0, none⟩) N N) N (us (vs (mulS a b N i 0))) ∧ Frz H H' (.slice (some ⟨gb, 0, none⟩) N N)) n ⟨0, rfl, Nat.zero_le _, by omega, o2, f2⟩ ?_
  rintro k y g1 H3 ⟨i, rfl, hi, hkk, o3, f3⟩
  unfold privityref21_Mul.B0
  split
  · rename_i e4
    have e4 := of_decide_eq_true e4
    refine privityref21_Mul.loop1 (fun k1 y H' => ∃ j : Nat, y = j ∧ j ≤ n' ∧ k1 = n' - j ∧ Own base H' 22 1 (.slice (some ⟨gb, 0, none⟩) N N) N (us (vs (mulS a b N i j))) ∧ Frz H H' (.slice (some ⟨gb, 0, none⟩) N N)) n' ⟨0, rfl, Nat.zero_le _, by omega, o3, f3⟩ ?_
    rintro k1 y g1 H4 ⟨j, rfl, hj, hk1, o4, f4⟩
    unfold privityref21_Mul.B1
    split
    · rename_i e5
      have e5 := of_decide_eq_true e5
      have hij : i + j < N := by omega
      rw [show IntKind.i64.wrap ((i : Int) + (j : Int)) = ((i + j : Nat) : Int) by rw [w64 (by omega) (by omega)]; omega]
      obtain ⟨a1, q1, q2⟩ := o4.row.at N (i := (i + j : Nat)) (by omega) (by omega)
      obtain ⟨a2, p1, p2⟩ := (h.ext f4.ext).at c (i := i) (by omega) (by omega)
      obtain ⟨a3, r1, r2⟩ := (h'.ext f4.ext).at c' (i := j) (by omega) (by omega)
      rw [Int.toNat_natCast, vs_get] at q2 p2 r2
      refine ⟨a1, q1, _, q2, a2, p1, _, p2, a3, r1, _, r2, _, h_rmul hp _ _ ⟨rfl, rfl⟩, _, h_radd hp _ _ ⟨rfl, rfl⟩, _, aq_own un32 info22 hij, ?_⟩
      refine h_put2 info22 o4 hij rfl (fun H5 o5 s5 => ?_)
      rw [us_set, vs_set, mulS_step hij] at o5
      exact ⟨k1 - 1, by omega, _, rfl, j + 1, nxt (n := n') (by omega) (by unfold maxLen; omega), by omega, by omega, o5, f4.same (f4.off gb hgb) s5⟩
    · rename_i e5
      have e5 : ¬ ((j : Int) < (n' : Int)) := fun h => e5 (decide_eq_true h)
      have : j = b.length := by omega
      subst this
      rw [mulS_row] at o4
      exact ⟨k - 1, by omega, _, rfl, i + 1, nxt (n := n) (by omega) (by unfold maxLen; omega), by omega, by omega, o4, f4⟩
  · rename_i e4
    have e4 : ¬ ((i : Int) < (n : Int)) := fun h => e4 (decide_eq_true h)
    have : i = a.length := by omega
    subst this
    have hpe : mulS a b N a.length 0 = pL t a b := by rw [← hN]; exact mulS_pL ha hb
    rw [hpe] at o3
    exact hk gb H3 hbase o3 f3
/-- A row's free coefficients, and what is put behind them. -/
def roW (t : Nat) (r : List (Fin p)) (i : Nat) (x : Fin p) : List (Fin p) := (r.drop (i * t)).take t ++ [x]
/-- The rows after m rounds. -/
def rowsN (t : Nat) (r L : List (Fin p)) (m : Nat) : List (List (Fin p)) := (List.range t).map fun i => roW t r i (if t - m ≤ i then cf (pleft t r L (t - 1 - i)) (i + 1 + t) else 0)
theorem roW_len {t i : Nat} {r : List (Fin p)} (hr : r.length = t * t) (hi : i < t) (x : Fin p) : (roW t r i x).length = t + 1 := by
  have := Nat.mul_le_mul_right t (show i + 1 ≤ t from hi)
  rw [Nat.succ_mul] at this
  unfold roW
  rw [List.length_append, List.length_take, List.length_drop, List.length_singleton]; omega
theorem rowsN_get {t i m : Nat} {r L : List (Fin p)} (hi : i < t) : rowL (rowsN t r L m) i = roW t r i (if t - m ≤ i then cf (pleft t r L (t - 1 - i)) (i + 1 + t) else 0) := by
  unfold rowL rowsN
  rw [List.getD_eq_getElem?_getD, List.getElem?_map, List.getElem?_range hi]; rfl
theorem rowsN_full (t : Nat) (r L : List (Fin p)) : rowsN t r L t = pD t r L := by
  unfold rowsN pD
  apply List.map_congr_left
  intro i _
  rw [if_pos (by omega)]
  unfold roW prow
  rw [Nat.add_sub_cancel]
theorem roW_set {t i : Nat} {r : List (Fin p)} (hr : r.length = t * t) (hi : i < t) (x y : Fin p) : (roW t r i x).set t y = roW t r i y := by
  have := Nat.mul_le_mul_right t (show i + 1 ≤ t from hi)
  rw [Nat.succ_mul] at this
  have hl : ((r.drop (i * t)).take t).length = t := by rw [List.length_take, List.length_drop]; omega
  unfold roW
  rw [List.set_append_right _ _ (by rw [hl]; exact Nat.le_refl _), hl, Nat.sub_self]
  rfl
theorem rowsN_step {t m : Nat} {r L : List (Fin p)} (hr : r.length = t * t) (hm : m < t) : (rowsN t r L m).set (t - m - 1) (roW t r (t - m - 1) (cf (pleft t r L m) (t + (t - m)))) = rowsN t r L (m + 1) := by
  unfold rowsN
  refine set_range _ _ (by omega) _ ?_ (fun k hk hne => ?_)
  · rw [if_pos (by omega), show t - 1 - (t - m - 1) = m by omega, show t - m - 1 + 1 + t = t + (t - m) by omega]
  · by_cases e : t - m ≤ k
    · rw [if_pos (by omega), if_pos e]
    · rw [if_neg (by omega), if_neg e]
/-- A round half done. -/
def cutS (left f : List (Fin p)) (k i : Nat) : List (Fin p) := (List.range left.length).map fun x => cf left x - if k ≤ x ∧ x < k + i then cf f (x - k) else 0
@[simp] theorem cutS_len (left f : List (Fin p)) (k i : Nat) : (cutS left f k i).length = left.length := by simp [cutS]
theorem cutS_zero (left f : List (Fin p)) (k : Nat) : cutS left f k 0 = left := by
  apply cf_ext (by rw [cutS_len])
  intro i
  unfold cutS
  rw [cf_map_range]
  by_cases h : i < left.length
  · rw [if_pos h, if_neg (by omega)]; grind
  · rw [if_neg h, cf_ge (by omega)]
theorem cutS_step {left f : List (Fin p)} {k i : Nat} (h : k + i < left.length) : (cutS left f k i).set (k + i) (cf (cutS left f k i) (k + i) - cf f i) = cutS left f k (i + 1) := by
  have e : cf (cutS left f k i) (k + i) = cf left (k + i) := by
    unfold cutS
    rw [cf_map_range, if_pos h, if_neg (by omega)]; grind
  rw [e]
  unfold cutS
  refine set_range _ _ h _ (by rw [if_pos (by omega), Nat.add_sub_cancel_left]) (fun x _ hx => ?_)
  by_cases h1 : k ≤ x ∧ x < k + i
  · rw [if_pos h1, if_pos (by omega)]
  · rw [if_neg h1, if_neg (by omega)]
theorem cutS_full {left f : List (Fin p)} {k : Nat} : cutS left f k f.length = pcut left f k := by
  unfold cutS pcut
  apply List.map_congr_left
  intro x _
  by_cases h : k ≤ x
  · rw [if_pos h]
    by_cases h2 : x < k + f.length
    · rw [if_pos ⟨h, h2⟩]
    · rw [if_neg (by omega), cf_ge (l := f) (by omega)]
  · rw [if_neg h, if_neg (by omega)]
theorem Row.sub {l : List Int} (h : Row H A n l) (hc : n ≤ c) {a b : Nat} (h1 : a ≤ b) (h2 : b ≤ l.length) : ∃ A' c', AQ Try.prog (Instr.sliceAt 23 (.slice A n c) (some (.int .i64 a)) (some (.int .i64 b)) none) (.slice A' (b - a) c') ∧ Row H A' (b - a) ((l.drop a).take (b - a)) ∧ b - a ≤ c' := by
  have e1 := h.1
  refine ⟨if c = a then A else A.map (·.add (a * 1)), c - a, fun W => ?_, ⟨by rw [List.length_take, List.length_drop]; omega, ?_⟩, by omega⟩
  · have he : Try.prog.elem 23 = 22 := by unfold Program.elem; rw [un32]
    have hh := run_slice_lh W 23 A n c (he.symm ▸ un32) .i64 .i64 a b (by omega) (by omega) (by omega)
    rw [run_sliceAt_slice W 23 _ _ _ _ (he.symm ▸ un32), hh, he, run_sz info22]
    simp only [Result.andThen, sliced, Int.toNat_natCast]
  · by_cases e : a = b
    · left
      rw [e, Nat.sub_self]
      rfl
    · rcases h.2 with h3 | ⟨ad, rfl, h3⟩
      · have := congrArg List.length h3
        rw [us_length] at this
        have : l.length = 0 := this
        omega
      · rw [if_neg (by omega)]
        refine .inr ⟨_, rfl, fun i u hu => ?_⟩
        rw [Nat.mul_one, addr_add']
        refine h3 _ u ?_
        unfold us at hu ⊢
        rw [List.map_take, List.map_drop, List.getElem?_take] at hu
        split at hu
        · rw [List.getElem?_drop] at hu; exact hu
        · cases hu
theorem vs_sub (f : List (Fin p)) (a b : Nat) : ((vs f).drop a).take b = vs ((f.drop a).take b) := by
  unfold vs
  rw [List.map_take, List.map_drop]
end
end Go.Proofs.Ytjkggiemnfigbaa.HL
end
section
set_option linter.unusedVariables false
set_option linter.unusedSimpArgs false
set_option linter.unusedSectionVars false
set_option maxHeartbeats 4000000
namespace Go.Proofs.Ytjkggiemnfigbaa.HL
open Go Go.Proofs.YtjkggiemnfigbaaNum Go.Proofs.Ytjkggiemnfigbaa.FEv
section
variable {p : Nat} [NeZero p] {base : Nat} {H : HH} {K : Value → HH → Prop} {A A' A'' : Option Addr} {n n' n'' c c' c'' : Nat}
theorem ms_setP (m : List (List (Fin p))) (i : Nat) (l : List (Fin p)) : (ms m).set i (vs l) = ms (m.set i l) := by simp [ms, List.map_set]
theorem rowsN_zero (t : Nat) (r L : List (Fin p)) : rowsN t r L 0 = (List.range t).map fun i => roW t r i 0 := by
  unfold rowsN
  apply List.map_congr_left
  intro i hi
  rw [if_neg (by have := List.mem_range.1 hi; omega)]
theorem h_rprove (hp : Sup p) {t : Nat} {a b r : List (Fin p)} (ha : Row H A n (vs a)) (hb : Row H A' n' (vs b)) (hr : Row H A'' n'' (vs r)) (t1 : 1 ≤ t) (t2 : t ≤ 4) (la : a.length = t + 1) (lb : b.length = t + 1) (lr : r.length = t * t) (hc : n'' ≤ c'')
    (hk : ∀ A1 c1 A2 c2 H', Ext H H' → Mat H' A1 t (ms (pD t r (pL t a b))) → Row H' A2 (t + 1) (vs (pC t r (pL t a b))) → K (.tuple #[.slice A1 t c1, .slice A2 (t + 1) c2]) H') :
    HCall Try.prog base 18 #[.int .u64 p, .int .i64 t, .slice A n c, .slice A' n' c', .slice A'' n'' c''] H K := by
  refine privityref21_Prove.spec ?_
  unfold privityref21_Prove.sh
  refine h_rmul21 hp ha hb la lb (by omega) (fun gb H2 hbase o2 f2 => ⟨_, _, _, rfl, ?_⟩)
  have hL := pL_len t a b
  generalize pL t a b = L at *
  have hgb : (Value.slice (some ⟨gb, 0, none⟩) (2 * t + 1) (2 * t + 1)).ownBlock = some gb := by simp [Value.ownBlock]
  have hn : H gb = none := f2.off gb hgb
  have e3 := hr.1
  rw [vs_length] at e3
  have htt : ∀ i, i < t → i * t + t ≤ t * t := fun i hi => by
    have := Nat.mul_le_mul_right t (show i + 1 ≤ t from hi)
    rwa [Nat.succ_mul] at this
  have ht16 : t * t ≤ 16 := Nat.mul_le_mul t2 t2
  have own22 : ∀ {H' : HH} {l : List (Fin p)}, Own base H' 22 1 (.slice (some ⟨gb, 0, none⟩) (2 * t + 1) (2 * t + 1)) (2 * t + 1) (us (vs l)) → ∃ cur, H' gb = some (.cells cur 22 (0, 0)) := fun h => (h.known hgb).2
  refine privityref21_Prove.loop0 (fun k A1 l1 c1 y H' => ∃ j : Nat, y = j ∧ j ≤ t ∧ k = t - j ∧ l1 = j ∧ ∃ rs, Rows base H H' A1 j c1 rs (ms ((List.range j).map fun i => roW t r i 0)) ∧ (∀ (i : Nat) (v : Value), rs[i]? = some v → v.ownBlock ≠ some gb) ∧ Own base H' 22 1 (.slice (some ⟨gb, 0, none⟩) (2 * t + 1) (2 * t + 1)) (2 * t + 1) (us (vs L))) t
    ⟨0, rfl, Nat.zero_le _, rfl, rfl, [], ⟨f2.ext, Own.nil _ _ _ _, fun b hb => by simp [Value.ownBlock] at hb, rfl, fun i l h => by simp at h, fun i j v v' h => by simp at h⟩, fun i v h => by simp at h, o2⟩ ?_
  rintro k A1 l1 c1 y g H3 ⟨j, rfl, hj, hkk, rfl, rs, R3, d3, o3⟩
  unfold privityref21_Prove.B0
  split
  · rename_i e
    have e := of_decide_eq_true e
    have hjt : l1 < t := by omega
    have hlt := htt l1 hjt
    refine row_lit0 (fun A6 c6 H5 X5 o5 f5 => ⟨_, _, _, rfl, ?_⟩)
    obtain ⟨A7, c7, q7, r7, hc7⟩ := (((hr.ext R3.ext).ext X5)).sub (c := c'') (a := l1 * t) (b := l1 * t + t) hc (by omega) (by rw [vs_length]; omega)
    rw [show l1 * t + t - l1 * t = t by omega] at q7 r7
    rw [vs_sub] at r7
    have w1 : IntKind.i64.wrap ((l1 : Int) * (t : Int)) = ((l1 * t : Nat) : Int) := by
      rw [← Int.natCast_mul, w64 (by omega) (by omega)]
    have w2 : IntKind.i64.wrap (IntKind.i64.wrap ((l1 : Int) + 1) * (t : Int)) = ((l1 * t + t : Nat) : Int) := by
      rw [nxt (n := 1000) (by omega) (by decide), ← Int.natCast_mul, Nat.succ_mul, w64 (by omega) (by omega)]
    rw [w1, w2]
    refine ⟨_, _, _, q7, ?_⟩
    have l7 : ((r.drop (l1 * t)).take t).length = t := by rw [List.length_take, List.length_drop]; omega
    refine h_appR (l := ([] : List (Fin p))) (f := (r.drop (l1 * t)).take t) o5 ⟨X5, f5⟩ l7.symm (by omega) r7.2 (fun A8 c8 H8 o8 f8 => ?_)
    rw [List.nil_append] at o8; rw [Nat.zero_add] at o8 f8 ⊢
    refine row_lit (fun A9 H9 X9 r9 => ⟨_, _, _, rfl, ?_⟩)
    refine h_appR (l := (r.drop (l1 * t)).take t) (m := 1) (f := [(0 : Fin p)]) (o8.ext X9) (f8.more X9) rfl (by omega) r9 (fun A10 c10 H10 o10 f10 => ?_)
    have o3' := o3.ext f10.ext
    refine h_pushRw R3 (by omega) (by rw [vs_length, List.length_append, l7]; simp) f10 o10 (fun A11 c11 H11 R11 g11 => ?_)
    refine ⟨k - 1, by omega, _, _, _, _, rfl, rfl, l1 + 1, nxt (n := 1000) (by omega) (by decide), by omega, by omega, rfl, rs ++ [.slice A10 (t + 1) c10], ?_, fun i v hv => ?_, o3'.move (fun g o hg hx => g11.keep g o (fun e => ?_) hx)⟩
    · rw [mk_succ, ms_snoc]
      exact R11
    · rcases Nat.lt_or_ge i rs.length with hlt | hge
      · rw [List.getElem?_append_left hlt] at hv
        exact d3 i v hv
      · have : i = rs.length := by
          have := (List.getElem?_eq_some_iff.1 hv).1
          rw [List.length_append, List.length_singleton] at this
          omega
        subst this
        rw [List.getElem?_append_right (Nat.le_refl _)] at hv
        have : v = .slice A10 (t + 1) c10 := by simpa using hv.symm
        subst this
        intro hb
        obtain ⟨cur, hcur⟩ := own22 o3
        rw [f10.off gb hb] at hcur; cases hcur
    · have : g = gb := by rw [hgb] at hg; exact (Option.some.inj hg).symm
      subst this
      obtain ⟨cur, hcur⟩ := own22 o3'
      exact (R3.own.ext f10.ext).tag hcur (by decide) e
  · rename_i e
    have e : ¬ ((l1 : Int) < (t : Int)) := fun h => e (decide_eq_true h)
    obtain rfl : l1 = t := by omega
    rw [← rowsN_zero l1 r L] at R3
    clear own22
    have own22 : ∀ {H' : HH} {l : List (Fin p)}, Own base H' 22 1 (.slice (some ⟨gb, 0, none⟩) (2 * l1 + 1) (2 * l1 + 1)) (2 * l1 + 1) (us (vs l)) → ∃ cur, H' gb = some (.cells cur 22 (0, 0)) := fun h => (h.known hgb).2
    generalize l1 = t at *
    refine privityref21_Prove.loop1 (fun k y H' => ∃ m : Nat, m ≤ t ∧ y = ((t - m : Nat) : Int) ∧ k = t - m ∧ Rows base H H' A1 t c1 rs (ms (rowsN t r L m)) ∧ Own base H' 22 1 (.slice (some ⟨gb, 0, none⟩) (2 * t + 1) (2 * t + 1)) (2 * t + 1) (us (vs (pleft t r L m)))) t ⟨0, Nat.zero_le _, rfl, rfl, R3, o3⟩ ?_
    rintro k1 y g4 H4 ⟨m, hm, rfl, rfl, R4, o4⟩
    unfold privityref21_Prove.B1
    have lp := pleft_len t r L m
    split
    · rename_i e1
      have e1 := of_decide_eq_true e1
      have hmt : m < t := by omega
      have wi : IntKind.i64.wrap (((t - m : Nat) : Int) - 1) = ((t - m - 1 : Nat) : Int) := by rw [w64 (by omega) (by omega)]; omega
      have wx : IntKind.i64.wrap ((t : Int) + ((t - m : Nat) : Int)) = ((t + (t - m) : Nat) : Int) := by rw [w64 (by omega) (by omega)]; omega
      obtain ⟨g5, hA5, q5, A6, c6, h6, q6, o6⟩ := R4.at (i := t - m - 1) (by omega)
      have hrow := rowsN_get (t := t) (r := r) (L := L) (i := t - m - 1) (m := m) (by omega)
      have hrl : (rowL (rowsN t r L m) (t - m - 1)).length = t + 1 := by rw [hrow]; exact roW_len lr (by omega) _
      rw [ms_get, vs_length, hrl] at h6 q6 o6
      obtain ⟨g7, cur7, e7, hb7, hcur7, hlt7, hget7⟩ := o6.at (j := t) (by omega)
      subst e7
      obtain ⟨a8, q8, q9⟩ := o4.row.at (2 * t + 1) (i := ((t + (t - m) : Nat) : Int)) (by omega) (by omega)
      rw [Int.toNat_natCast, vs_get] at q9
      rw [wi, wx]
      refine ⟨_, q5, _, _, _, q6, a8, q8, _, q9, _, aq_own un32 info22 (show t < t + 1 by omega), ?_⟩
      have hne : g7 ≠ gb := fun e => d3 _ _ h6 (by rw [e]; simp [Value.ownBlock])
      refine h_st info22 rfl hcur7 hb7 hlt7 ?_
      have R5 := R4.set h6 rfl hcur7 t (V (cf (pleft t r L m) (t + (t - m))))
      rw [ms_get, vs_set, ms_setP, hrow, roW_set lr (by omega), rowsN_step lr hmt] at R5
      have o5 := o4.far (g := g7) (fun e => by rw [hgb] at e; exact hne (Option.some.inj e).symm) (.cells (cur7.setIfInBounds t (.int .u64 (V (cf (pleft t r L m) (t + (t - m)))))) 22 (0, 0))
      generalize upd H4 g7 (.cells (cur7.setIfInBounds t (.int .u64 (V (cf (pleft t r L m) (t + (t - m)))))) 22 (0, 0)) = H5 at R5 o5 ⊢
      have hf : prow t r (t - m) (pleft t r L m) = roW t r (t - m - 1) (cf (pleft t r L m) (t + (t - m))) := by
        unfold prow roW
        rw [Nat.add_comm t (t - m)]
      have hfl : (roW t r (t - m - 1) (cf (pleft t r L m) (t + (t - m)))).length = t + 1 := roW_len lr (by omega) _
      have hrow5 := rowsN_get (t := t) (r := r) (L := L) (i := t - m - 1) (m := m + 1) (by omega)
      rw [if_pos (by omega), show t - 1 - (t - m - 1) = m by omega, show t - m - 1 + 1 + t = t + (t - m) by omega] at hrow5
      have hnext : pleft t r L (m + 1) = pcut (pleft t r L m) (roW t r (t - m - 1) (cf (pleft t r L m) (t + (t - m)))) (t - m) := by rw [pleft, hf]
      generalize roW t r (t - m - 1) (cf (pleft t r L m) (t + (t - m))) = f at *
      rw [← cutS_zero (pleft t r L m) f (t - m)] at o5
      refine privityref21_Prove.loop2 (fun k y H' => ∃ i : Nat, y = i ∧ i ≤ t + 1 ∧ k = t + 1 - i ∧ Rows base H H' A1 t c1 rs (ms (rowsN t r L (m + 1))) ∧ Own base H' 22 1 (.slice (some ⟨gb, 0, none⟩) (2 * t + 1) (2 * t + 1)) (2 * t + 1) (us (vs (cutS (pleft t r L m) f (t - m) i)))) (t + 1) ⟨0, rfl, Nat.zero_le _, rfl, R5, o5⟩ ?_
      rintro k2 y g6 H6 ⟨i, rfl, hi, rfl, R6, o6'⟩
      unfold privityref21_Prove.B2
      split
      · rename_i e2
        have e2 := of_decide_eq_true e2
        have wy : IntKind.i64.wrap (((t - m : Nat) : Int) + (i : Int)) = ((t - m + i : Nat) : Int) := by rw [w64 (by omega) (by omega)]; omega
        rw [wi, wy]
        obtain ⟨a1, q1, q2⟩ := o6'.row.at (2 * t + 1) (i := ((t - m + i : Nat) : Int)) (by omega) (by omega)
        rw [Int.toNat_natCast, vs_get] at q2
        obtain ⟨g8, hA8, q10, A9, c9, h9, q11, o9⟩ := R6.at (i := t - m - 1) (by omega)
        rw [ms_get, vs_length, hrow5, hfl] at h9 q11 o9
        obtain ⟨a3, p1, p2⟩ := o9.row.at c9 (i := (i : Int)) (by omega) (by omega)
        rw [Int.toNat_natCast, vs_get] at p2
        refine ⟨a1, q1, _, q2, _, q10, _, _, _, q11, a3, p1, _, p2, _, h_rsub hp _ _ ⟨rfl, rfl⟩, _, aq_own un32 info22 (show t - m + i < 2 * t + 1 by omega), ?_⟩
        obtain ⟨cur6, hcur6⟩ := own22 o6'
        refine h_put2 info22 o6' (by omega) rfl (fun H7 o7 s7 => ?_)
        rw [us_set, vs_set, cutS_step (by omega)] at o7
        exact ⟨t + 1 - i - 1, by omega, _, rfl, i + 1, nxt (n := 1000) (by omega) (by decide), by omega, by omega, R6.same hn hcur6 (by decide) d3 s7, o7⟩
      · rename_i e2
        have e2 : ¬ ((i : Int) ≤ (t : Int)) := fun h => e2 (decide_eq_true h)
        have : i = f.length := by omega
        subst this
        rw [cutS_full, ← hnext] at o6'
        exact ⟨t - m - 1, by omega, _, rfl, m + 1, by omega, by rw [wi]; congr 1, by omega, R6, o6'⟩
    · rename_i e1
      have e1 : ¬ (((t - m : Nat) : Int) ≥ 1) := fun h => e1 (decide_eq_true h)
      obtain rfl : m = t := by omega
      rw [rowsN_full] at R4
      have wt : IntKind.i64.wrap ((m : Int) + 1) = ((m + 1 : Nat) : Int) := nxt (n := 1000) (by omega) (by decide)
      rw [wt]
      refine ⟨_, _, _, aq_to un32 info22 (by omega) (by omega), ?_⟩
      rw [Int.toNat_natCast]
      exact hk _ _ _ _ H4 R4.ext R4.mat (o4.row.le_take (k := m + 1) (by omega))
end
end Go.Proofs.Ytjkggiemnfigbaa.HL
end
section
set_option linter.unusedVariables false
set_option linter.unusedSimpArgs false
set_option maxRecDepth 100000
namespace Go.Proofs.Ytjkggiemnfigbaa.HL
open Go
def privitylaw21_ProductProofProve.ann : Ann := ⟨fun k => [], fun k => false, fun k => []⟩
def privitylaw21_ProductProofProve.sh (base : Nat) (x0_0 : Int) (x0_1 : Int) (Ax0_2 : Option Addr) (lx0_2 cx0_2 : Nat) (Ax0_3 : Option Addr) (lx0_3 cx0_3 : Nat) (Ax0_4 : Option Addr) (lx0_4 cx0_4 : Nat) (H0 : HH) (K : Value → HH → Prop) : Prop :=
 HRun Try.prog base (Instr.box 25 (.agg #[(.int .u64 x0_0), (.int .i64 x0_1), (.slice Ax0_2 lx0_2 cx0_2), (.slice Ax0_3 lx0_3 cx0_3), (.slice Ax0_4 lx0_4 cx0_4)])) H0 fun v1 H2 =>
 ∃ a3 : Addr, v1 = (.pointer ((some a3))) ∧ ∃ n4 : Int, ∃ n5 : Int, ∃ (A6 : Option Addr) (l6 c6 : Nat), ∃ (A7 : Option Addr) (l7 c7 : Nat), ∃ (A8 : Option Addr) (l8 c8 : Nat), QRun Try.prog (Instr.loadAt 25 (.pointer ((some a3)))) H2 (.agg #[(.int .u64 n4), (.int .i64 n5), (.slice A6 l6 c6), (.slice A7 l7 c7), (.slice A8 l8 c8)]) ∧
 HCall Try.prog base 15 #[(.agg #[(.int .u64 n4), (.int .i64 n5), (.slice A6 l6 c6), (.slice A7 l7 c7), (.slice A8 l8 c8)])] H2 fun v9 H10 =>
 ∃ b11 : Bool, v9 = (.bool b11) ∧ if (!b11) = true then
 HCall Try.prog base 16 #[] H10 fun v12 H13 =>
 ∃ b14 : Bool, v12 = (.bool b14) ∧ K (.bool b14) H13
 else
 ∃ a15 : Addr, AQ Try.prog (Instr.fieldAt 25 (.pointer ((some a3))) 0) (.pointer ((some a15))) ∧
 ∃ n16 : Int, QRun Try.prog (Instr.loadAt 22 (.pointer ((some a15)))) H10 (.int .u64 n16) ∧
 ∃ a17 : Addr, AQ Try.prog (Instr.fieldAt 25 (.pointer ((some a3))) 1) (.pointer ((some a17))) ∧
 ∃ n18 : Int, QRun Try.prog (Instr.loadAt 3 (.pointer ((some a17)))) H10 (.int .i64 n18) ∧
 ∃ a19 : Addr, AQ Try.prog (Instr.fieldAt 25 (.pointer ((some a3))) 2) (.pointer ((some a19))) ∧
 ∃ (A20 : Option Addr) (l20 c20 : Nat), QRun Try.prog (Instr.loadAt 23 (.pointer ((some a19)))) H10 (.slice A20 l20 c20) ∧
 ∃ a21 : Addr, AQ Try.prog (Instr.fieldAt 25 (.pointer ((some a3))) 3) (.pointer ((some a21))) ∧
 ∃ (A22 : Option Addr) (l22 c22 : Nat), QRun Try.prog (Instr.loadAt 23 (.pointer ((some a21)))) H10 (.slice A22 l22 c22) ∧
 ∃ a23 : Addr, AQ Try.prog (Instr.fieldAt 25 (.pointer ((some a3))) 4) (.pointer ((some a23))) ∧
 ∃ (A24 : Option Addr) (l24 c24 : Nat), QRun Try.prog (Instr.loadAt 23 (.pointer ((some a23)))) H10 (.slice A24 l24 c24) ∧
 HCall Try.prog base 17 #[(.int .u64 n16), (.int .i64 n18), (.slice A20 l20 c20), (.slice A22 l22 c22), (.slice A24 l24 c24)] H10 fun v25 H26 =>
 ∃ (A27 : Option Addr) (l27 c27 : Nat), ∃ (A28 : Option Addr) (l28 c28 : Nat), v25 = (.tuple #[(.slice A27 l27 c27), (.slice A28 l28 c28)]) ∧ ∃ a29 : Addr, AQ Try.prog (Instr.fieldAt 25 (.pointer ((some a3))) 0) (.pointer ((some a29))) ∧
 ∃ n30 : Int, QRun Try.prog (Instr.loadAt 22 (.pointer ((some a29)))) H26 (.int .u64 n30) ∧
 ∃ a31 : Addr, AQ Try.prog (Instr.fieldAt 25 (.pointer ((some a3))) 1) (.pointer ((some a31))) ∧
 ∃ n32 : Int, QRun Try.prog (Instr.loadAt 3 (.pointer ((some a31)))) H26 (.int .i64 n32) ∧
 ∃ a33 : Addr, AQ Try.prog (Instr.fieldAt 25 (.pointer ((some a3))) 2) (.pointer ((some a33))) ∧
 ∃ (A34 : Option Addr) (l34 c34 : Nat), QRun Try.prog (Instr.loadAt 23 (.pointer ((some a33)))) H26 (.slice A34 l34 c34) ∧
 ∃ a35 : Addr, AQ Try.prog (Instr.fieldAt 25 (.pointer ((some a3))) 3) (.pointer ((some a35))) ∧
 ∃ (A36 : Option Addr) (l36 c36 : Nat), QRun Try.prog (Instr.loadAt 23 (.pointer ((some a35)))) H26 (.slice A36 l36 c36) ∧
 ∃ a37 : Addr, AQ Try.prog (Instr.fieldAt 25 (.pointer ((some a3))) 4) (.pointer ((some a37))) ∧
 ∃ (A38 : Option Addr) (l38 c38 : Nat), QRun Try.prog (Instr.loadAt 23 (.pointer ((some a37)))) H26 (.slice A38 l38 c38) ∧
 HCall Try.prog base 18 #[(.int .u64 n30), (.int .i64 n32), (.slice A34 l34 c34), (.slice A36 l36 c36), (.slice A38 l38 c38)] H26 fun v39 H40 =>
 ∃ (A41 : Option Addr) (l41 c41 : Nat), ∃ (A42 : Option Addr) (l42 c42 : Nat), v39 = (.tuple #[(.slice A41 l41 c41), (.slice A42 l42 c42)]) ∧ HCall Try.prog base 16 #[] H40 fun v43 H44 =>
 ∃ b45 : Bool, v43 = (.bool b45) ∧ if b45 = true then
 HCall Try.prog base 19 #[(.slice A27 l27 c27), (.slice A41 l41 c41)] H44 fun v46 H47 =>
 ∃ b48 : Bool, v46 = (.bool b48) ∧ if b48 = true then
 HCall Try.prog base 20 #[(.slice A28 l28 c28), (.slice A42 l42 c42)] H47 fun v49 H50 =>
 ∃ b51 : Bool, v49 = (.bool b51) ∧ K (.bool b51) H50
 else
 K (.bool false) H47
 else
 K (.bool false) H44
theorem privitylaw21_ProductProofProve.spec {base : Nat} {x0_0 : Int} {x0_1 : Int} {Ax0_2 : Option Addr} {lx0_2 cx0_2 : Nat} {Ax0_3 : Option Addr} {lx0_3 cx0_3 : Nat} {Ax0_4 : Option Addr} {lx0_4 cx0_4 : Nat} {H0 : HH} {K : Value → HH → Prop} (h : privitylaw21_ProductProofProve.sh base x0_0 x0_1 Ax0_2 lx0_2 cx0_2 Ax0_3 lx0_3 cx0_3 Ax0_4 lx0_4 cx0_4 H0 K) : HCall Try.prog base 3 #[(.agg #[(.int .u64 x0_0), (.int .i64 x0_1), (.slice Ax0_2 lx0_2 cx0_2), (.slice Ax0_3 lx0_3 cx0_3), (.slice Ax0_4 lx0_4 cx0_4)])] H0 K := spec_of_wpC (n := 50) (ann := privitylaw21_ProductProofProve.ann) mix Try.func3 (by kernel_rfl) (cast (show privitylaw21_ProductProofProve.sh base x0_0 x0_1 Ax0_2 lx0_2 cx0_2 Ax0_3 lx0_3 cx0_3 Ax0_4 lx0_4 cx0_4 H0 K = wpC Try.prog base 50 privitylaw21_ProductProofProve.ann (bodyOf Try.f3) (ofL [(.agg #[(.int .u64 x0_0), (.int .i64 x0_1), (.slice Ax0_2 lx0_2 cx0_2), (.slice Ax0_3 lx0_3 cx0_3), (.slice Ax0_4 lx0_4 cx0_4)])]) H0 (retQ Try.prog 50 Try.f3 K) by kernel_rfl) h)
def privitylaw21_ProductProofVerify.ann : Ann := ⟨fun k => bif Nat.beq k 3 then [] else bif Nat.beq k 8 then [] else [], fun k => false, fun k => bif Nat.beq k 6 then [0, 2, 7, 8, 9, 10, 11, 12] else []⟩
def privitylaw21_ProductProofZeroKnowledge.ann : Ann := ⟨fun k => bif Nat.beq k 9 then [] else bif Nat.beq k 20 then [4, 9, 10] else bif Nat.beq k 22 then [16] else bif Nat.beq k 23 then [] else [], fun k => false, fun k => bif Nat.beq k 5 then [1, 3, 4] else bif Nat.beq k 17 then [1, 3, 5, 6, 7, 8, 9, 10, 11, 12, 13, 14, 15] else []⟩
def privitylaw21_ProductProofZeroKnowledge.P1 (base : Nat) (l : List Value) (H0 : HH) (K : Value → HH → Prop) : Prop := HCodeL Try.prog base 280 (codeAt [.r, .r, .r, .r, .r, .r, .r, .r, .r, .r, .l, .r, .b] (bodyOf Try.f6)) [1, 3, 5, 6, 7, 8, 9, 10, 11, 12, 13, 14, 15] l H0 (qAt Try.prog base 280 privitylaw21_ProductProofZeroKnowledge.ann [.r, .r, .r, .r, .r, .r, .r, .r, .r, .r, .l, .r, .b] [] (bodyOf Try.f6) (retQ Try.prog 280 Try.f6 K))
def privitylaw21_ProductProofZeroKnowledge.L1 (base : Nat) (x1 x3 : Addr) (x5 x6 : Int) (Ax7 : Option Addr) (lx7 cx7 : Nat) (Ax8 : Option Addr) (lx8 cx8 : Nat) (Ax9 : Option Addr) (lx9 cx9 : Nat) (Ax10 : Option Addr) (lx10 cx10 : Nat) (Ax11 : Option Addr) (lx11 cx11 : Nat) (Ax12 : Option Addr) (lx12 cx12 : Nat) (Ax13 : Option Addr) (lx13 cx13 : Nat) (Ax14 : Option Addr) (lx14 cx14 : Nat) (y15 : Int) (H0 : HH) (K : Value → HH → Prop) : Prop := privitylaw21_ProductProofZeroKnowledge.P1 base [(.pointer ((some x1))), (.pointer ((some x3))), (.int .u64 x5), (.int .u64 x6), (.slice Ax7 lx7 cx7), (.slice Ax8 lx8 cx8), (.slice Ax9 lx9 cx9), (.slice Ax10 lx10 cx10), (.slice Ax11 lx11 cx11), (.slice Ax12 lx12 cx12), (.slice Ax13 lx13 cx13), (.slice Ax14 lx14 cx14), (.int .i64 y15)] H0 K
def privitylaw21_ProductProofChange.ann : Ann := ⟨fun k => bif Nat.beq k 9 then [] else bif Nat.beq k 14 then [9, 15, 16, 25, 26] else bif Nat.beq k 20 then [5, 19, 20, 21] else bif Nat.beq k 22 then [0, 3, 12, 13, 14] else [], fun k => false, fun k => bif Nat.beq k 5 then [1, 3, 4] else bif Nat.beq k 18 then [3, 7, 11, 12, 13, 14, 15, 16] else []⟩
def privitylaw21_ProductProofChange.P1 (base : Nat) (l : List Value) (H0 : HH) (K : Value → HH → Prop) : Prop := HCodeL Try.prog base 201 (codeAt [.r, .r, .r, .r, .r, .r, .r, .r, .r, .r, .r, .l, .r, .b] (bodyOf Try.f14)) [3, 7, 11, 12, 13, 14, 15, 16] l H0 (qAt Try.prog base 201 privitylaw21_ProductProofChange.ann [.r, .r, .r, .r, .r, .r, .r, .r, .r, .r, .r, .l, .r, .b] [] (bodyOf Try.f14) (retQ Try.prog 201 Try.f14 K))
def privitylaw21_ProductProofChange.L1 (base : Nat) (x3 : Addr) (Ax7 : Option Addr) (lx7 cx7 : Nat) (Ax11 : Option Addr) (lx11 cx11 : Nat) (Ax12 : Option Addr) (lx12 cx12 : Nat) (Ax13 : Option Addr) (lx13 cx13 : Nat) (Ax14 : Option Addr) (lx14 cx14 : Nat) (Ax15 : Option Addr) (lx15 cx15 : Nat) (y16 : Int) (H0 : HH) (K : Value → HH → Prop) : Prop := privitylaw21_ProductProofChange.P1 base [(.pointer ((some x3))), (.slice Ax7 lx7 cx7), (.slice Ax11 lx11 cx11), (.slice Ax12 lx12 cx12), (.slice Ax13 lx13 cx13), (.slice Ax14 lx14 cx14), (.slice Ax15 lx15 cx15), (.int .i64 y16)] H0 K
def privitylaw21_ProductProofUnique.ann : Ann := ⟨fun k => bif Nat.beq k 11 then [29] else bif Nat.beq k 13 then [1, 14, 19, 20, 21, 22] else bif Nat.beq k 14 then [] else bif Nat.beq k 20 then [21] else [], fun k => bif Nat.beq k 14 then true else false, fun k => bif Nat.beq k 9 then [1, 2, 3, 7, 8, 9, 10, 11] else bif Nat.beq k 14 then [1, 2, 3, 7, 8, 9, 10, 11] else bif Nat.beq k 17 then [1, 3, 8, 9, 10, 12, 13] else []⟩
def privitylaw21_ProductProofUnique.P1 (base : Nat) (l : List Value) (H0 : HH) (K : Value → HH → Prop) : Prop := HCodeL Try.prog base 193 (codeAt [.r, .r, .r, .r, .r, .r, .r, .r, .l, .r, .b] (bodyOf Try.f7)) [1, 3, 8, 9, 10, 12, 13] l H0 (qAt Try.prog base 193 privitylaw21_ProductProofUnique.ann [.r, .r, .r, .r, .r, .r, .r, .r, .l, .r, .b] [] (bodyOf Try.f7) (retQ Try.prog 193 Try.f7 K))
def privitylaw21_ProductProofUnique.R0 (base : Nat) (N0 : Value → Value → Value → HH → Prop) (l : List Value) (H0 : HH) (K : Value → HH → Prop) : Prop := HCodeL Try.prog base 193 (codeAt [.r, .r, .r, .r, .r, .r, .l, .r, .b, .lp, .r, .l, .b, .r, .r] (bodyOf Try.f7)) [1, 2, 3, 7, 8, 9, 10, 11] l H0 (qAt Try.prog base 193 privitylaw21_ProductProofUnique.ann [.r, .r, .r, .r, .r, .r, .l, .r, .b, .lp, .r, .l, .b, .r, .r] [fun fr H => N0 (fr 9) (fr 10) (fr 11) H] (bodyOf Try.f7) (retQ Try.prog 193 Try.f7 K))
def privitylaw21_ProductProofUnique.L1 (base : Nat) (Ax1 : Option Addr) (lx1 cx1 : Nat) (x3 : Addr) (Ax8 : Option Addr) (lx8 cx8 : Nat) (x9 : Bool) (Ax10 : Option Addr) (lx10 cx10 : Nat) (y12 : Bool) (y13 : Int) (H0 : HH) (K : Value → HH → Prop) : Prop := privitylaw21_ProductProofUnique.P1 base [(.slice Ax1 lx1 cx1), (.pointer ((some x3))), (.slice Ax8 lx8 cx8), (.bool x9), (.slice Ax10 lx10 cx10), (.bool y12), (.int .i64 y13)] H0 K
end Go.Proofs.Ytjkggiemnfigbaa.HL
end
section
set_option linter.unusedVariables false
set_option linter.unusedSimpArgs false
set_option linter.unusedSectionVars false
set_option maxHeartbeats 4000000
namespace Go.Proofs.Ytjkggiemnfigbaa.HL
open Go Go.Proofs.YtjkggiemnfigbaaNum Go.Proofs.Ytjkggiemnfigbaa.FEv
section
variable {base : Nat} {H : HH} {A2 A3 A4 : Option Addr} {n2 n3 n4 c2 c3 c4 : Nat} {P T : Int} {la lb lr : List Int}
theorem law_ProductProofProve (ha : Row H A2 n2 la) (hb : Row H A3 n3 lb) (hr : Row H A4 n4 lr) (na : ∀ x ∈ la, 0 ≤ x) (nb : ∀ x ∈ lb, 0 ≤ x) (nr : ∀ x ∈ lr, 0 ≤ x) (ma : la.length ≤ maxLen) (mb : lb.length ≤ maxLen) (mr : lr.length ≤ maxLen) (hc : n4 ≤ c4) :
    HCall Try.prog base 3 #[.agg #[.int .u64 P, .int .i64 T, .slice A2 n2 c2, .slice A3 n3 c3, .slice A4 n4 c4]] H fun v _ => v = .bool true := by
  refine privitylaw21_ProductProofProve.spec ?_
  unfold privitylaw21_ProductProofProve.sh
  refine h_zbox (fun b H1 X1 zb => ⟨_, rfl, _, _, _, _, _, _, _, _, _, _, _, zb.all, h_vcase (ha.ext X1) (hb.ext X1) (hr.ext X1) na nb nr ma mb mr (fun q hz t a b' r vc H2 X2 => ⟨_, rfl, ?_⟩) (fun H2 X2 => ⟨_, rfl, ?_⟩)⟩)
  rotate_left
  · rw [if_pos (by decide)]
    exact h_awakeP (fun _ _ => ⟨_, rfl, rfl⟩)
  rw [if_neg (by decide)]
  obtain ⟨hp, rfl, rfl, rfl, rfl, rfl, t1, t4, al, bl, rl⟩ := vc
  have X12 := X1.trans X2
  have zb2 := zb.ext X2
  have htt : t * t ≤ 16 := Nat.mul_le_mul t4 t4
  refine ⟨_, fz b 0 (by decide), _, zb2.zp, _, fz b 1 (by decide), _, zb2.zt, _, fz b 2 (by decide), _, _, _, zb2.za, _, fz b 3 (by decide), _, _, _, zb2.zb, _, fz b 4 (by decide), _, _, _, zb2.zr, ?_⟩
  refine h_prove hp (ha.ext X12) (hb.ext X12) (hr.ext X12) t1 (by omega) al bl rl hc (fun A5 c5 A6 c6 H3 X3 M3 R3 _ => ⟨_, _, _, _, _, _, rfl, ?_⟩)
  have zb3 := zb2.ext X3
  have X13 := X12.trans X3
  refine ⟨_, fz b 0 (by decide), _, zb3.zp, _, fz b 1 (by decide), _, zb3.zt, _, fz b 2 (by decide), _, _, _, zb3.za, _, fz b 3 (by decide), _, _, _, zb3.zb, _, fz b 4 (by decide), _, _, _, zb3.zr, ?_⟩
  refine h_rprove hp (ha.ext X13) (hb.ext X13) (hr.ext X13) t1 t4 al bl rl hc (fun A7 c7 A8 c8 H4 X4 M4 R4 => ⟨_, _, _, _, _, _, rfl, h_awakeP (fun H5 X5 => ⟨_, rfl, ?_⟩)⟩)
  rw [if_pos rfl]
  have lD := pD_len (t := t) (r := r) (L := pL t a b')
  have lC := pC_len (r := r) (pL_len t a b')
  refine h_same (M3.mat.ext (X4.trans X5)) (M4.ext X5) (by rw [ms_length, lD]; unfold maxLen; omega) (fun x hx => ?_) ⟨_, rfl, ?_⟩
  · obtain ⟨l, hl, rfl⟩ := List.mem_map.1 hx
    obtain ⟨i, hi, rfl⟩ := List.getElem_of_mem hl
    have := pD_row (t := t) (r := r) (L := pL t a b') (by omega) (i := i) (by omega)
    have e : rowN (pD t r (pL t a b')) i = (pD t r (pL t a b'))[i] := by unfold rowN; simp [hi]
    rw [e] at this
    rw [vs_length, this]; unfold maxLen; omega
  · rw [if_pos (by simp)]
    refine h_sameList (R3.ext (X4.trans X5)) (R4.ext X5) (by rw [vs_length, lC]; unfold maxLen; omega) ⟨_, rfl, ?_⟩
    simp
end
section
end
end Go.Proofs.Ytjkggiemnfigbaa.HL
end
